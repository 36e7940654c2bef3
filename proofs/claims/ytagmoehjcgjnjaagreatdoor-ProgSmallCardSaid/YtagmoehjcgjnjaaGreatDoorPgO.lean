/- One of package prog, walked. Conditions: the listed variables are laid; the line is short. -/
import Derived.Test.YtagmoehjcgjnjaaGreatDoorPgA
import Derived.Test.YtagmoehjcgjnjaaGreatDoorPgP
namespace Go.Proofs.YtagmoehjcgjnjaaGreatDoor
open Go Go.RowKit

theorem join_split : ∀ (k : Nat) (s : List UInt8) (c : UInt8), Lib.join (Lib.splitK [c] 0 k s) [c] = s
  | 0, s, c => by simp [Lib.splitK, Lib.join_one]
  | k + 1, s, c => by
    unfold Lib.splitK
    split
    · exact Lib.join_one _ _
    · rename_i h
      have hne : Lib.index s [c] ≠ -1 := by simpa using h
      have ih := join_split k (s.drop ((Lib.index s [c]).toNat + 1)) c
      have hx : ∀ (x : List UInt8) (l : List (List UInt8)), l ≠ [] → Lib.join (x :: l) [c] = x ++ c :: Lib.join l [c] := by
        intro x l hl
        cases l with
        | nil => exact absurd rfl hl
        | cons y r =>
          rw [Lib.join_cons, Lib.join_cons]
          simp [Lib.joinTail]
      have hsn : Lib.splitK [c] 0 k (s.drop ((Lib.index s [c]).toNat + 1)) ≠ [] := by
        cases k with
        | zero => simp [Lib.splitK]
        | succ k => unfold Lib.splitK; split <;> simp
      rw [show ([c] : List UInt8).length = 1 from rfl, hx _ _ hsn, ih, Nat.add_zero]
      rw [Lib.index_one] at hne ⊢
      have key : ∀ (s : List UInt8), Lib.indexByte s c ≠ -1 → s.take (Lib.indexByte s c).toNat ++ c :: s.drop ((Lib.indexByte s c).toNat + 1) = s := by
        intro s
        induction s with
        | nil => intro h; exact absurd rfl h
        | cons b l ih =>
          intro h
          unfold Lib.indexByte at h ⊢
          by_cases hb : (b == c) = true
          · rw [if_pos hb]
            have : b = c := by simpa using hb
            subst this
            simp
          · rw [if_neg hb] at h ⊢
            by_cases hm : (Lib.indexByte l c == -1) = true
            · rw [if_pos hm] at h; exact absurd rfl h
            · rw [if_neg hm]
              have hge := Lib.indexByte_ge l c
              have hm' : Lib.indexByte l c ≠ -1 := by simpa using hm
              have e : (Lib.indexByte l c + 1).toNat = (Lib.indexByte l c).toNat + 1 := by omega
              rw [e, List.take_succ_cons, List.drop_succ_cons, List.cons_append, ih hm']
      exact key s hne
theorem join_words (s : List UInt8) : Lib.join (wordsOf s) [32] = s := by rw [wordsOf_eq, join_split]
theorem join_tail (ws : List (List UInt8)) (c : UInt8) : (Lib.join ws.tail [c]).length ≤ (Lib.join ws [c]).length := by
  cases ws with
  | nil => exact Nat.le_refl _
  | cons x r =>
    cases r with
    | nil => simp [Lib.join, List.intercalate]
    | cons y r =>
      have : Lib.join (x :: y :: r) [c] = x ++ c :: Lib.join (y :: r) [c] := by
        rw [Lib.join_cons, Lib.join_cons]
        simp [Lib.joinTail]
      rw [this]
      simp
      omega

theorem psplit_any (y : List UInt8) (h : y.length ≤ 1000000) (w : World) (hg : Gl w) : Calls Tryz.prog 32 #[str y, .string ⟨#[32]⟩] w fun e w' => ∃ g, e = .returned (.slice (some ⟨g, 0, none⟩) (wordsOf y).length (wordsOf y).length) ∧ w.heap.size ≤ g ∧ Blk w' g 9 ((wordsOf y).map str).toArray ∧ Only [] w w' := by
  obtain ⟨m, hm⟩ := hg.ml
  refine (Tryz.strings_Split ⟨y.toArray⟩ ⟨#[32]⟩ m w (by simp [ByteArray.size]; omega) hm (by decide)).mono ?_
  rintro e w' ⟨rfl, rfl⟩
  rw [wordsOf_length, ← wordsB_str]
  exact ⟨_, rfl, Nat.le_refl _, Blk.new _ _ _, (Only.refl _ _).alloc _⟩

/-- What the words fit. -/
theorem In.Fits.withOp {x : In} (h : x.Fits) (n : Int) : (x.withOp n).Fits := ⟨h.ad, h.dt, h.cf⟩
theorem In.Fits.withTo {x : In} (h : x.Fits) (n : Int) : (x.withTo n).Fits := ⟨h.ad, h.dt, h.cf⟩
theorem In.Fits.withDt {x : In} (h : x.Fits) (n : Nat) (hn : n ≤ 4294967295) : (x.withDt n).Fits := ⟨h.ad, by show 0 ≤ (n : Int) ∧ (n : Int) < 4294967296; omega, h.cf⟩
theorem In.Fits.withAt {x : In} (h : x.Fits) (a : Int) (n : Nat) (b : Bool) (hn : n ≤ 4294967295) : (x.withAt a n b).Fits := ⟨by show 0 ≤ (n : Int) ∧ (n : Int) < 4294967296; omega, h.dt, h.cf⟩
theorem Cf.zero_fits : Cf.zero.Fits := ⟨by decide, by decide⟩
theorem In.only_fits (n : Int) : (In.only n).Fits := ⟨by show (0 : Int) ≤ 0 ∧ (0 : Int) < 4294967296; decide, by show (0 : Int) ≤ 0 ∧ (0 : Int) < 4294967296; decide, Cf.zero_fits⟩
theorem numS_fits (b : Nat) {x : In} (h : x.Fits) (r : List (List UInt8)) : (numS b (x, r)).1.Fits := by
  unfold numS
  simp only
  split
  · exact h
  · exact h.withOp 0
theorem dataP_fits {x : In} (h : x.Fits) (r : List (List UInt8)) : (dataP x r).Fits := by
  have h1 := (numS_fits 16 h r).withDt _ (numV_max 16 (r.headD []))
  unfold dataP
  simp only
  split
  · exact (numS_fits 10 h1 _).withTo _
  · exact h1
theorem readC_fits (s : List UInt8) : (readC s (parse s)).Fits := by
  unfold readC
  split
  · exact parse_fits s
  · exact Cf.zero_fits
theorem scanP_fits (ws : List (List UInt8)) : (scanP ws).Fits := by
  unfold scanP restP
  split
  · unfold atP
    have h1 := (numS_fits 16 (numS_fits 10 (In.only_fits (opOf (ws.headD []))) ws.tail) (numS 10 (In.only (opOf (ws.headD [])), ws.tail)).2).withAt (numV 10 (ws.tail.headD [])) _ (ws.tail.tail.tail.headD [] == [43]) (numV_max 16 (ws.tail.tail.headD []))
    simp only
    split
    · exact dataP_fits h1 _
    · exact h1
  · split
    · exact dataP_fits (In.only_fits _) _
    · split
      · exact (numS_fits 10 (In.only_fits _) _).withTo _
      · split
        · exact (numS_fits 10 (In.only_fits _) _).withDt _ (numV_max 10 _)
        · split
          · exact ⟨(In.only_fits 9).ad, (In.only_fits 9).dt, readC_fits _⟩
          · exact In.only_fits _

/-- What One answers. -/
def oneOk (s : List UInt8) : Bool := (scanP (wordsOf s)).ok && (scanP (wordsOf s)).line == s
def oneX (s : List UInt8) : In := if oneOk s then scanP (wordsOf s) else In.only 0
def oneE (s : List UInt8) : Int := if oneOk s then 0 else 8

theorem ScW.rng {w : World} {rb sb : Nat} {x : In} {ws : List (List UInt8)} (h : ScW w rb sb x ws) : w.rangeAt rb 1 x.cs.toList := fun j v hj => by
  rw [Nat.add_comm, h.cell j, ← Array.getElem?_toList]
  exact hj
theorem blk_words {w : World} {g : Nat} {xs : List (List UInt8)} (h : Blk w g 9 (xs.map str).toArray) : ∀ (j : Nat) l, xs[j]? = some l → w.cell? ⟨g, j, none⟩ = some (str l) := by
  intro j l hj
  rw [h.cell j]
  simp [hj]
theorem setL_in (x y : In) : setL y.cs 0 x.cs.toList = x.cs := by simp [setL]

attribute [local go_sem ↓] str_neq

set_option maxRecDepth 100000 in
set_option maxHeartbeats 4000000 in
theorem one_any (s : List UInt8) (hs : s.length < 900000) (w : World) (hg : Gl w) :
    Calls Tryz.prog 18 #[str s] w fun e w' => e = .returned (.tuple #[(oneX s).agg, .int .i64 (oneE s)]) ∧ Only [] w w' := by
  have hsh : Short (wordsOf s) := words_short (by omega)
  have hj : (Lib.join (wordsOf s).tail [32]).length < 1000000 := by
    have := join_tail (wordsOf s) 32
    rw [join_words] at this
    omega
  have hw0 : 0 < (wordsOf s).length := by rw [wordsOf_length]; omega
  have HSp := Lib.hid (fun W hg => psplit_any s (by omega) W hg)
  have HSc := Lib.hid (fun W rb sb hg hrb hR => scan_any rb sb (wordsOf s) hsh W hg hrb hj hR)
  have HLn := Lib.hid (fun W hg => line_any (scanP (wordsOf s)) (scanP_fits _) W hg)
  have HA : Hid ((oneX s = if oneOk s then scanP (wordsOf s) else In.only 0) ∧ (oneE s = if oneOk s then 0 else 8) ∧ oneOk s = ((scanP (wordsOf s)).ok && (scanP (wordsOf s)).line == s)) := ⟨rfl, rfl, rfl⟩
  have HS2 : Hid ((scanP (wordsOf s)).shown = (if (scanP (wordsOf s)).ok then (scanP (wordsOf s)).line else []) ∧ (scanP (wordsOf s)).err = if (scanP (wordsOf s)).ok then 0 else 4) := ⟨rfl, rfl⟩
  generalize oneX s = ox at *
  generalize oneE s = oe at *
  generalize oneOk s = ok at *
  generalize scanP (wordsOf s) = x at *
  have hwl : (wordsOf s).length ≤ 1000000 := hsh.1
  have HW := Lib.hid (And.intro hw0 hwl)
  clear hsh hj hw0 hwl
  have h8 : 8 ≤ w.heap.size := hg.lt
  go_enter Tryz.func18, Tryz.ntmps18
  go_wp2_with fail
  refine (HSp.out _ (hg.only ((Only.refl _ _).alloc _))).mono ?_
  rintro e w1 ⟨wb, rfl, hwb, hBw, hO1⟩
  have hR1 : Blk w1 w.heap.size 33 (In.only 0).cs := hO1.blk (Blk.new w _ (In.only 0).cs) (by simp)
  have hOw1 : Only [] w w1 := ((Only.refl [] w).alloc (.cells (In.only 0).cs 33)).trans hO1
  have hwb2 : w.heap.size + 1 ≤ wb := by simpa using hwb
  have hwl1 := hBw.lt
  have hO2 : Only [] w1 (w1.alloc (.cells ((In.only 0).scs (.slice (some ⟨wb, 0, none⟩) (wordsOf s).length (wordsOf s).length)) 76)) := (Only.refl _ _).alloc _
  have hSW : ScW (w1.alloc (.cells ((In.only 0).scs (.slice (some ⟨wb, 0, none⟩) (wordsOf s).length (wordsOf s).length)) 76)) w1.heap.size wb (In.only 0) (wordsOf s) :=
    ⟨0, Blk.new _ _ _, by simp; omega, by omega, fun j l hj => by rw [Nat.zero_add]; exact blk_words (hO2.blk hBw (by simp)) j l hj⟩
  have HX := Lib.hid (And.intro hSW (And.intro hR1 (And.intro hOw1 hO2)))
  have HG := Lib.hid hg
  have hz1 := hOw1.size
  clear hSW hR1 hOw1 hO2 hBw hO1 hg hwb HSp
  go_wp2_with fail
  refine (HSc.out _ w1.heap.size wb (HG.out.only (HX.out.2.2.1.trans HX.out.2.2.2)) (by omega) HX.out.1).mono ?_
  rintro e w2 ⟨rfl, ⟨ws', hSc2⟩, hO3⟩
  have hOw2 : Only [] w w2 := (HX.out.2.2.1.trans HX.out.2.2.2).trans' hO3 (by intro z hz hlt; simp at hz; omega)
  have hR2 : Blk w2 w.heap.size 33 (In.only 0).cs := hO3.blk (HX.out.2.2.2.blk HX.out.2.1 (by simp)) (by have := HX.out.2.1.lt; simp; omega)
  have HRx := Lib.hid hSc2.rng
  have hl2 := hSc2.lt
  have hlR := hR2.lt
  have HY := Lib.hid (And.intro hOw2 hR2)
  clear HX HSc hSc2 hO3 hOw2 hR2 hwb2 hwl1
  have key : ∀ (y : In) (W3 W4 : World), Only [] w2 W3 → Blk W4 w.heap.size 33 (setL (In.only 0).cs 0 y.cs.toList) → Only [w.heap.size] W3 W4 → Only [] w W4 ∧ (loadVar 33 ⟨w.heap.size, 0, none⟩).run Tryz.prog W4 = .ok y.agg W4 := fun y W3 W4 h3 h4 h5 => by
    rw [setL_in] at h4
    exact ⟨(HY.out.1.trans h3).trans' h5 (by intro z hz hlt; simp at hz; omega), run_loadVar_mid W4 w.heap.size 0 _ y.cs.toList _ (Blk.rng h4) Tryz.underlying33 rfl (by kernel_rfl)⟩
  have HK := Lib.hid key
  clear key
  cases hok : x.ok with
  | false =>
    have HF : Hid (ox = In.only 0 ∧ oe = 8) := Lib.hid (by rw [HA.out.1, HA.out.2.1, HA.out.2.2, hok]; exact ⟨rfl, rfl⟩)
    have hsh := HS2.out
    rw [hok] at hsh
    rw [hsh.1, hsh.2] at HLn
    clear hsh hok HA HS2
    go_wp2_with (first
      | (refine wpList_ld 33 x w1.heap.size 1 _ rfl (.inl rfl) rfl rfl HRx.out ?_)
      | (go_at_call 17; refine (HLn.out _ (HG.out.only HY.out.1)).mono ?_; rintro e w3 ⟨rfl, hO4⟩)
      | (refine wpList_st 33 (In.only 0).cs.toList w.heap.size 0 _ _ rfl (by kernel_rfl) rfl rfl rfl rfl (hO4.blk HY.out.2 (by simp)) (Nat.le_of_ble_eq_true rfl) ?_; intro w4 hB4 hO5))
    have hk := HK.out (In.only 0) _ _ hO4 hB4 hO5
    exact bodyPost_ret (v := .tuple #[(In.only 0).agg, .int .i64 8]) (by have := hk.2; simp [results, Tryz.results18, asAddr, this]) rfl ⟨by rw [HF.out.1, HF.out.2], hk.1⟩
  | true =>
    have hsh := HS2.out
    rw [hok] at hsh
    simp only [if_true] at hsh
    rw [hsh.1, hsh.2] at HLn
    clear hsh HS2
    by_cases hl : x.line = s
    · have HF : Hid (ox = x ∧ oe = 0) := Lib.hid (by rw [HA.out.1, HA.out.2.1, HA.out.2.2, hok, hl]; simp)
      rw [hl] at HLn
      clear hok hl HA
      go_wp2_with (first
        | (refine wpList_ld 33 x w1.heap.size 1 _ rfl (.inl rfl) rfl rfl HRy.out ?_)
        | (refine wpList_ld 33 x w1.heap.size 1 _ rfl (.inl rfl) rfl rfl HRx.out ?_)
        | (go_at_call 17; refine (HLn.out _ (HG.out.only HY.out.1)).mono ?_; rintro e w3 ⟨rfl, hO4⟩; have HRy := Lib.hid (rng_only HRx.out hO4 hl2 (by simp)))
        | (refine wpList_st 33 x.cs.toList w.heap.size 0 _ _ rfl (by kernel_rfl) rfl rfl rfl rfl (hO4.blk HY.out.2 (by simp)) (Nat.le_of_ble_eq_true rfl) ?_; intro w4 hB4 hO5))
      have hk := HK.out x _ _ hO4 hB4 hO5
      exact bodyPost_ret (v := .tuple #[x.agg, .int .i64 0]) (by have := hk.2; simp [results, Tryz.results18, asAddr, this]) rfl ⟨by rw [HF.out.1, HF.out.2], hk.1⟩
    · have HF : Hid (ox = In.only 0 ∧ oe = 8) := Lib.hid (by rw [HA.out.1, HA.out.2.1, HA.out.2.2, hok]; simp [hl])
      have hd : (x.line == s) = false := by simpa using hl
      clear hok hl HA
      generalize x.line = tl at *
      go_wp2_with (first
        | (refine wpList_ld 33 x w1.heap.size 1 _ rfl (.inl rfl) rfl rfl HRx.out ?_)
        | (go_at_call 17; refine (HLn.out _ (HG.out.only HY.out.1)).mono ?_; rintro e w3 ⟨rfl, hO4⟩)
        | (refine wpList_st 33 (In.only 0).cs.toList w.heap.size 0 _ _ rfl (by kernel_rfl) rfl rfl rfl rfl (hO4.blk HY.out.2 (by simp)) (Nat.le_of_ble_eq_true rfl) ?_; intro w4 hB4 hO5))
      have hk := HK.out (In.only 0) _ _ hO4 hB4 hO5
      exact bodyPost_ret (v := .tuple #[(In.only 0).agg, .int .i64 8]) (by have := hk.2; simp [results, Tryz.results18, asAddr, this]) rfl ⟨by rw [HF.out.1, HF.out.2], hk.1⟩
end Go.Proofs.YtagmoehjcgjnjaaGreatDoor
