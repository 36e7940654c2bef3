/- Show of package trace, its loop walked. Conditions: the listed variables are laid. -/
import Derived.Test.YtojleleohhaigaaDoorTrQ
namespace Go.Proofs.YtojleleohhaigaaDoor
open Go Go.RowKit

theorem tstr_app (x y : List UInt8) : Value.string (ByteArray.mk x.toArray ++ ByteArray.mk y.toArray) = str (x ++ y) := by
  have : ByteArray.mk x.toArray ++ ByteArray.mk y.toArray = ByteArray.mk (x ++ y).toArray := by
    apply ByteArray.ext
    simp [ByteArray.data_append]
  rw [this]
attribute [local go_sem] tstr_app
theorem itoa_zero (w : World) (hg : Gl w) : Calls Tryd.prog 20 #[.int .i64 0] w fun e w' => e = .returned (str (numL 10 0)) ∧ Only [] w w' := itoa_any 0 (by omega) w hg
theorem EvS.here {w : World} {p : Option Addr} {n c : Nat} {l : List Ev} (h : EvS w (.slice p n c) l) (h0 : 0 < l.length) : ∃ b off, p = some ⟨b, off, none⟩ ∧ b < w.heap.size ∧ l.length ≤ c ∧ ∀ (j : Nat) x, l[j]? = some x → EvAt w b (off + j * 5) x := by
  rcases h with ⟨p', c', he, rfl⟩ | ⟨b, off, c', he, -, hlc, hb, hE⟩
  · simp at h0
  · simp only [Value.slice.injEq] at he
    obtain ⟨rfl, -, rfl⟩ := he
    exact ⟨b, off, rfl, hb, hlc, hE⟩
theorem sjoin_any (g cap : Nat) (xs : List (List UInt8)) (w : World) (hc : ∀ (j : Nat) l, xs[j]? = some l → w.cell? ⟨g, j, none⟩ = some (str l)) (hg : g < w.heap.size) (hcap : xs.length ≤ cap) (hlen : (Lib.join xs [32]).length ≤ 140737488355328) (hn : xs.length ≤ 1000) :
    Calls Tryd.prog 24 #[.slice (some ⟨g, 0, none⟩) xs.length cap, .string ⟨#[32]⟩] w fun e w' => e = .returned (str (Lib.join xs [32])) ∧ Only [] w w' := by
  have hx : (xs.map fun l => (⟨l.toArray⟩ : ByteArray)).map (·.data.toList) = xs := by
    rw [List.map_map]
    exact (List.map_congr_left (g := id) (fun l _ => by simp)).trans (List.map_id xs)
  have hsh := Tryd.strings_Join g 0 cap (xs.map fun l => ⟨l.toArray⟩) ⟨#[32]⟩ w (fun j x hj => by
    rw [List.getElem?_map] at hj
    obtain ⟨l, hl, rfl⟩ := Option.map_eq_some_iff.1 hj
    rw [Nat.zero_add]
    exact hc j l hl) hg (by simp; omega) (by simpa using hcap) (by rw [hx]; exact hlen)
  rw [hx, List.length_map] at hsh
  refine hsh.mono ?_
  rintro e w' ⟨rfl, hO⟩
  exact ⟨rfl, Only.of_below hO⟩
theorem blk_words {w : World} {g : Nat} {xs : List (List UInt8)} (h : Blk w g 9 (xs.map str).toArray) : ∀ (j : Nat) l, xs[j]? = some l → w.cell? ⟨g, j, none⟩ = some (str l) := by
  intro j l hj
  rw [h.cell j]
  simp [hj]

set_option maxRecDepth 100000 in
set_option maxHeartbeats 8000000 in
theorem show_ok (l : List Ev) (hl : l.length ≤ 300000) (hf : ∀ x ∈ l, x.Fits) (hok : okT l = true) (v : Value) (w : World) (hg : Gl w) (hv : EvS w v l) :
    Calls Tryd.prog 8 #[v] w fun e w' => e = .returned (.tuple #[str (showT l), .int .i64 0]) ∧ Only [] w w' := by
  have hok' : rightL l = true ∧ l.any Ev.odd = false := by simpa [okT] using hok
  obtain ⟨hr, hd⟩ := hok'
  have HS := Lib.hid (shape_of hf hr hd)
  have HG := Lib.hid hg
  have HR := Lib.hid (right_any l (by omega) v w hv)
  have HC := Lib.hid (fun W (h : Only [] w W) => contains_any l (by omega) v W (EvS.only0 hv h))
  have HV := Lib.hid hv
  rw [hr] at HR
  rw [hd] at HC
  obtain ⟨pv, cv, rfl⟩ := hv.len
  clear hf hok hg hv hr hd
  go_enter Tryd.func8, Tryd.ntmps8
  go_wp2_with (first
    | (go_at_call 11; refine HR.out.mono ?_; rintro e w1 ⟨rfl, hO1⟩)
    | (go_at_call 19; refine (HC.out _ hO1).mono ?_; rintro e w2 ⟨rfl, hO2⟩))
  have hO3 : Only [] w w2 := hO1.trans hO2
  have hB0 := builder_new (w := w2)
  have hO4 := hO3.alloc (.cells #[.pointer none, .slice none 0 0] 52)
  have hlt0 : w2.heap.size < (w2.alloc (.cells #[.pointer none, .slice none 0 0] 52)).heap.size := by simp
  have hle0 : w.heap.size ≤ w2.heap.size := hO3.size
  generalize w2.alloc (.cells #[.pointer none, .slice none 0 0] 52) = W4 at *
  generalize w2.heap.size = b at *
  clear hO1 hO2 hO3 HR HC
  go_loopw [19] (fun i wr => ∃ k : Nat, i = .int .i64 k ∧ k ≤ l.length ∧ Lib.IsBuilder 52 5 b b (Lib.byteCells (showT (l.take k))) wr ∧ Only [] w wr ∧ b < wr.heap.size) (fun i _ => l.length - (intOf i).toNat)
  case atStart => exact ⟨0, rfl, by omega, hB0, hO4, hlt0⟩
  case round =>
    clear hB0 hO4 hlt0
    obtain ⟨k, rfl, hk, hB, hO, hbl⟩ := hrel
    by_cases hkl : k < l.length
    · have hki : (k : Int) < (l.length : Int) := by omega
      have ek : l[k]? = some l[k] := by simp
      obtain ⟨sb, off, rfl, hsb, hlc, hE⟩ := (EvS.only0 HV.out hO).here (by omega)
      obtain ⟨d0, d1, d2, d3, d4⟩ := hE k l[k] ek
      have hsh := HS.out l[k] (by simp)
      have htk : showT (l.take (k + 1)) = showT (l.take k) ++ (l[k].line ++ [10]) := by
        rw [show l.take (k + 1) = l.take k ++ [l[k]] by simp, showT_app]
        simp [showT]
      have hlen : (showT (l.take k)).length ≤ 300000 * 37 := Nat.le_trans (showT_len (fun x hx => HS.out x (List.mem_of_mem_take hx))) (by simp; omega)
      have hll := line_len hsh
      generalize l[k] = x at *
      generalize showT (l.take k) = T at hB htk hlen
      have HT := Lib.hid htk
      have HB := Lib.hid hB
      have hlk := hkl
      clear hE ek htk hB HV HS hkl
      cases hsh with
      | call a n h1 h2 =>
          go_upto_region 8 with fail
          have hB7 : Blk (wr.alloc (.cells (Ev.cs ⟨a, 2, 0, 0, n⟩) 44)) wr.heap.size 44 (Ev.cs ⟨a, 2, 0, 0, n⟩) := Blk.new _ _ _
          have hO7 := (Only.refl [] wr).alloc (.cells (Ev.cs ⟨a, 2, 0, 0, n⟩) 44)
          have hOw7 : Only [] w _ := hO.trans hO7
          generalize wr.alloc (.cells (Ev.cs ⟨a, 2, 0, 0, n⟩) 44) = W7 at *
          generalize hgg : wr.heap.size = g7 at hB7 ⊢
          have hg7 := hB7.lt
          refine wp_region_TT 6 (Only [] W7) (by kernel_rfl) (by kernel_rfl) ((Only.refl _ _).drew) ?_
          simp only [List.take_succ_cons, List.take_zero, List.drop_succ_cons, List.drop_zero]
          repeat (
            refine wpT_step ?_ (stD rfl (fun w' hD => ?_)) ?_
            rotate_left
            · obtain ⟨c0, c1, c2, c3, c4, -⟩ := Blk.ev (x := ⟨a, 2, 0, 0, n⟩) (hD.blk hB7 (by simp))
              have hgw : Gl w' := HG.out.only (hOw7.trans hD)
              go_simp
              first
                | (refine ⟨?_, hD⟩; rfl)
                | (change Calls _ _ _ _ _
                   with_reducible refine (itoa_any a (by omega) w' hgw).mono ?_
                   rintro e w'' ⟨rfl, h⟩
                   refine ⟨?_, hD.trans h⟩
                   rfl)
                | (change Calls _ _ _ _ _
                   with_reducible refine (itoa_any n (by omega) w' hgw).mono ?_
                   rintro e w'' ⟨rfl, h⟩
                   refine ⟨?_, hD.trans h⟩
                   rfl)
            simp only [Act.put, List.setIfInBounds_toArray, List.set_cons_succ, List.set_cons_zero, Nat.reduceAdd])
          refine wpT_nil ?_
          intro w8 hD8
          have hO8 : Only [] w w8 := hOw7.trans hD8
          have hg8 : g7 < w8.heap.size := Nat.lt_of_lt_of_le hg7 hD8.size
          have hB9 := (hD8.blk hB7 (by simp)).alloc (.cells #[str (numL 10 a), str [99, 97, 108, 108], str (numL 10 n)] 9)
          have hO9 := hO8.alloc (.cells #[str (numL 10 a), str [99, 97, 108, 108], str (numL 10 n)] 9)
          have hW9 : Blk (w8.alloc (.cells #[str (numL 10 a), str [99, 97, 108, 108], str (numL 10 n)] 9)) w8.heap.size 9 #[str (numL 10 a), str [99, 97, 108, 108], str (numL 10 n)] := Blk.new _ _ _
          have hBB9 := builder_only HB.out ((hO7.trans hD8).alloc (.cells #[str (numL 10 a), str [99, 97, 108, 108], str (numL 10 n)] 9))
          have hbl9 : b < (w8.alloc (.cells #[str (numL 10 a), str [99, 97, 108, 108], str (numL 10 n)] 9)).heap.size := by have := hD8.size; have := hO7.size; simp; omega
          go_upto_region 9 with fail
          generalize w8.alloc (.cells #[str (numL 10 a), str [99, 97, 108, 108], str (numL 10 n)] 9) = W9 at *
          generalize hg9 : w8.heap.size = g9 at *
          have hg9l := hW9.lt
          clear hB7 hO7 hOw7 hD8 hO8
          obtain ⟨c0, c1, c2, c3, c4, -⟩ := Blk.ev (x := ⟨a, 2, 0, 0, n⟩) hB9
          have hov : ¬ 9223372036854775807 < (Lib.join [numL 10 a, [99, 97, 108, 108], numL 10 n] [32]).length + 1 := by
            have h36 : (Lib.join [numL 10 a, [99, 97, 108, 108], numL 10 n] [32]).length ≤ 36 := hll
            omega
          go_wp2_with (first
            | (go_at_call 21; refine (reply_5 _ _ _ _ _ _).mono ?_; rintro e w10 ⟨rfl, hO10⟩)
            | (go_at_call 24; refine (sjoin_any g9 3 [numL 10 a, [99, 97, 108, 108], numL 10 n] w10 (blk_words (xs := [numL 10 a, [99, 97, 108, 108], numL 10 n]) (hO10.blk hW9 (by simp))) (Nat.lt_of_lt_of_le hg9l hO10.size) (by simp) (Nat.le_trans hll (by omega)) (by simp)).mono ?_; rintro e w11 ⟨rfl, hO11⟩)
            | (go_at_call 23; refine (write_any b b T (Lib.join [numL 10 a, [99, 97, 108, 108], numL 10 n] [32] ++ [10]) w11 (builder_only hBB9 (hO10.trans hO11)) (by have h36 : (Lib.join [numL 10 a, [99, 97, 108, 108], numL 10 n] [32]).length ≤ 36 := hll; simp only [List.length_append, List.length_cons, List.length_nil]; omega) (by have := hO10.size; have := hO11.size; omega)).mono ?_; rintro e w12 ⟨⟨vw, rfl⟩, hB12, hb12⟩))
          refine ⟨⟨k + 1, by go_num, by omega, ?_, only_below ((hO9.trans hO10).trans hO11) (hb12.mono hle0), ?_⟩, ?_⟩
          · rw [HT.out]
            exact hB12
          · have := hO10.size; have := hO11.size; have := hb12.size; omega
          · simp [intOf]
            omega
      | reply a v e h1 h2 h3 =>
          go_upto_region 8 with fail
          have hB7 : Blk (wr.alloc (.cells (Ev.cs ⟨a, 1, v, e, 0⟩) 44)) wr.heap.size 44 (Ev.cs ⟨a, 1, v, e, 0⟩) := Blk.new _ _ _
          have hO7 := (Only.refl [] wr).alloc (.cells (Ev.cs ⟨a, 1, v, e, 0⟩) 44)
          have hOw7 : Only [] w _ := hO.trans hO7
          generalize wr.alloc (.cells (Ev.cs ⟨a, 1, v, e, 0⟩) 44) = W7 at *
          generalize hgg : wr.heap.size = g7 at hB7 ⊢
          have hg7 := hB7.lt
          refine wp_region_TT 6 (Only [] W7) (by kernel_rfl) (by kernel_rfl) ((Only.refl _ _).drew) ?_
          simp only [List.take_succ_cons, List.take_zero, List.drop_succ_cons, List.drop_zero]
          repeat (
            refine wpT_step ?_ (stD rfl (fun w' hD => ?_)) ?_
            rotate_left
            · obtain ⟨c0, c1, c2, c3, c4, -⟩ := Blk.ev (x := ⟨a, 1, v, e, 0⟩) (hD.blk hB7 (by simp))
              have hgw : Gl w' := HG.out.only (hOw7.trans hD)
              go_simp
              first
                | (refine ⟨?_, hD⟩; rfl)
                | (change Calls _ _ _ _ _
                   with_reducible refine (itoa_any a (by omega) w' hgw).mono ?_
                   rintro e w'' ⟨rfl, h⟩
                   refine ⟨?_, hD.trans h⟩
                   rfl)
                | (change Calls _ _ _ _ _
                   with_reducible refine (itoa_zero w' hgw).mono ?_
                   rintro e w'' ⟨rfl, h⟩
                   refine ⟨?_, hD.trans h⟩
                   rfl)
            simp only [Act.put, List.setIfInBounds_toArray, List.set_cons_succ, List.set_cons_zero, Nat.reduceAdd])
          refine wpT_nil ?_
          intro w8 hD8
          have hO8 : Only [] w w8 := hOw7.trans hD8
          have hg8 : g7 < w8.heap.size := Nat.lt_of_lt_of_le hg7 hD8.size
          have hB9 := (hD8.blk hB7 (by simp)).alloc (.cells #[str (numL 10 a), str [99, 97, 108, 108], str (numL 10 0)] 9)
          have hO9 := hO8.alloc (.cells #[str (numL 10 a), str [99, 97, 108, 108], str (numL 10 0)] 9)
          have hW9 : Blk (w8.alloc (.cells #[str (numL 10 a), str [99, 97, 108, 108], str (numL 10 0)] 9)) w8.heap.size 9 #[str (numL 10 a), str [99, 97, 108, 108], str (numL 10 0)] := Blk.new _ _ _
          have hBB9 := builder_only HB.out ((hO7.trans hD8).alloc (.cells #[str (numL 10 a), str [99, 97, 108, 108], str (numL 10 0)] 9))
          have hbl9 : b < (w8.alloc (.cells #[str (numL 10 a), str [99, 97, 108, 108], str (numL 10 0)] 9)).heap.size := by have := hD8.size; have := hO7.size; simp; omega
          go_upto_region 9 with fail
          generalize w8.alloc (.cells #[str (numL 10 a), str [99, 97, 108, 108], str (numL 10 0)] 9) = W9 at *
          generalize hg9 : w8.heap.size = g9 at *
          have hg9l := hW9.lt
          clear hB7 hO7 hOw7 hD8 hO8
          obtain ⟨c0, c1, c2, c3, c4, -⟩ := Blk.ev (x := ⟨a, 1, v, e, 0⟩) hB9
          have hov : ¬ 9223372036854775807 < (Lib.join [numL 10 a, [114, 101, 112, 108, 121], numL 16 v, numL 10 e] [32]).length + 1 := by
            have h36 : (Lib.join [numL 10 a, [114, 101, 112, 108, 121], numL 16 v, numL 10 e] [32]).length ≤ 36 := hll
            omega
          go_upto_region 10 with (go_at_call 21; refine (reply_5 _ _ _ _ _ _).mono ?_; rintro e w10 ⟨rfl, hO10⟩)
          have hOw10 : Only [] w w10 := hO9.trans hO10
          have hB10 := hO10.blk hB9 (by simp)
          have hBB10 := builder_only hBB9 hO10
          have hbl10 : b < w10.heap.size := Nat.lt_of_lt_of_le hbl9 hO10.size
          clear hB9 hBB9 hbl9 hO9 hO10 hW9 c0 c1 c2 c3 c4
          have hvm : IntKind.u64.wrap (v : Int) = (v : Int) := by
            rw [show IntKind.u64.wrap (v : Int) = (v : Int) % 18446744073709551616 from by simp [IntKind.wrap, IntKind.bits, IntKind.signed]]
            omega
          refine wp_region_TT 10 (Only [] w10) (by kernel_rfl) (by kernel_rfl) ((Only.refl _ _).drew) ?_
          simp only [List.take_succ_cons, List.take_zero, List.drop_succ_cons, List.drop_zero]
          repeat (
            refine wpT_step ?_ (stD rfl (fun w' hD => ?_)) ?_
            rotate_left
            · obtain ⟨c0, c1, c2, c3, c4, -⟩ := Blk.ev (x := ⟨a, 1, v, e, 0⟩) (hD.blk hB10 (by simp))
              have hgw : Gl w' := HG.out.only (hOw10.trans hD)
              go_simp
              first
                | (refine ⟨?_, hD⟩; rfl)
                | (change Calls _ _ _ _ _
                   with_reducible refine (itoa_any a (by omega) w' hgw).mono ?_
                   rintro e w'' ⟨rfl, h⟩
                   refine ⟨?_, hD.trans h⟩
                   rfl)
                | (change Calls _ _ _ _ _
                   with_reducible refine (itoa_any e (by omega) w' hgw).mono ?_
                   rintro e w'' ⟨rfl, h⟩
                   refine ⟨?_, hD.trans h⟩
                   rfl)
                | (change Calls _ _ _ _ _
                   with_reducible refine (fmt16_any v h2 w' hgw).mono ?_
                   rintro e w'' ⟨rfl, h⟩
                   refine ⟨?_, hD.trans h⟩
                   rfl)
            simp only [Act.put, List.setIfInBounds_toArray, List.set_cons_succ, List.set_cons_zero, Nat.reduceAdd])
          refine wpT_nil ?_
          intro w11 hD11
          have hO12 := (hOw10.trans hD11).alloc (.cells #[str (numL 10 a), str [114, 101, 112, 108, 121], str (numL 16 v), str (numL 10 e)] 9)
          have hW12 : Blk (w11.alloc (.cells #[str (numL 10 a), str [114, 101, 112, 108, 121], str (numL 16 v), str (numL 10 e)] 9)) w11.heap.size 9 #[str (numL 10 a), str [114, 101, 112, 108, 121], str (numL 16 v), str (numL 10 e)] := Blk.new _ _ _
          have hBB12 := builder_only hBB10 (hD11.alloc (.cells #[str (numL 10 a), str [114, 101, 112, 108, 121], str (numL 16 v), str (numL 10 e)] 9))
          have hbl12 : b < (w11.alloc (.cells #[str (numL 10 a), str [114, 101, 112, 108, 121], str (numL 16 v), str (numL 10 e)] 9)).heap.size := by have := hD11.size; simp; omega
          go_upto_region 11 with fail
          generalize w11.alloc (.cells #[str (numL 10 a), str [114, 101, 112, 108, 121], str (numL 16 v), str (numL 10 e)] 9) = W12 at *
          generalize hg12 : w11.heap.size = g12 at *
          have hg12l := hW12.lt
          clear hB10 hBB10 hOw10 hD11
          go_wp2_with (first
            | (go_at_call 24; refine (sjoin_any g12 4 [numL 10 a, [114, 101, 112, 108, 121], numL 16 v, numL 10 e] W12 (blk_words (xs := [numL 10 a, [114, 101, 112, 108, 121], numL 16 v, numL 10 e]) hW12) hg12l (by simp) (Nat.le_trans hll (by omega)) (by simp)).mono ?_; rintro e w13 ⟨rfl, hO13⟩)
            | (go_at_call 23; refine (write_any b b T (Lib.join [numL 10 a, [114, 101, 112, 108, 121], numL 16 v, numL 10 e] [32] ++ [10]) w13 (builder_only hBB12 hO13) (by have h36 : (Lib.join [numL 10 a, [114, 101, 112, 108, 121], numL 16 v, numL 10 e] [32]).length ≤ 36 := hll; simp only [List.length_append, List.length_cons, List.length_nil]; omega) (by have := hO13.size; omega)).mono ?_; rintro e w14 ⟨⟨vw, rfl⟩, hB14, hb14⟩))
          refine ⟨⟨k + 1, by go_num, by omega, ?_, only_below (hO12.trans hO13) (hb14.mono hle0), ?_⟩, ?_⟩
          · rw [HT.out]
            exact hB14
          · have := hO13.size; have := hb14.size; omega
          · simp [intOf]
            omega
    · have hki : ¬ (k : Int) < (l.length : Int) := by omega
      rw [List.take_of_length_le (by omega)] at hB
      have HF := Lib.hid (Tryd.Builder_String_any b b (showT l) wr hB (by omega))
      clear hB HV HS
      go_wp2_with (go_at_call 25; refine HF.out.mono ?_; rintro e w' ⟨rfl, hb⟩)
      go_returns
      exact ⟨rfl, only_below hO (hb.mono (by omega))⟩

set_option maxHeartbeats 2000000 in
theorem show_any (l : List Ev) (hl : l.length ≤ 300000) (hf : ∀ x ∈ l, x.Fits) (v : Value) (w : World) (hg : Gl w) (hv : EvS w v l) :
    Calls Tryd.prog 8 #[v] w fun e w' => e = .returned (.tuple #[str (shown l), .int .i64 (showE l)]) ∧ Only [] w w' := by
  cases hok : okT l with
  | true =>
    have e1 : shown l = showT l := by simp [shown, hok]
    have e2 : showE l = 0 := by simp [showE, hok]
    rw [e1, e2]
    exact show_ok l hl hf hok v w hg hv
  | false =>
    have e1 : shown l = [] := by simp [shown, hok]
    have e2 : showE l = 4 := by simp [showE, hok]
    rw [e1, e2]
    have HR := Lib.hid (right_any l (by omega) v w hv)
    have HC := Lib.hid (fun W (h : Only [] w W) => contains_any l (by omega) v W (EvS.only0 hv h))
    clear hv e1 e2
    cases hr : rightL l with
    | false =>
      rw [hr] at HR
      go_enter Tryd.func8, Tryd.ntmps8
      go_wp2_with (go_at_call 11; refine HR.out.mono ?_; rintro e w1 ⟨rfl, hO1⟩)
      go_returns
      exact ⟨rfl, hO1⟩
    | true =>
      have hd : l.any Ev.odd = true := by
        unfold okT at hok
        rw [hr] at hok
        simpa using hok
      rw [hr] at HR
      rw [hd] at HC
      go_enter Tryd.func8, Tryd.ntmps8
      go_wp2_with (first
        | (go_at_call 11; refine HR.out.mono ?_; rintro e w1 ⟨rfl, hO1⟩)
        | (go_at_call 19; refine (HC.out _ hO1).mono ?_; rintro e w2 ⟨rfl, hO2⟩))
      go_returns
      exact ⟨rfl, hO1.trans hO2⟩
end Go.Proofs.YtojleleohhaigaaDoor
