/- Show of package prog; SameProgram of the statements' kit, walked. Conditions: the listed variables are laid; words fit. -/
import Derived.Test.YtagmoehjcgjnjaaGreatDoorPgW0
import Derived.LoopTactic
namespace Go.Proofs.YtagmoehjcgjnjaaGreatDoor
open Go Go.RowKit

/-- Rows of words. -/
theorem wpList_append_w {w : World} {ops : Array Oper} {rest : List Oper} {o : Oper} {a : Act} {Q : Exit → Act → World → Prop} (hgd : o.guard = none) (s y : Operand)
    (ho : o.op = .call { callee := .builtin .append, args := #[s, y], argTypes := #[43, 43] }) (base : Nat) (xs : List (List UInt8)) (z : List UInt8) (v : Value) (hs : a.eval s = v) (hR : w.ownsRow base 9 1 v xs.length (xs.map str))
    (g c : Nat) (hy : a.eval y = .slice (some ⟨g, 0, none⟩) 1 c) (hB : Blk w g 9 #[str z]) (hl : xs.length ≤ 1000000) (hbase : base ≤ w.heap.size)
    (h : ∀ v' w', w'.ownsRow base 9 1 v' (xs ++ [z]).length ((xs ++ [z]).map str) → OnlyB base [] w w' → wpList Tryz.prog ops Q rest (a.put o.dst v') w') : wpList Tryz.prog ops Q (o :: rest) a w := by
  obtain ⟨i0, hi0, hz0, hz1, hz2⟩ := info_parts infoString
  have hown : ∀ q, v.ownBlock = some q → base ≤ q := by
    intro q hq
    rcases hR.2 with ⟨rfl, -⟩ | ⟨g', cap, cur, rfl, hgb, -⟩
    · simp [Value.ownBlock] at hq
    · simp [Value.ownBlock] at hq
      omega
  refine wpList_append_own _ hgd s y 43 ho base 9 i0 (.string ⟨#[]⟩) 1 16 Tryz.underlying43 hi0 hz0 hz1 hz2 rfl (by decide) v xs.length _ hs hR ⟨g, 0, none⟩ 1 c [str z] hy rfl (news_blk hB rfl) (one_cell z) (by unfold maxLen; omega) (by omega) hbase ?_
  intro v' w' ho hg _
  refine h v' w' ?_ ⟨hg.os, hg.tape, hg.output, hg.size, fun k hk _ => hg.block k (by omega) (fun e => by have := hown k e.symm; omega)⟩
  rw [List.map_append, List.length_append]
  exact ho
theorem row_onlyB {w w' : World} {base : Nat} {e : TypeId} {size n : Nat} {v : Value} {xs : List Value} (h : w.ownsRow base e size v n xs) (hO : Only [] w w') : w'.ownsRow base e size v n xs := by
  refine ⟨h.1, h.2.imp id ?_⟩
  rintro ⟨g, cap, cur, rfl, hb, hg, r⟩
  exact ⟨g, cap, cur, rfl, hb, (hO.block g (Blk.lt hg) (by simp)).trans hg, r⟩

/-- What Show answers. -/
def pshown (l : List In) : List UInt8 := if okR l then showT l else []
def pshowE (l : List In) : Int := if okR l then 0 else 4
theorem words_bnd {x : In} (h : ShI x) : x.words.length ≤ 5 ∧ ∀ y ∈ x.words, y.length ≤ 100 := by
  have hn : ∀ (b n : Nat), 2 ≤ b → n < 4294967296 → (numL b n).length ≤ 100 := fun b n h1 h2 => numL_sh h1 h2
  have hw : ∀ n : Int, (opW n).length ≤ 100 := fun n => by unfold opW; repeat' split
                                                           all_goals decide
  have key : ∀ (l : List (List UInt8)), x.words = l → l.length ≤ 5 → (∀ y ∈ l, y.length ≤ 100) → x.words.length ≤ 5 ∧ ∀ y ∈ x.words, y.length ≤ 100 := fun l e h1 h2 => by rw [e]; exact ⟨h1, h2⟩
  cases h with
  | ld k sz ad ix hk h1 h2 =>
    have h0 : 0 < sz := by omega
    cases ix
    · refine key [opW k, numL 10 sz, numL 16 ad] (by rcases hk with rfl | rfl <;> simp [In.words, dec, hexa, h0]) (by simp) (fun y hy => ?_)
      simp at hy
      rcases hy with rfl | rfl | rfl
      · exact hw _
      · exact hn _ _ (by omega) (by omega)
      · exact hn _ _ (by omega) (by omega)
    · refine key [opW k, numL 10 sz, numL 16 ad, [43]] (by rcases hk with rfl | rfl <;> simp [In.words, dec, hexa, h0]) (by simp) (fun y hy => ?_)
      simp at hy
      rcases hy with rfl | rfl | rfl | rfl
      · exact hw _
      · exact hn _ _ (by omega) (by omega)
      · exact hn _ _ (by omega) (by omega)
      · decide
  | st sz ad dt ix h1 h2 h3 =>
    have h0 : 0 < sz := by omega
    cases ix
    · refine key [opW 2, numL 10 sz, numL 16 ad, numL 16 dt] (by simp [In.words, dec, hexa, h0]) (by simp) (fun y hy => ?_)
      simp at hy
      rcases hy with rfl | rfl | rfl | rfl
      · exact hw _
      · exact hn _ _ (by omega) (by omega)
      · exact hn _ _ (by omega) (by omega)
      · exact hn _ _ (by omega) (by omega)
    · refine key [opW 2, numL 10 sz, numL 16 ad, [43], numL 16 dt] (by simp [In.words, dec, hexa, h0]) (by simp) (fun y hy => ?_)
      simp at hy
      rcases hy with rfl | rfl | rfl | rfl | rfl
      · exact hw _
      · exact hn _ _ (by omega) (by omega)
      · exact hn _ _ (by omega) (by omega)
      · decide
      · exact hn _ _ (by omega) (by omega)
  | no k hk =>
    refine key [opW k] (by rcases hk with rfl | rfl <;> rfl) (by simp) (fun y hy => ?_)
    simp at hy
    subst hy
    exact hw _
  | br dt tg h1 h2 =>
    refine key [opW 5, numL 16 dt, numL 10 tg] rfl (by simp) (fun y hy => ?_)
    simp at hy
    rcases hy with rfl | rfl | rfl
    · exact hw _
    · exact hn _ _ (by omega) (by omega)
    · exact hn _ _ (by omega) (by omega)
  | jp tg h1 =>
    refine key [opW 6, numL 10 tg] rfl (by simp) (fun y hy => ?_)
    simp at hy
    rcases hy with rfl | rfl
    · exact hw _
    · exact hn _ _ (by omega) (by omega)
  | id dt h1 =>
    refine key [opW 7, numL 10 dt] rfl (by simp) (fun y hy => ?_)
    simp at hy
    rcases hy with rfl | rfl
    · exact hw _
    · exact hn _ _ (by omega) (by omega)
  | ms dt h1 =>
    refine key [opW 8, numL 16 dt] rfl (by simp) (fun y hy => ?_)
    simp at hy
    rcases hy with rfl | rfl
    · exact hw _
    · exact hn _ _ (by omega) (by omega)
  | cf c h1 h2 =>
    refine key [opW 9, c.shown] rfl (by simp) (fun y hy => ?_)
    simp at hy
    rcases hy with rfl | rfl
    · exact hw _
    · exact shown_len h1
theorem line_len {x : In} (h : ShI x) : x.line.length ≤ 600 := by
  have hb := words_bnd h
  have := join_bnd x.words hb.2 32
  unfold In.line
  have h5 := hb.1
  omega
theorem joins_len (c : UInt8) (n : Nat) : ∀ (xs : List (List UInt8)), (∀ y ∈ xs, y.length ≤ n) → (Lib.join xs [c]).length ≤ xs.length * (n + 1)
  | [], _ => by simp [Lib.join, List.intercalate]
  | [x], h => by rw [Lib.join_one]; have := h x (by simp); simp; omega
  | x :: y :: r, h => by
    have ih := joins_len c n (y :: r) (fun z hz => h z (by simp at hz ⊢; exact .inr hz))
    have hx := h x (by simp)
    rw [joinC_two]
    simp only [List.length_append, List.length_cons] at ih ⊢
    rw [Nat.add_mul, Nat.one_mul]
    omega

set_option maxRecDepth 100000 in
set_option maxHeartbeats 4000000 in
theorem pshow_any (l : List In) (hl : l.length ≤ 1000000) (hf : ∀ x ∈ l, x.Fits) (v : Value) (w : World) (hg : Gl w) (hv : InS w v l) :
    Calls Tryz.prog 14 #[v] w fun e w' => e = .returned (.tuple #[str (pshown l), .int .i64 (pshowE l)]) ∧ Only [] w w' := by
  have HR := Lib.hid (pright_any l hl hf v w hv)
  have HI := Lib.hid hv
  obtain ⟨pv, cv, rfl⟩ := hv.len
  unfold pshown pshowE
  cases hok : okR l with
  | false =>
    rw [hok] at HR
    clear hok hv hf
    go_enter Tryz.func14, Tryz.ntmps14
    go_wp2_with (go_at_call 9; refine HR.out.mono ?_; rintro e w1 ⟨rfl, hO1⟩)
    go_ret2
    exact ⟨rfl, hO1⟩
  | true =>
    rw [hok] at HR
    have hok2 := okR_iff.1 hok
    have HS := Lib.hid (fun x (hx : x ∈ l) => And.intro (hf x hx) (hok2.2 x hx).1)
    have hl64 := hok2.1
    have HG := Lib.hid hg
    clear hok hok2 hv hf hg
    go_enter Tryz.func14, Tryz.ntmps14
    go_wp2_with (go_at_call 9; refine HR.out.mono ?_; rintro e w1 ⟨rfl, hO1⟩)
    clear HR
    go_loopw [4, 14] (fun s i wr => ∃ (k : Nat) (p : Option Addr) (n c : Nat), s = .slice p n c ∧ i = .int .i64 k ∧ k ≤ l.length ∧ wr.ownsRow w.heap.size 9 1 (.slice p n c) ((l.take k).map In.line).length (((l.take k).map In.line).map str) ∧ Only [] w wr) (fun _ i _ => l.length - (intOf i).toNat)
    case atStart => exact ⟨0, none, 0, 0, rfl, rfl, by omega, ⟨rfl, .inl ⟨rfl, rfl⟩⟩, hO1⟩
    case round =>
      clear hO1
      obtain ⟨k, ps, ns, cs, rfl, rfl, hk, hR, hO⟩ := hrel
      by_cases hkl : k < l.length
      · have hki : (k : Int) < (l.length : Int) := by omega
        obtain ⟨b, off, c, hvv, h0, hlc, hb, hE⟩ := HI.out.resolve_left (fun ⟨_, _, _, h⟩ => by rw [h] at hkl; simp at hkl)
        simp only [Value.slice.injEq, true_and] at hvv
        obtain ⟨rfl, rfl⟩ := hvv
        have HX := Lib.hid (rng_only (hE k l[k] (by simp)) hO hb (by simp))
        have hs := HS.out l[k] (by simp)
        have htk : (l.take (k + 1)).map In.line = (l.take k).map In.line ++ [l[k].line] := by rw [List.take_succ_eq_append_getElem hkl, List.map_append]; rfl
        have HL := Lib.hid (fun W hg => line_any l[k] hs.1 W hg)
        have hsh : l[k].shown = l[k].line ∧ l[k].err = 0 := by unfold In.shown In.err; rw [hs.2]; exact ⟨rfl, rfl⟩
        rw [hsh.1, hsh.2] at HL
        generalize l[k].line = tl at *
        generalize l[k] = x at *
        have HTK := Lib.hid htk
        have hlk := hkl
        have hRl : ((l.take k).map In.line).length ≤ 1000000 := by simp; omega
        have HRW := Lib.hid (And.intro hR hO)
        have hwr := hO.size
        clear htk hs hsh hE hR hO
        go_wp2_with (first
          | (refine wpList_ld 33 x b (off + k * 18) _ rfl (.inl rfl) rfl rfl HX.out ?_)
          | (refine wpList_ld 33 x wr.heap.size 0 _ rfl (.inl rfl) rfl rfl HB3.out ?_)
          | (refine wpList_st 33 x.cs.toList wr.heap.size 0 _ _ rfl (by kernel_rfl) rfl rfl rfl rfl (Blk.new wr 33 (In.only 0).cs) (Nat.le_of_ble_eq_true rfl) ?_; intro w3 hB3 hO3; rw [setL_in] at hB3; have HB3 := Lib.hid (Blk.rng hB3); clear hB3; have hO4 : Only [] wr w3 := ((Only.refl [] wr).alloc (.cells (In.only 0).cs 33)).trans' hO3 (by intro z hz hlt; simp at hz; omega))
          | (go_at_call 17; refine (HL.out _ (HG.out.only (HRW.out.2.trans hO4))).mono ?_; rintro e w5 ⟨rfl, hO5⟩)
          | (at_builtin; refine wpList_append_w rfl _ _ rfl w.heap.size ((l.take k).map In.line) tl _ rfl (row_onlyB HRW.out.1 ((hO4.trans hO5).alloc (.cells #[str tl] 9))) _ 1 rfl (Blk.new _ _ _) hRl (by have := hO4.size; have := hO5.size; simp; omega) ?_; intro v6 w6 hR6 hO6))
        obtain ⟨p6, n6, c6, hv6⟩ : ∃ p n c, v6 = .slice p n c := by
          rcases hR6.2 with ⟨rfl, -⟩ | ⟨g, cap, cur, rfl, -⟩
          · exact ⟨_, _, _, rfl⟩
          · exact ⟨_, _, _, rfl⟩
        refine ⟨⟨k + 1, p6, n6, c6, hv6, by go_num, by omega, ?_, ?_⟩, by simp [intOf]; omega⟩
        · rw [HTK.out, ← hv6]
          exact hR6
        · have h1 : Only [] wr (w5.alloc (.cells #[str tl] 9)) := (hO4.trans hO5).alloc _
          have h2 : OnlyB w.heap.size [] wr w6 := (h1.b hwr).trans hO6
          exact HRW.out.2.thenB h2
      · obtain rfl : k = l.length := by omega
        have hki : ¬ (l.length : Int) < (l.length : Int) := by omega
        rw [List.take_of_length_le (Nat.le_refl _)] at hR
        have hlen : (Lib.join (l.map In.line) [10]).length ≤ 140737488355328 := by
          have := joins_len 10 600 (l.map In.line) (fun y hy => by
            obtain ⟨x, hm, rfl⟩ := List.mem_map.1 hy
            exact line_len (ShI.of x (HS.out x hm).1 (HS.out x hm).2))
          rw [List.length_map] at this
          omega
        have HJ : Hid (Calls Tryz.prog 31 #[.slice ps ns cs, .string ⟨#[10]⟩] wr fun e w' => e = .returned (str (Lib.join (l.map In.line) [10])) ∧ Only [] wr w') := Lib.hid (by
          by_cases h0 : l = []
          · subst h0
            rcases hR.2 with ⟨he, -⟩ | ⟨g, cap, cur, he, -⟩
            · simp only [Value.slice.injEq] at he
              obtain ⟨rfl, rfl, rfl⟩ := he
              refine (Tryz.strings_Join_none none 0 ⟨#[10]⟩ wr).mono ?_
              rintro e w' ⟨rfl, rfl⟩
              exact ⟨rfl, Only.refl _ _⟩
            · simp only [Value.slice.injEq] at he
              obtain ⟨rfl, rfl, rfl⟩ := he
              refine (Tryz.strings_Join_none _ cs ⟨#[10]⟩ wr).mono ?_
              rintro e w' ⟨rfl, rfl⟩
              exact ⟨rfl, Only.refl _ _⟩
          · have hp : 0 < (l.map In.line).length := by rw [List.length_map]; exact List.length_pos_iff.2 h0
            obtain ⟨g, cap, hv, hgb, hgl, hcap⟩ := row_form hR hp
            rw [hv] at hR ⊢
            obtain ⟨-, -, -, hc⟩ := row_cells hR
            exact sjoin_any 10 g cap (l.map In.line) wr hc hgl hcap hlen (by rw [List.length_map]; exact hl))
        have HO := Lib.hid hO
        have HT : Hid (Lib.join (l.map In.line) [10] = showT l) := rfl
        generalize Lib.join (l.map In.line) [10] = js at *
        clear hR hO
        go_wp2_with (go_at_call 31; refine HJ.out.mono ?_; rintro e w9 ⟨rfl, hO9⟩)
        go_ret2
        exact ⟨by rw [HT.out]; rfl, HO.out.trans hO9⟩
end Go.Proofs.YtagmoehjcgjnjaaGreatDoor
