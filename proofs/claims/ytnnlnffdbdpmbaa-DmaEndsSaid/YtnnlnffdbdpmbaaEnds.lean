/- The law DmaEnds, walked: it answers true. No condition. -/
import Derived.Test.YtnnlnffdbdpmbaaDoes
import Derived.StillTailTactics
import Derived.LoopTactic
namespace Go.Proofs.Ytnnlnffdbdpmbaa
open Go Go.RowKit

/-- A deed. -/
structure Dd where
  a : Int
  c : Int
  v : Int
  e : Int
def Dd.vals (d : Dd) : List Value := [.int .i64 d.a, .int .i64 d.c, .int .u32 d.v, .int .i64 d.e]

theorem dd_at : ∀ (ds : List Dd) (k : Nat) (d : Dd), ds[k]? = some d → ∀ j u, d.vals[j]? = some u → (ds.flatMap Dd.vals)[k * 4 + j]? = some u
  | [], k, d, h, _, _, _ => by simp at h
  | x :: ds, 0, d, h, j, u, hj => by
    obtain rfl : x = d := by simpa using h
    have hl : j < x.vals.length := by
      rcases Nat.lt_or_ge j x.vals.length with h1 | h1
      · exact h1
      · rw [List.getElem?_eq_none h1] at hj; cases hj
    rw [List.flatMap_cons, List.getElem?_append_left (by simpa using hl)]
    simpa using hj
  | x :: ds, k + 1, d, h, j, u, hj => by
    have := dd_at ds k d (by simpa using h) j u hj
    rw [List.flatMap_cons, List.getElem?_append_right (by simp [Dd.vals]; omega)]
    have e : (k + 1) * 4 + j - x.vals.length = k * 4 + j := by simp [Dd.vals]; omega
    rw [e]; exact this

theorem deeds_blk {w : World} {bk : Nat} {ds : List Dd} {t : TypeId} {cs : Array Value} (h : Blk w bk t cs) (hc : cs = (ds.flatMap Dd.vals).toArray) (hv : ∀ d ∈ ds, 0 ≤ d.v ∧ d.v < 4294967296) : Deeds w bk 0 ds.length := by
  refine ⟨h.lt, fun k hk => ?_⟩
  subst hc
  have hd : ds[k]? = some ds[k] := List.getElem?_eq_getElem hk
  have hm : ds[k] ∈ ds := List.getElem_mem hk
  refine ⟨ds[k].a, ds[k].c, ds[k].v, ds[k].e, ?_, ?_, ?_, ?_, hv _ hm⟩
  · rw [h.cell, List.getElem?_toArray, Nat.zero_add]; exact dd_at ds k _ hd 0 _ rfl
  · rw [h.cell, List.getElem?_toArray, Nat.zero_add]; exact dd_at ds k _ hd 1 _ rfl
  · rw [h.cell, List.getElem?_toArray, Nat.zero_add]; exact dd_at ds k _ hd 2 _ rfl
  · rw [h.cell, List.getElem?_toArray, Nat.zero_add]; exact dd_at ds k _ hd 3 _ rfl

theorem does_list (s0 : ES) (hs : s0.Fits) (bk cap : Nat) (ds : List Dd) (t : TypeId) (cs : Array Value) (w : World) (h : Blk w bk t cs) (hc : cs = (ds.flatMap Dd.vals).toArray) (hv : ∀ d ∈ ds, 0 ≤ d.v ∧ d.v < 4294967296) (n : Nat) (hn : n = ds.length) :
    Calls Try.prog 4 #[s0.agg, .slice (some ⟨bk, 0, none⟩) n cap] w fun e w' => e = .returned (.bool true) ∧ Only [] w w' :=
  does_any s0 hs _ n cap w (fun _ => .inr ⟨bk, 0, rfl, by subst hn; exact deeds_blk h hc hv⟩)

/-- No engine: nil, or one that was not made. -/
def NoEng (w : World) (p : Option Addr) : Prop := p = none ∨ ∃ b, p = some ⟨b, 0, none⟩ ∧ Blk w b 53 #[.int .u32 0, .int .u32 0, .int .u32 0, .int .u32 0, .bool false, .bool false, .bool false, .bool false, .bool false, .bool false]
theorem NoEng.only {w w' : World} {p : Option Addr} (h : NoEng w p) (hO : Only [] w w') : NoEng w' p := by
  rcases h with rfl | ⟨b, rfl, hb⟩
  · exact .inl rfl
  · exact .inr ⟨b, rfl, hO.blk hb (by simp)⟩

set_option maxHeartbeats 400000 in
theorem nothere (p : Option Addr) (w : World) (hp : NoEng w p) : Calls Try.prog 26 #[.pointer p] w fun e w' => e = .returned (.bool false) ∧ w' = w := by
  rcases hp with rfl | ⟨b, rfl, hb⟩
  · go_enter Try.func26, Try.ntmps26
    go_wp2
    go_ret
    exact ⟨rfl, rfl⟩
  · have c9 := hb.cell 9
    simp only [List.getElem?_toArray, List.getElem?_cons_succ, List.getElem?_cons_zero] at c9
    go_enter Try.func26, Try.ntmps26
    go_wp2
    go_ret
    exact ⟨rfl, rfl⟩

set_option maxHeartbeats 400000 in
theorem noeng_state (p : Option Addr) (w : World) (hp : NoEng w p) : Calls Try.prog 9 #[.pointer p] w fun e w' => e = .returned ES.zero.agg ∧ Only [] w w' := by
  go_enter Try.func9, Try.ntmps9
  go_wp2_with (go_at_call 26; refine (nothere p _ (hp.only ((Only.refl _ _).alloc _))).mono ?_; rintro e w1 ⟨rfl, rfl⟩)
  exact bodyPost_ret (v := ES.zero.agg) (by simp [results, Try.results9, go_sem, ES.zero]) rfl ⟨rfl, (Only.refl _ _).alloc _⟩

set_option maxHeartbeats 400000 in
theorem noeng_write (p : Option Addr) (r v : Int) (w : World) (hp : NoEng w p) : Calls Try.prog 11 #[.pointer p, .int .i64 r, .int .u32 v] w fun e w' => e = .returned (.tuple #[]) ∧ Only [] w w' := by
  go_enter Try.func11, Try.ntmps11
  go_wp2_with (go_at_call 26; refine (nothere p _ hp).mono ?_; rintro e w1 ⟨rfl, rfl⟩)
  go_returns
  exact ⟨rfl, Only.refl _ _⟩

set_option maxHeartbeats 400000 in
theorem noeng_line (p : Option Addr) (w : World) (hp : NoEng w p) : Calls Try.prog 21 #[.pointer p] w fun e w' => e = .returned (.bool false) ∧ Only [] w w' := by
  go_enter Try.func21, Try.ntmps21
  go_wp2_with (go_at_call 26; refine (nothere p _ hp).mono ?_; rintro e w1 ⟨rfl, rfl⟩)
  go_ret
  exact ⟨rfl, Only.refl _ _⟩

set_option maxHeartbeats 400000 in
theorem noeng_read2 (p : Option Addr) (w : World) (hp : NoEng w p) : Calls Try.prog 13 #[.pointer p, .int .i64 2] w fun e w' => e = .returned (.int .u32 0) ∧ Only [] w w' := by
  go_enter Try.func13, Try.ntmps13
  go_wp2_with (go_at_call 9; refine (noeng_state p _ hp).mono ?_; rintro e w1 ⟨rfl, h1⟩)
  go_ret
  exact ⟨rfl, h1.alloc _⟩

set_option maxHeartbeats 400000 in
theorem noeng_read3 (p : Option Addr) (w : World) (hp : NoEng w p) : Calls Try.prog 13 #[.pointer p, .int .i64 3] w fun e w' => e = .returned (.int .u32 0) ∧ Only [] w w' := by
  go_enter Try.func13, Try.ntmps13
  go_wp2_with (first | (go_at_call 9; refine (noeng_state p _ hp).mono ?_; rintro e w1 ⟨rfl, h1⟩) | (go_at_call 32; refine (status_any _ ES.zero _ (Blk.new' rfl (by simp))).mono ?_; rintro e w2 ⟨rfl, h2⟩))
  go_ret
  exact ⟨rfl, ((h1.alloc _).alloc _).trans' h2 (by simp)⟩

set_option maxHeartbeats 400000 in
theorem noeng_step (p : Option Addr) (wd : Int) (a : Value) (w : World) (hp : NoEng w p) : Calls Try.prog 12 #[.pointer p, .int .i64 wd, a] w fun e w' => e = .returned (.bool false) ∧ Only [] w w' := by
  go_enter Try.func12, Try.ntmps12
  go_wp2
  refine wp_scope_n 0 ?_
  unfold wpScope
  go_wp2_with (go_at_call 26; refine (nothere p _ (hp.only ((Only.refl _ _).alloc _))).mono ?_; rintro e w1 ⟨rfl, rfl⟩)
  try rw [Exit.noGoto_ret]
  go_ret
  exact ⟨rfl, (Only.refl _ _).alloc _⟩

set_option maxHeartbeats 400000 in
theorem step_nil (b : Nat) (s : ES) (wd : Int) (w : World) (hb : EngB w b s) :
    Calls Try.prog 12 #[.pointer (some ⟨b, 0, none⟩), .int .i64 wd, .nilFunc] w fun e w' => e = .returned (.bool false) ∧ Only [] w w' := by
  have hlt := hb.lt
  obtain ⟨c0, c1, c2, c3, c4, c5, c6, c7, c8, c9, -⟩ := hb.c
  have he : ∀ (w : World), (binOp .eql 34 .nilFunc .nilFunc).run Try.prog w = .ok (.bool true) w := fun _ => by kernel_rfl
  have hne1 : ¬ b = w.heap.size := by omega
  have hne2 : ¬ w.heap.size = b := by omega
  obtain ⟨f, t, l, h, has, busy, den, done, calls⟩ := s
  simp only at *
  cases busy <;>
  · go_enter Try.func12, Try.ntmps12
    go_wp2
    refine wp_scope_n 0 ?_
    unfold wpScope
    go_wp2_with (go_at_call 26; go_in)
    try rw [Exit.noGoto_ret]
    go_ret
    exact ⟨rfl, (Only.refl _ _).alloc _⟩
end Go.Proofs.Ytnnlnffdbdpmbaa
