/- The engine's Write, walked. Conditions: the engine's block as New or Of makes it. -/
import Derived.Test.YtnnlnffdbdpmbaaDmaB
namespace Go.Proofs.Ytnnlnffdbdpmbaa
open Go Go.RowKit

set_option maxHeartbeats 4000000 in
theorem write_any (b : Nat) (s : ES) (reg v : Int) (w : World) (hb : EngB w b s) (hv0 : 0 ≤ v) (hv1 : v < 4294967296) :
    Calls Try.prog 11 #[.pointer (some ⟨b, 0, none⟩), .int .i64 reg, .int .u32 v] w fun e w' => e = .returned (.tuple #[]) ∧ EngB w' b (s.write reg v) ∧ Only [b] w w' := by
  have hlt := hb.lt
  have hc := hb.c
  obtain ⟨c0, c1, c2, c3, c4, c5, c6, c7, c8, c9, -⟩ := hc
  go_enter Try.func11, Try.ntmps11
  go_wp2
  refine wp_region_T (MapC w.drew 0 (regFns b)) (by kernel_rfl) (by kernel_rfl) ?_ ?_
  · unfold MapC
    rw [if_neg (by simp)]
    exact ⟨rfl, fun x hx => by
      simp only [regFns, List.mem_cons, List.not_mem_nil, or_false] at hx
      rcases hx with rfl | rfl | rfl | rfl | rfl <;> rfl⟩
  refine wpT_step _ (st_make rfl (by simp [regFns]) rfl rfl) ?_
  simp only [Act.put, List.setIfInBounds_toArray, List.set_cons_succ, List.set_cons_zero]
  repeat (first
    | (refine wpT_step ?_ (st_pure (by decide) (by simp [regFns]) rfl (fun w => ?_)) ?_
       rotate_left
       · first | (go_simp; rfl) | rfl
       simp only [Act.put, List.setIfInBounds_toArray, List.set_cons_succ, List.set_cons_zero, Nat.zero_add, Nat.reduceAdd])
    | (refine wpT_step _ (st_insert (l := regFns b) rfl (by kernel_rfl) rfl rfl rfl rfl Try.underlying59 Try.underlying3 _ (by first | exact (rfl : (regFns b)[0]? = _) | exact (rfl : (regFns b)[1]? = _) | exact (rfl : (regFns b)[2]? = _) | exact (rfl : (regFns b)[3]? = _) | exact (rfl : (regFns b)[4]? = _)) (regFns_rows b) (regFns_keys b) rfl) ?_
       simp only [Act.put, Nat.reduceAdd]))
  refine wpT_step _ (st_lookup (l := regFns b) (k := .int .i64 reg) (u := regFn b reg) (by simp [regFns]) rfl (by kernel_rfl) rfl rfl rfl Try.underlying59 Try.underlying3 (regFns_keys b) rfl
    (by intro x hx; simp only [regFns, List.mem_cons, List.not_mem_nil, or_false] at hx; rcases hx with rfl | rfl | rfl | rfl | rfl <;> kernel_rfl) (regFn_zero b reg) (regFn_val b reg) rfl) ?_
  simp only [Act.put, List.setIfInBounds_toArray, List.set_cons_succ, List.set_cons_zero, Nat.reduceAdd]
  refine wpT_step ?_ (st_pure (by decide) (by simp [regFns]) rfl (fun w => ?_)) ?_
  rotate_left
  · first | (go_simp; rfl) | rfl
  simp only [Act.put, List.setIfInBounds_toArray, List.set_cons_succ, List.set_cons_zero, Nat.reduceAdd]
  refine wpT_nil ?_
  intro L w1 hC _ _
  have hO := MapC.only hC [b]
  have hb1 : EngB w1 b s := (MapC.only hC []).blk hb (by simp)
  clear hC c0 c1 c2 c3 c4 c5 c6 c7 c8 c9
  clear hb hlt
  have hc := hb1.c
  obtain ⟨c0, c1, c2, c3, c4, c5, c6, c7, c8, c9, fr⟩ := hc
  have hn : ∀ (f : Fn) (x : Array Value) (w : World), (binOp .neq 58 (.func f x #[]) .nilFunc).run Try.prog w = .ok (.bool true) w := fun _ _ _ => by kernel_rfl
  have hnn : ∀ (w : World), (binOp .neq 58 .nilFunc .nilFunc).run Try.prog w = .ok (.bool false) w := fun _ => by kernel_rfl
  have f0 := fr 0
  have f1 := fr 1
  have f2 := fr 2
  have f3 := fr 3
  have f4 := fr 4
  have f5 := fr 5
  have f6 := fr 6
  have f7 := fr 7
  have f8 := fr 8
  clear fr
  obtain ⟨f, t, l, h, has, busy, den, done, calls⟩ := s
  simp only at *
  by_cases e0 : reg = 0
  · subst e0
    have hf : regFn b 0 = .func (.func 27) #[.pointer (some ⟨b, 0, none⟩)] #[] := rfl
    cases busy
    · go_wp2
      go_end0
      exact ⟨rfl, hb1.set_ 0 _, hO.setCell (.inl (by simp)) _⟩
    · go_wp2
      go_end0
      exact ⟨rfl, hb1, hO⟩
  by_cases e1 : reg = 1
  · subst e1
    have hf : regFn b 1 = .func (.func 28) #[.pointer (some ⟨b, 0, none⟩)] #[] := rfl
    cases busy
    · go_wp2
      go_end0
      exact ⟨rfl, hb1.set_ 1 _, hO.setCell (.inl (by simp)) _⟩
    · go_wp2
      go_end0
      exact ⟨rfl, hb1, hO⟩
  by_cases e2 : reg = 2
  · subst e2
    have hf : regFn b 2 = .func (.func 29) #[.pointer (some ⟨b, 0, none⟩)] #[] := rfl
    cases busy
    · go_wp2
      go_end0
      exact ⟨rfl, hb1.set_ 2 _, hO.setCell (.inl (by simp)) _⟩
    · go_wp2
      go_end0
      exact ⟨rfl, hb1, hO⟩
  by_cases e4 : reg = 4
  · subst e4
    have hf : regFn b 4 = .func (.func 31) #[.pointer (some ⟨b, 0, none⟩)] #[] := rfl
    go_wp2
    go_end0
    exact ⟨rfl, (hb1.set_ 6 _).set_ 7 _, (hO.setCell (.inl (by simp)) _).setCell (.inl (by simp)) _⟩
  by_cases e3 : reg = 3
  · subst e3
    have hf : regFn b 3 = .func (.func 30) #[.pointer (some ⟨b, 0, none⟩)] #[] := rfl
    go_wp2_with (go_at_call 30; refine (ctrl_any b _ v _ hb1 hv0 hv1).mono ?_; rintro e w2 ⟨rfl, h2, h3⟩)
    go_end0
    exact ⟨rfl, h2, hO.trans h3⟩
  · have hf : regFn b reg = .nilFunc := by unfold regFn; rw [if_neg e0, if_neg e1, if_neg e2, if_neg e3, if_neg e4]
    go_wp2
    go_end0
    refine ⟨rfl, ?_, hO⟩
    unfold ES.write
    rw [if_neg e0, if_neg e1, if_neg e2, if_neg e3, if_neg e4]
    exact hb1
end Go.Proofs.Ytnnlnffdbdpmbaa
