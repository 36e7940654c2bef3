/- The law DmaStops, walked: whatever state, register and word, it answers true, and nothing that was there has turned. Conditions: the numbers are of their kinds. -/
import Derived.Test.YtnnlnffdbdpmbaaDmaH
import Derived.Test.YtnnlnffdbdpmbaaBits
import Derived.Test.YtnnlnffdbdpmbaaStageD
namespace Go.Proofs.Ytnnlnffdbdpmbaa
open Go Go.RowKit

/-- What holds of every engine. -/
structure ES.Inv (s : ES) : Prop where
  f0 : 0 ≤ s.f ∧ s.f < 4294967296
  t0 : 0 ≤ s.t ∧ s.t < 4294967296
  l0 : 0 ≤ s.l ∧ s.l < 4294967296
  h0 : 0 ≤ s.h ∧ s.h < 4294967296
  busy : s.busy = true → s.l > 0
  has : s.has = true → s.busy = true
  holds : s.has = false → s.h = 0

structure ES.Fits (s : ES) : Prop where
  f0 : 0 ≤ s.f ∧ s.f < 4294967296
  t0 : 0 ≤ s.t ∧ s.t < 4294967296
  l0 : 0 ≤ s.l ∧ s.l < 4294967296
  h0 : 0 ≤ s.h ∧ s.h < 4294967296

theorem ES.of_inv (s : ES) (h : s.Fits) : s.of.Inv := by
  obtain ⟨f, t, l, h', has, busy, den, done, calls⟩ := s
  obtain ⟨h1, h2, h3, h4⟩ := h
  simp only at h1 h2 h3 h4
  by_cases hl : l > 0 <;> cases busy <;> cases has <;> constructor <;> simp_all [ES.of] <;> omega

/-- A state that lies in a block. -/
def StB (w : World) (b : Nat) (s : ES) : Prop := Blk w b 24 #[.int .u32 s.f, .int .u32 s.t, .int .u32 s.l, .int .u32 s.h, .bool s.has, .bool s.busy, .bool s.den, .bool s.done, .bool s.calls]

structure StC (w : World) (b : Nat) (s : ES) : Prop where
  c0 : w.cell? ⟨b, 0, none⟩ = some (.int .u32 s.f)
  c1 : w.cell? ⟨b, 1, none⟩ = some (.int .u32 s.t)
  c2 : w.cell? ⟨b, 2, none⟩ = some (.int .u32 s.l)
  c3 : w.cell? ⟨b, 3, none⟩ = some (.int .u32 s.h)
  c4 : w.cell? ⟨b, 4, none⟩ = some (.bool s.has)
  c5 : w.cell? ⟨b, 5, none⟩ = some (.bool s.busy)
  c6 : w.cell? ⟨b, 6, none⟩ = some (.bool s.den)
  c7 : w.cell? ⟨b, 7, none⟩ = some (.bool s.done)
  c8 : w.cell? ⟨b, 8, none⟩ = some (.bool s.calls)
theorem StB.c {w : World} {b : Nat} {s : ES} (h : StB w b s) : StC w b s :=
  ⟨h.cell 0, h.cell 1, h.cell 2, h.cell 3, h.cell 4, h.cell 5, h.cell 6, h.cell 7, h.cell 8⟩

set_option maxHeartbeats 1000000 in
theorem state_neq (s : ES) (w : World) : (binOp .neq 24 s.agg s.agg).run Try.prog w = .ok (.bool false) w := by
  obtain ⟨f, t, l, h, has, busy, den, done, calls⟩ := s
  simp [go_sem]
theorem StB.alloc {w : World} {b : Nat} {s : ES} (h : StB w b s) (o : Obj) : StB (w.alloc o) b s := Blk.alloc h o
set_option maxHeartbeats 1000000 in
theorem state_eq {w' : World} {b : Nat} (s : ES) (w : World) (_ : EngB w' b s) : (binOp .eql 24 s.agg s.agg).run Try.prog w = .ok (.bool true) w := by
  obtain ⟨f, t, l, h, has, busy, den, done, calls⟩ := s
  simp [go_sem]
theorem st_new {w w' : World} {b : Nat} {s : ES} (_ : EngB w' b s) : StB (w.alloc (.cells #[.int .u32 s.f, .int .u32 s.t, .int .u32 s.l, .int .u32 s.h, .bool s.has, .bool s.busy, .bool s.den, .bool s.done, .bool s.calls] 24)) w.heap.size s := Blk.new' rfl rfl
theorem EngB.alloc {w : World} {b : Nat} {s : ES} (h : EngB w b s) (o : Obj) : EngB (w.alloc o) b s := Blk.alloc h o
theorem Only.st {S : List Nat} {w w' : World} {b : Nat} {s : ES} (hO : Only S w w') (h : StB w b s) (hb : b ∉ S) : StB w' b s := hO.blk h hb
theorem Only.eng {S : List Nat} {w w' : World} {b : Nat} {s : ES} (hO : Only S w w') (h : EngB w b s) (hb : b ∉ S) : EngB w' b s := hO.blk h hb

theorem ES.stop (s : ES) (v : Int) : s.write 3 (v - v % 2) = ⟨s.f, s.t, s.l, 0, false, false, s.den, s.done, decide (v / 256 % 2 = 1)⟩ := by
  unfold ES.write ES.ctrl
  rw [if_neg (by omega), if_neg (by omega), if_neg (by omega), if_pos rfl, if_pos (by omega)]
  have : (v - v % 2) / 256 % 2 = v / 256 % 2 := by omega
  rw [this]
theorem ES.go (f t l h : Int) (den done calls : Bool) (v : Int) : (ES.mk f t l h false false den done calls).write 3 (v + (1 - v % 2)) = ⟨f, t, l, 0, false, decide (l > 0), den, done || !decide (l > 0), decide (v / 256 % 2 = 1)⟩ := by
  unfold ES.write ES.ctrl
  rw [if_neg (by omega), if_neg (by omega), if_neg (by omega), if_pos rfl, if_neg (by omega), if_neg (by simp)]
  have : (v + (1 - v % 2)) / 256 % 2 = v / 256 % 2 := by omega
  rw [this]

set_option maxHeartbeats 8000000 in
theorem stops_any (s0 : ES) (hs : s0.Fits) (reg v : Int) (hv0 : 0 ≤ v) (hv1 : v < 4294967296) (w : World) :
    Calls Try.prog 3 #[s0.agg, .int .i64 reg, .int .u32 v] w fun e w' => e = .returned (.bool true) ∧ Only [] w w' := by
  have Hinv := Lib.hid (s0.of_inv hs)
  go_enter Try.func3, Try.ntmps3
  go_wp2_with fail
  refine (awake_any _).mono ?_
  rintro e w1 ⟨rfl, hO1⟩
  have hp : StB w1 w.heap.size s0 := hO1.blk (Blk.new' rfl rfl) (by simp)
  obtain ⟨c0, c1, c2, c3, c4, c5, c6, c7, c8⟩ := hp.c
  go_wp2_with fail
  refine (of_any s0 _).mono ?_
  rintro e w2 ⟨b, rfl, hb0, hE2, hO2⟩
  clear c0 c1 c2 c3 c4 c5 c6 c7 c8 hp
  have hO : Only [] w w2 := (((Only.refl _ w).alloc _).trans hO1).trans hO2
  have hbw : w.heap.size ≤ b := by have := hO1.size; simp at this; omega
  clear hO1
  generalize s0.of = s1 at *
  clear hs hO2
  go_wp2_with fail
  refine (state_any b s1 _ hE2).mono ?_
  rintro e w3 ⟨rfl, hO3⟩
  have hE3 : EngB w3 b s1 := hO3.blk hE2 (by simp)
  have hOx := hO.trans hO3
  clear hE2 hO3 hO
  obtain ⟨f, t, l, h, has, busy, den, done, calls⟩ := s1
  obtain ⟨i1, i2, i3, i4, i5, i6, i7⟩ := Hinv.out
  simp only at i1 i2 i3 i4 i5 i6 i7
  clear Hinv
  have hbn : b ≠ w3.heap.size := by have := hE3.lt; omega
  have hbn1 : b ≠ w3.heap.size + 1 := by have := hE3.lt; omega
  cases busy
  focus
    obtain rfl : has = false := by cases has; rfl; simp at i6
    obtain rfl := i7 rfl
    clear i5 i6 i7
    go_wp2_with fail
    have hW4 : StB ((w3.alloc (.cells #[.int .u32 f, .int .u32 t, .int .u32 l, .int .u32 0, .bool false, .bool false, .bool den, .bool done, .bool calls] 24)).alloc (.cells #[.bool false] 4)) w3.heap.size ⟨f, t, l, 0, false, false, den, done, calls⟩ := (Blk.new' rfl rfl : Blk _ _ _ _).alloc _
    have hK4 : Blk ((w3.alloc (.cells #[.int .u32 f, .int .u32 t, .int .u32 l, .int .u32 0, .bool false, .bool false, .bool den, .bool done, .bool calls] 24)).alloc (.cells #[.bool false] 4)) (w3.heap.size + 1) 4 #[.bool false] := Blk.new' rfl (by simp)
    have hE4 : EngB ((w3.alloc (.cells #[.int .u32 f, .int .u32 t, .int .u32 l, .int .u32 0, .bool false, .bool false, .bool den, .bool done, .bool calls] 24)).alloc (.cells #[.bool false] 4)) b ⟨f, t, l, 0, false, false, den, done, calls⟩ := (hE3.alloc _).alloc _
    have hO4 : Only [] w ((w3.alloc (.cells #[.int .u32 f, .int .u32 t, .int .u32 l, .int .u32 0, .bool false, .bool false, .bool den, .bool done, .bool calls] 24)).alloc (.cells #[.bool false] 4)) := (hOx.alloc _).alloc _
    generalize hw4 : ((w3.alloc (.cells #[.int .u32 f, .int .u32 t, .int .u32 l, .int .u32 0, .bool false, .bool false, .bool den, .bool done, .bool calls] 24)).alloc (.cells #[.bool false] 4)) = w4 at hW4 hK4 hE4 hO4
    have hneq := state_neq ⟨f, t, l, 0, false, false, den, done, calls⟩
    subst hw4
    refine wp_region_D (Only [] ((w3.alloc (.cells #[.int .u32 f, .int .u32 t, .int .u32 l, .int .u32 0, .bool false, .bool false, .bool den, .bool done, .bool calls] 24)).alloc (.cells #[.bool false] 4))) (by kernel_rfl) (by kernel_rfl) ((Only.refl _ _).drew) ?_
    repeat (first
      | (refine wpT_step ?_ (stD rfl (fun w' hD => ?_)) ?_
         rotate_left
         · have hK5 := hD.blk hK4 (by simp)
           have k0 : w'.cell? ⟨w3.heap.size + 1, 0, none⟩ = some (.bool false) := hK5.cell 0
           obtain ⟨c0, c1, c2, c3, c4, c5, c6, c7, c8⟩ := (hD.st hW4 (by simp)).c
           go_simp
           first
             | (refine ⟨?_, hD⟩; rfl)
             | (refine (step_idle b _ _ 1 w' (hD.eng hE4 (by simp)) rfl).mono ?_; rintro e w'' ⟨rfl, h⟩; refine ⟨?_, hD.trans h⟩; rfl)
             | (refine (state_any b _ w' (hD.eng hE4 (by simp))).mono ?_; rintro e w'' ⟨rfl, h⟩; refine ⟨?_, hD.trans h⟩; rfl)
         simp only [Act.put, List.setIfInBounds_toArray, List.set_cons_succ, List.set_cons_zero, Nat.zero_add, Nat.reduceAdd])
      | (refine wpT_step _ (stD_skip rfl) ?_
         simp only [Act.put, List.setIfInBounds_toArray, List.set_cons_succ, List.set_cons_zero, Nat.zero_add, Nat.reduceAdd]))
    refine wpT_nil ?_
    intro w5 hD
    have hW5 := hD.st hW4 (by simp)
    have hK5 := hD.blk hK4 (by simp)
    have hE5 := hD.eng hE4 (by simp)
    have hO5 := hO4.trans hD
    clear hD hO4 hE4 hK4 hW4
    clear hneq
  rotate_left
  focus
    have hwr : ∀ reg, 0 ≤ reg → reg ≤ 2 → (ES.mk f t l h has true den done calls).write reg v = ⟨f, t, l, h, has, true, den, done, calls⟩ := by
      intro reg h1 h2
      have : reg = 0 ∨ reg = 1 ∨ reg = 2 := by omega
      rcases this with rfl | rfl | rfl <;> rfl
    have hneq := state_neq ⟨f, t, l, h, has, true, den, done, calls⟩
    clear i5 i6 i7
    go_wp2_with fail
    have hW4 : StB ((w3.alloc (.cells #[.int .u32 f, .int .u32 t, .int .u32 l, .int .u32 h, .bool has, .bool true, .bool den, .bool done, .bool calls] 24)).alloc (.cells #[.bool false] 4)) w3.heap.size ⟨f, t, l, h, has, true, den, done, calls⟩ := (Blk.new' rfl rfl : Blk _ _ _ _).alloc _
    have hK4 : Blk ((w3.alloc (.cells #[.int .u32 f, .int .u32 t, .int .u32 l, .int .u32 h, .bool has, .bool true, .bool den, .bool done, .bool calls] 24)).alloc (.cells #[.bool false] 4)) (w3.heap.size + 1) 4 #[.bool false] := Blk.new' rfl (by simp)
    have hE4 : EngB ((w3.alloc (.cells #[.int .u32 f, .int .u32 t, .int .u32 l, .int .u32 h, .bool has, .bool true, .bool den, .bool done, .bool calls] 24)).alloc (.cells #[.bool false] 4)) b ⟨f, t, l, h, has, true, den, done, calls⟩ := (hE3.alloc _).alloc _
    have hO4 : Only [] w ((w3.alloc (.cells #[.int .u32 f, .int .u32 t, .int .u32 l, .int .u32 h, .bool has, .bool true, .bool den, .bool done, .bool calls] 24)).alloc (.cells #[.bool false] 4)) := (hOx.alloc _).alloc _
    refine (write_any b _ 0 v _ hE4 hv0 hv1).mono ?_
    rintro e w6 ⟨rfl, hE6, hO6⟩
    rw [hwr 0 (by omega) (by omega)] at hE6
    go_wp2_with fail
    refine (write_any b _ 1 v _ hE6 hv0 hv1).mono ?_
    rintro e w7 ⟨rfl, hE7, hO7⟩
    rw [hwr 1 (by omega) (by omega)] at hE7
    go_wp2_with fail
    refine (write_any b _ 2 v _ hE7 hv0 hv1).mono ?_
    rintro e w8 ⟨rfl, hE8, hO8⟩
    rw [hwr 2 (by omega) (by omega)] at hE8
    have hb3 : ∀ x, x ∈ [b] → x < w.heap.size → x ∈ ([] : List Nat) := fun x hx hl => by simp at hx; omega
    have hO4 := ((hO4.trans' hO6 hb3).trans' hO7 hb3).trans' hO8 hb3
    have hW4 := hO8.st (hO7.st (hO6.st hW4 (by simpa using hbn.symm)) (by simpa using hbn.symm)) (by simpa using hbn.symm)
    have hK4 := hO8.blk (hO7.blk (hO6.blk hK4 (by simpa using hbn1.symm)) (by simpa using hbn1.symm)) (by simpa using hbn1.symm)
    have hE4 := hE8
    clear hE6 hE7 hE8 hO6 hO7 hO8 hwr hb3 hE3
    go_wp2_with fail
    refine wp_region_D (Only [] w8) (by kernel_rfl) (by kernel_rfl) ((Only.refl _ _).drew) ?_
    repeat (first
      | (refine wpT_step ?_ (stD rfl (fun w' hD => ?_)) ?_
         rotate_left
         · have hK5 := hD.blk hK4 (by simp)
           have k0 : w'.cell? ⟨w3.heap.size + 1, 0, none⟩ = some (.bool false) := hK5.cell 0
           obtain ⟨c0, c1, c2, c3, c4, c5, c6, c7, c8⟩ := (hD.st hW4 (by simp)).c
           go_simp
           first
             | (refine ⟨?_, hD⟩; rfl)
             | (refine (state_any b _ w' (hD.eng hE4 (by simp))).mono ?_; rintro e w'' ⟨rfl, h⟩; refine ⟨?_, hD.trans h⟩; rfl)
         simp only [Act.put, List.setIfInBounds_toArray, List.set_cons_succ, List.set_cons_zero, Nat.zero_add, Nat.reduceAdd])
      | (refine wpT_step _ (stD_skip rfl) ?_
         simp only [Act.put, List.setIfInBounds_toArray, List.set_cons_succ, List.set_cons_zero, Nat.zero_add, Nat.reduceAdd]))
    refine wpT_nil ?_
    intro w5 hD
    have hW5 := hD.st hW4 (by simp)
    have hK5 := hD.blk hK4 (by simp)
    have hE5 := hD.eng hE4 (by simp)
    have hO5 := hO4.trans hD
    clear hD hO4 hE4 hK4 hW4
    clear hneq
  all_goals
    have a1 := clear_one v hv0 hv1
    have a2 := or_one v hv0 hv1
    have hb3 : ∀ x, x ∈ [b] → x < w.heap.size → x ∈ ([] : List Nat) := fun x hx hl => by simp at hx; omega
    go_wp2_with fail
    refine (write_any b _ 3 (v - v % 2) _ hE5 (by omega) (by omega)).mono ?_
    rintro e w6 ⟨rfl, hE6, hO6⟩
    rw [ES.stop] at hE6
    simp only at hE6
    have hW6 := hO6.st hW5 (by simpa using hbn.symm)
    have hK6 := hO6.blk hK5 (by simpa using hbn1.symm)
    have hO6' := hO5.trans' hO6 hb3
    clear hO5 hO6 hW5 hK5 hE5
    go_wp2_with fail
    refine (state_any b _ _ hE6).mono ?_
    rintro e w7 ⟨rfl, hO7⟩
    have hE7 := hO7.eng hE6 (by simp)
    have hW7 := hO7.st hW6 (by simp)
    have hK7 := hO7.blk hK6 (by simp)
    have hO7' := hO6'.trans hO7
    clear hE6 hW6 hK6 hO6' hO7
    obtain ⟨x0, x1, x2, x3, x4, x5, x6, x7, x8⟩ := hW7.c
    simp only at x0 x1 x2 x3 x4 x5 x6 x7 x8
    clear x3 x4 x5 x6 x8
    have hl7 := hW7.lt
    have hk7 := hK7.lt
    go_wp2_with fail
    refine (step_idle b _ _ 1 _ (hE7.alloc _) rfl).mono ?_
    rintro e w8 ⟨rfl, hO8⟩
    have hE8 := hO8.eng (hE7.alloc _) (by simp)
    have hW8 := hO8.st (hW7.alloc _) (by simp)
    have hK8 := hO8.blk (hK7.alloc _) (by simp)
    have hO8' := (hO7'.alloc _).trans hO8
    clear hE7 hW7 hK7 hO7' hO8 x0 x1 x2 x7 hl7 hk7
    have k0 : w8.cell? ⟨w3.heap.size + 1, 0, none⟩ = some (.bool false) := hK8.cell 0
    go_wp2_with fail
    refine (write_any b _ 3 (v + (1 - v % 2)) _ hE8 (by omega) (by omega)).mono ?_
    rintro e w9 ⟨rfl, hE9, hO9⟩
    rw [ES.go] at hE9
    have hW9 := hO9.st hW8 (by simpa using hbn.symm)
    have hO9' := hO8'.trans' hO9 hb3
    clear hE8 hW8 hK8 hO8' hO9 k0
    have hL : (decide (l > 0) = true ∧ (l == 0) = false ∧ 0 < l) ∨ (decide (l > 0) = false ∧ (l == 0) = true ∧ ¬ 0 < l) := by
      by_cases h : l > 0
      · exact .inl ⟨by simpa using h, by simp; omega, h⟩
      · exact .inr ⟨by simpa using h, by simp; omega, h⟩
    have hC : (decide (v / 256 % 2 = 1) = true ∧ (v / 256 % 2 == 1) = true) ∨ (decide (v / 256 % 2 = 1) = false ∧ (v / 256 % 2 == 1) = false) := by
      by_cases h : v / 256 % 2 = 1
      · exact .inl ⟨by simpa using h, by simpa using h⟩
      · exact .inr ⟨by simpa using h, by simpa using h⟩
    cases done <;> rcases hL with ⟨n1, n2, n5⟩ | ⟨n1, n2, n5⟩ <;> rcases hC with ⟨n3, n4⟩ | ⟨n3, n4⟩ <;> rw [n1, n3] at hE9
    all_goals
      go_wp2_with fail
      refine (state_any b _ _ hE9).mono ?_
      rintro e w10 ⟨rfl, hO10⟩
      have hE10 := hO10.eng hE9 (by simp)
      have hW10 := hO10.st hW9 (by simp)
      have hO10' := hO9'.trans hO10
      clear hE9 hW9 hO9' hO10
      obtain ⟨x0, x1, x2, x3, x4, x5, x6, x7, x8⟩ := hW10.c
      simp only at x0 x1 x2 x3 x4 x5 x6 x7 x8
      clear x0 x1 x3 x4 x5 x6 x8
      have hl10 := hW10.lt
      clear n3 n1
      go_wp2_with fail
      have hS10 := st_new (w := w10) hE10
      refine (read_any b _ reg _ (hE10.alloc _)).mono ?_
      rintro e w11 ⟨rfl, hO11⟩
      have hE11 := hO11.eng (hE10.alloc _) (by simp)
      have hS11 := hO11.st hS10 (by simp)
      have hO11' := (hO10'.alloc _).trans hO11
      have heq := fun w => state_eq _ w hE11
      go_wp2_with fail
      refine wp_region_D (Only [] w11) (by kernel_rfl) (by kernel_rfl) ((Only.refl _ _).drew) ?_
      repeat (first
        | (refine wpT_step ?_ (stD rfl (fun w' hD => ?_)) ?_
           rotate_left
           · obtain ⟨c0, c1, c2, c3, c4, c5, c6, c7, c8⟩ := (hD.st hS11 (by simp)).c
             go_simp
             first
               | (refine ⟨?_, hD⟩; rfl)
               | (refine (state_any b _ w' (hD.eng hE11 (by simp))).mono ?_; rintro e w'' ⟨rfl, h⟩; refine ⟨?_, hD.trans h⟩; rfl)
           simp only [Act.put, List.setIfInBounds_toArray, List.set_cons_succ, List.set_cons_zero, Nat.zero_add, Nat.reduceAdd])
        | (refine wpT_step _ (stD_skip rfl) ?_
           simp only [Act.put, List.setIfInBounds_toArray, List.set_cons_succ, List.set_cons_zero, Nat.zero_add, Nat.reduceAdd]))
      refine wpT_nil ?_
      intro w12 hD
      go_wp2_with fail
      go_ret
      exact ⟨rfl, hO11'.trans hD⟩
end Go.Proofs.Ytnnlnffdbdpmbaa
