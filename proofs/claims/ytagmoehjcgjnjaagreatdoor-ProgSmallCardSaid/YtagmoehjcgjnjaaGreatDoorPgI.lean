/- Whether an instruction is right (prog.Instr), walked. No condition. -/
import Derived.Test.YtagmoehjcgjnjaaGreatDoorPgK
import Derived.Test.YtagmoehjcgjnjaaGreatDoorPgM
import Derived.Deep.RegionWith
import Derived.Deep.DeepCutAuto
import Derived.Outline
namespace Go.Proofs.YtagmoehjcgjnjaaGreatDoor
open Go Go.RowKit

theorem look_any (W : World) (b : Nat) (n : Int) (v : Value) (ok : Bool) (hb : W.heap[b]? = some (.map kindsE 10)) (c : Bool)
    (hf : (ok = true ∧ ∃ j, Instr.findNow (.int .i64) (.int .i64 n) kindsE.toList 0 = some (some (j, v))) ∨ (ok = false ∧ v = .agg #[.string ⟨#[]⟩, .nilFunc] ∧ Instr.findNow (.int .i64) (.int .i64 n) kindsE.toList 0 = some none)) :
    (Instr.lookup 58 (.map (some b)) (.int .i64 n) c).run Tryz.prog W = .ok (if c then .tuple #[v, .bool ok] else v) W := by
  have hkk : MapKept.IsKey (.int .i64) (.int .i64 n) := rfl
  have hz : ∀ w, (zeroValue 56).run Tryz.prog w = .ok (.agg #[.string ⟨#[]⟩, .nilFunc]) w := fun _ => by kernel_rfl
  rcases hf with ⟨rfl, j, hf⟩ | ⟨rfl, rfl, hf⟩
  · cases c <;> simp [Instr.lookup, run_underlying Tryz.underlying58, MapKept.run_getObj_map hb, MapKept.run_checkKey Tryz.underlying23 hkk, MapKept.run_findKey Tryz.underlying23 hf, Result.andThen]
  · cases c <;> simp [Instr.lookup, run_underlying Tryz.underlying58, MapKept.run_getObj_map hb, MapKept.run_checkKey Tryz.underlying23 hkk, MapKept.run_findKey Tryz.underlying23 hf, Result.andThen, hz]

theorem look_in (n : Int) (h : 1 ≤ n ∧ n ≤ 10) : ∃ j, Instr.findNow (.int .i64) (.int .i64 n) kindsE.toList 0 = some (some (j, kindV n)) := by
  have : n = 1 ∨ n = 2 ∨ n = 3 ∨ n = 4 ∨ n = 5 ∨ n = 6 ∨ n = 7 ∨ n = 8 ∨ n = 9 ∨ n = 10 := by omega
  rcases this with rfl | rfl | rfl | rfl | rfl | rfl | rfl | rfl | rfl | rfl <;> exact ⟨_, rfl⟩
theorem look_out (n : Int) (h : ¬ (1 ≤ n ∧ n ≤ 10)) : Instr.findNow (.int .i64) (.int .i64 n) kindsE.toList 0 = some none := by
  have hk : MapKept.IsKey (.int .i64) (.int .i64 n) := rfl
  rcases MapKept.findNow_spec hk kindsE.toList 0 (fun x hx => by
    simp only [kindsE, List.mem_cons, List.not_mem_nil, or_false] at hx
    rcases hx with rfl | rfl | rfl | rfl | rfl | rfl | rfl | rfl | rfl | rfl <;> rfl) with ⟨h1, -⟩ | ⟨j, e, -, he, hk⟩
  · exact h1
  · have hm := List.mem_of_getElem? he
    simp only [kindsE, List.mem_cons, List.not_mem_nil, or_false] at hm
    rcases hm with rfl | rfl | rfl | rfl | rfl | rfl | rfl | rfl | rfl | rfl <;> (injection hk with _ hk; omega)

/-- What the table holds is found, wherever it lies. -/
def Look (n : Int) (v : Value) (ok : Bool) : Prop := ∀ W b, W.heap[b]? = some (.map kindsE 10) → (Instr.lookup 58 (.map (some b)) (.int .i64 n) true).run Tryz.prog W = .ok (.tuple #[v, .bool ok]) W
theorem at_last' {W : World} {o : Obj} {n : Nat} (h : n = W.heap.size) : ((W.alloc o).drew).heap[n]? = some o := by
  subst h
  exact (MapKept.heap_alloc W o).1
theorem at_prev {W : World} {o o' : Obj} {n : Nat} (h : n = W.heap.size) : (((W.alloc o).alloc o').drew).heap[n]? = some o := by
  subst h
  exact ((MapKept.heap_alloc (W.alloc o) o').2 W.heap.size (by simp)).trans (MapKept.heap_alloc W o).1

theorem run_store_fn (w : World) (a : Addr) (f : Fn) (b c : Array Value) (m : Mode) (hc : (w.cell? a).isSome = true) (hf : w.frozen? a = false) : (store a (.func f b c) m).run Tryz.prog w = .ok () (w.setCell a (.func f b c)) := by
  rw [run_store Tryz.prog w a (.func f b c) m rfl]
  obtain ⟨u, hu⟩ := Option.isSome_iff_exists.1 hc
  rw [hu]
  simp [hf]
theorem run_store_nf (w : World) (a : Addr) (m : Mode) (hc : (w.cell? a).isSome = true) (hf : w.frozen? a = false) : (store a .nilFunc m).run Tryz.prog w = .ok () (w.setCell a .nilFunc) := by
  rw [run_store Tryz.prog w a .nilFunc m rfl]
  obtain ⟨u, hu⟩ := Option.isSome_iff_exists.1 hc
  rw [hu]
  simp [hf]
attribute [local go_sem] run_store_fn run_store_nf
set_option maxRecDepth 100000 in
set_option maxHeartbeats 4000000 in
theorem instr_hit (x : In) (wd : ByteArray) (f : Nat) (r : Bool) (HL : Look x.op (.agg #[.string wd, .func (.func f) #[] #[]]) true)
    (HF : ∀ w, Calls Tryz.prog f #[x.agg] w fun e w' => e = .returned (.bool r) ∧ Only [] w w') (hcf : ∀ v W, (callFunc f #[v]).run Tryz.prog W = .ok (.enter f #[v]) W) (w : World) :
    Calls Tryz.prog 10 #[x.agg] w fun e w' => e = .returned (.bool r) ∧ Only [] w w' := by
  have l1 := HL (((w.alloc (.cells x.cs 33)).alloc (.map kindsE 10)).drew) (w.heap.size + 1) (at_last' (by simp))
  have l2 := HL ((((w.alloc (.cells x.cs 33)).alloc (.map kindsE 10)).alloc (.cells #[.string ⟨#[]⟩, .nilFunc] 56)).drew) (w.heap.size + 1) (at_prev (by simp))
  have l3 := HL ((((w.alloc (.cells x.cs 33)).alloc (.cells #[.string ⟨#[]⟩, .nilFunc] 56)).alloc (.map kindsE 10)).drew) (w.heap.size + 1 + 1) (at_last' (by simp))
  have HF' := Lib.hid HF
  clear HF HL
  go_enter Tryz.func10, Tryz.ntmps10
  go_wp2_with fail
  go_region_with (refine (kinds_map _).mono ?_; rintro e w2 ⟨rfl, rfl⟩)
  all_goals
    clear l1 l2 l3
    go_wp2_with (first
      | (refine wpList_ld 33 x w.heap.size 0 _ rfl (.inl rfl) rfl rfl (Blk.rng ((((Blk.new w _ x.cs).alloc _).alloc _).drew)) ?_)
      | ((with_reducible refine (HF'.out _).mono ?_); rintro e w3 ⟨rfl, hO3⟩))
    go_returns
    exact ⟨rfl, (((((Only.refl _ _).alloc _).alloc _).alloc _).drew).trans hO3⟩

set_option maxRecDepth 100000 in
set_option maxHeartbeats 4000000 in
theorem instr_miss (x : In) (HL : Look x.op (.agg #[.string ⟨#[]⟩, .nilFunc]) false) (w : World) :
    Calls Tryz.prog 10 #[x.agg] w fun e w' => e = .returned (.bool false) ∧ Only [] w w' := by
  have l1 := HL (((w.alloc (.cells x.cs 33)).alloc (.map kindsE 10)).drew) (w.heap.size + 1) (at_last' (by simp))
  have l2 := HL ((((w.alloc (.cells x.cs 33)).alloc (.map kindsE 10)).alloc (.cells #[.string ⟨#[]⟩, .nilFunc] 56)).drew) (w.heap.size + 1) (at_prev (by simp))
  have l3 := HL ((((w.alloc (.cells x.cs 33)).alloc (.cells #[.string ⟨#[]⟩, .nilFunc] 56)).alloc (.map kindsE 10)).drew) (w.heap.size + 1 + 1) (at_last' (by simp))
  clear HL
  go_enter Tryz.func10, Tryz.ntmps10
  go_wp2_with fail
  go_region_with (refine (kinds_map _).mono ?_; rintro e w2 ⟨rfl, rfl⟩)
  all_goals
    clear l1 l2 l3
    go_wp2_with fail
    go_returns
    exact ⟨rfl, ((((Only.refl _ _).alloc _).alloc _).alloc _).drew⟩

theorem Look.of (n : Int) (h : 1 ≤ n ∧ n ≤ 10) (v : Value) (hv : kindV n = v) : Look n v true := fun W b hb => by
  obtain ⟨j, hj⟩ := look_in n h
  have := look_any W b n v true hb true (.inl ⟨rfl, j, by rw [← hv]; exact hj⟩)
  simpa using this
theorem Look.no (n : Int) (h : ¬ (1 ≤ n ∧ n ≤ 10)) : Look n (.agg #[.string ⟨#[]⟩, .nilFunc]) false := fun W b hb => by
  have := look_any W b n (.agg #[.string ⟨#[]⟩, .nilFunc]) false hb true (.inr ⟨rfl, rfl, look_out n h⟩)
  simpa using this

theorem instr_any (x : In) (hx : x.dt ≤ 4294967295) (w : World) : Calls Tryz.prog 10 #[x.agg] w fun e w' => e = .returned (.bool x.ok) ∧ Only [] w w' := by
  by_cases h : 1 ≤ x.op ∧ x.op ≤ 10
  · have hr : x.op = 1 ∨ x.op = 2 ∨ x.op = 3 ∨ x.op = 4 ∨ x.op = 5 ∨ x.op = 6 ∨ x.op = 7 ∨ x.op = 8 ∨ x.op = 9 ∨ x.op = 10 := by omega
    have ho : x.ok = x.ok := rfl
    conv at ho => rhs; unfold In.ok
    rw [ho]
    clear ho
    rcases hr with h' | h' | h' | h' | h' | h' | h' | h' | h' | h' <;> simp only [h']
    · exact instr_hit x _ _ _ (Look.of x.op h _ (show kindV x.op = kindV 1 from by rw [h'])) (fun w => load_any x w) (fun _ _ => by kernel_rfl) w
    · exact instr_hit x _ _ _ (Look.of x.op h _ (show kindV x.op = kindV 2 from by rw [h'])) (fun w => store_any x hx w) (fun _ _ => by kernel_rfl) w
    · exact instr_hit x _ _ _ (Look.of x.op h _ (show kindV x.op = kindV 3 from by rw [h'])) (fun w => load_any x w) (fun _ _ => by kernel_rfl) w
    · exact instr_hit x _ _ _ (Look.of x.op h _ (show kindV x.op = kindV 4 from by rw [h'])) (fun w => none_any x w) (fun _ _ => by kernel_rfl) w
    · exact instr_hit x _ _ _ (Look.of x.op h _ (show kindV x.op = kindV 5 from by rw [h'])) (fun w => branch_any x hx w) (fun _ _ => by kernel_rfl) w
    · exact instr_hit x _ _ _ (Look.of x.op h _ (show kindV x.op = kindV 6 from by rw [h'])) (fun w => jump_any x w) (fun _ _ => by kernel_rfl) w
    · exact instr_hit x _ _ _ (Look.of x.op h _ (show kindV x.op = kindV 7 from by rw [h'])) (fun w => idle_any x w) (fun _ _ => by kernel_rfl) w
    · exact instr_hit x _ _ _ (Look.of x.op h _ (show kindV x.op = kindV 8 from by rw [h'])) (fun w => mask_any x w) (fun _ _ => by kernel_rfl) w
    · exact instr_hit x _ _ _ (Look.of x.op h _ (show kindV x.op = kindV 9 from by rw [h'])) (fun w => conf_any x w) (fun _ _ => by kernel_rfl) w
    · exact instr_hit x _ _ _ (Look.of x.op h _ (show kindV x.op = kindV 10 from by rw [h'])) (fun w => none_any x w) (fun _ _ => by kernel_rfl) w
  · have e : x.ok = false := by
      unfold In.ok
      rw [if_neg (by omega), if_neg (by omega), if_neg (by omega), if_neg (by omega), if_neg (by omega), if_neg (by omega), if_neg (by omega), if_neg (by omega)]
    rw [e]
    exact instr_miss x (Look.no x.op h) w
end Go.Proofs.YtagmoehjcgjnjaaGreatDoor
