/- The words of Ops; going through the table of all Ops, in any order. No condition. -/
import Derived.Test.YtagmoehjcgjnjaaGreatDoorPgK
import Derived.Maps.RangeWalk
namespace Go.Proofs.YtagmoehjcgjnjaaGreatDoor
open Go Go.RowKit
open Go.ChangeMaps (setBlock)

/-- The word of an Op. -/
def opW (n : Int) : List UInt8 :=
  if n = 1 then [108, 111, 97, 100] else if n = 2 then [115, 116, 111, 114, 101] else if n = 3 then [112, 117, 116] else if n = 4 then [119, 97, 105, 116] else if n = 5 then [98, 114, 97, 110, 99, 104]
  else if n = 6 then [106, 117, 109, 112] else if n = 7 then [105, 100, 108, 101] else if n = 8 then [109, 97, 115, 107] else if n = 9 then [99, 111, 110, 102] else if n = 10 then [104, 97, 108, 116] else []
/-- The Op of a word, 0 if there is none. -/
def opOf (l : List UInt8) : Int :=
  if l = opW 1 then 1 else if l = opW 2 then 2 else if l = opW 3 then 3 else if l = opW 4 then 4 else if l = opW 5 then 5 else if l = opW 6 then 6 else if l = opW 7 then 7 else if l = opW 8 then 8 else if l = opW 9 then 9 else if l = opW 10 then 10 else 0
theorem opOf_W (n : Int) (h : 1 ≤ n ∧ n ≤ 10) : opOf (opW n) = n := by
  have : n = 1 ∨ n = 2 ∨ n = 3 ∨ n = 4 ∨ n = 5 ∨ n = 6 ∨ n = 7 ∨ n = 8 ∨ n = 9 ∨ n = 10 := by omega
  rcases this with rfl | rfl | rfl | rfl | rfl | rfl | rfl | rfl | rfl | rfl <;> decide
theorem opOf_spec (l : List UInt8) : opOf l = 0 ∨ (1 ≤ opOf l ∧ opOf l ≤ 10 ∧ l = opW (opOf l)) := by
  unfold opOf
  split
  · rename_i h; exact .inr ⟨by decide, by decide, h⟩
  split
  · rename_i h; exact .inr ⟨by decide, by decide, h⟩
  split
  · rename_i h; exact .inr ⟨by decide, by decide, h⟩
  split
  · rename_i h; exact .inr ⟨by decide, by decide, h⟩
  split
  · rename_i h; exact .inr ⟨by decide, by decide, h⟩
  split
  · rename_i h; exact .inr ⟨by decide, by decide, h⟩
  split
  · rename_i h; exact .inr ⟨by decide, by decide, h⟩
  split
  · rename_i h; exact .inr ⟨by decide, by decide, h⟩
  split
  · rename_i h; exact .inr ⟨by decide, by decide, h⟩
  split
  · rename_i h; exact .inr ⟨by decide, by decide, h⟩
  · exact .inl rfl

/-- What an entry of the table is. -/
structure KE (e : MapEntry) (k : Nat) (f : Nat) : Prop where
  lo : 1 ≤ k ∧ k ≤ 10
  key : e.key = .int .i64 k
  val : e.val = .agg #[.string ⟨(opW k).toArray⟩, .func (.func f) #[] #[]]
  born : e.born + 1 = k
theorem kinds_mem (e : MapEntry) (h : e ∈ kindsE.toList) : ∃ k f, KE e k f := by
  simp only [kindsE, List.mem_cons, List.not_mem_nil, or_false] at h
  rcases h with rfl | rfl | rfl | rfl | rfl | rfl | rfl | rfl | rfl | rfl
  · exact ⟨1, _, by decide, rfl, rfl, rfl⟩
  · exact ⟨2, _, by decide, rfl, rfl, rfl⟩
  · exact ⟨3, _, by decide, rfl, rfl, rfl⟩
  · exact ⟨4, _, by decide, rfl, rfl, rfl⟩
  · exact ⟨5, _, by decide, rfl, rfl, rfl⟩
  · exact ⟨6, _, by decide, rfl, rfl, rfl⟩
  · exact ⟨7, _, by decide, rfl, rfl, rfl⟩
  · exact ⟨8, _, by decide, rfl, rfl, rfl⟩
  · exact ⟨9, _, by decide, rfl, rfl, rfl⟩
  · exact ⟨10, _, by decide, rfl, rfl, rfl⟩
theorem kinds_has (k : Nat) (h : 1 ≤ k ∧ k ≤ 10) : ∃ e ∈ kindsE.toList, e.born + 1 = k := by
  have : k = 1 ∨ k = 2 ∨ k = 3 ∨ k = 4 ∨ k = 5 ∨ k = 6 ∨ k = 7 ∨ k = 8 ∨ k = 9 ∨ k = 10 := by omega
  simp only [kindsE]
  rcases this with rfl | rfl | rfl | rfl | rfl | rfl | rfl | rfl | rfl | rfl <;> simp

/-- The table in block mb, a loop over it in block r. -/
structure KIt (w : World) (mb r : Nat) (seen : Array Nat) : Prop where
  map : w.heap[mb]? = some (.map kindsE 10)
  it : ∃ c0, w.heap[r]? = some (.mapIter (some mb) 10 seen c0) ∧ 10 ≤ c0
theorem KIt.only {S : List Nat} {w w' : World} {mb r : Nat} {seen : Array Nat} (h : KIt w mb r seen) (hO : Only S w w') (h1 : mb ∉ S) (h2 : r ∉ S) : KIt w' mb r seen := by
  obtain ⟨hm, c0, hi, hc⟩ := h
  exact ⟨(hO.block mb (Array.getElem?_eq_some_iff.1 hm).1 h1).trans hm, c0, (hO.block r (Array.getElem?_eq_some_iff.1 hi).1 h2).trans hi, hc⟩
theorem KIt.left {w : World} {mb r : Nat} {seen : Array Nat} (h : KIt w mb r seen) : w.rangeLeft mb r = (leftOf kindsE seen).size := by
  obtain ⟨hm, c0, hi, -⟩ := h
  simp only [World.rangeLeft, hm, hi]
theorem KIt.ne {w : World} {mb r : Nat} {seen : Array Nat} (h : KIt w mb r seen) : r ≠ mb ∧ r < w.heap.size ∧ mb < w.heap.size := by
  obtain ⟨hm, c0, hi, -⟩ := h
  refine ⟨fun e => ?_, (Array.getElem?_eq_some_iff.1 hi).1, (Array.getElem?_eq_some_iff.1 hm).1⟩
  rw [e, hm] at hi
  cases hi

/-- Is the Op of a word still to come? -/
def Comes (seen : Array Nat) (k : Nat) : Prop := 1 ≤ k ∧ k ≤ 10 ∧ seen.contains (k - 1) = false
theorem Comes.none {seen : Array Nat} {k : Nat} (h : Comes seen k) : 0 < (leftOf kindsE seen).size := by
  obtain ⟨h1, h2, h3⟩ := h
  obtain ⟨e, he, hb⟩ := kinds_has k ⟨h1, h2⟩
  have hm : e ∈ (leftOf kindsE seen).toList := by
    unfold leftOf
    simp only [Array.toList_filter, List.mem_filter]
    refine ⟨he, ?_⟩
    rw [show e.born = k - 1 by omega, h3]
    rfl
  have := List.length_pos_of_mem hm
  simpa using this
theorem Comes.push {seen : Array Nat} {k b : Nat} (h : Comes seen k) (hb : b + 1 ≠ k) : Comes (seen.push b) k := by
  obtain ⟨h1, h2, h3⟩ := h
  refine ⟨h1, h2, ?_⟩
  have h3' : k - 1 ∉ seen := by simpa using h3
  have : ¬ (k - 1 ∈ seen ∨ k - 1 = b) := by
    rintro (h | h)
    · exact h3' h
    · omega
  simpa using this

section
variable {ops : Array Oper} {rest : List Oper} {o : Oper} {a : Act} {w : World} {Q : Exit → Act → World → Prop}
/-- The loop begins. -/
theorem wpList_range_k (hg : o.guard = none) (m : Operand) (hop : o.op = Op.range 58 m) (mb : Nat) (hm : a.eval m = .map (some mb)) (hb : w.heap[mb]? = some (.map kindsE 10))
    (hK : KIt (w.alloc (.mapIter (some mb) 10 #[] 10)) mb w.heap.size #[] → wpList Tryz.prog ops Q rest (a.put o.dst (.pointer (some ⟨w.heap.size, 0, none⟩))) (w.alloc (.mapIter (some mb) 10 #[] 10))) : wpList Tryz.prog ops Q (o :: rest) a w := by
  refine wpList_plain hg fun K' hK' => ?_
  have hrun := run_range_map w 58 _ _ mb kindsE 10 Tryz.underlying58 hb
  unfold Oper.wp
  simp [execOp, hop, hm, hrun, Result.andThen]
  exact hK' _ _ (hK ⟨((MapKept.heap_alloc w _).2 mb (Array.getElem?_eq_some_iff.1 hb).1).trans hb, 10, (MapKept.heap_alloc w _).1, Nat.le_refl _⟩)
/-- The loop's step. -/
theorem wpList_next_k (hg : o.guard = none) (x : Operand) (hop : o.op = Op.next x false) (mb r : Nat) (seen : Array Nat) (hx : a.eval x = .pointer (some ⟨r, 0, none⟩)) (h : KIt w mb r seen)
    (hDone : Hid ((leftOf kindsE seen).size = 0) → wpList Tryz.prog ops Q rest (a.put o.dst (.tuple #[.bool false])) w)
    (hMore : ∀ (k f b : Nat) (w' : World), Hid ((1 ≤ k ∧ k ≤ 10) ∧ b + 1 = k ∧ KIt w' mb r (seen.push b) ∧ Only [r] w w' ∧ (leftOf kindsE (seen.push b)).size < (leftOf kindsE seen).size ∧
      (Instr.entry (.pointer (some ⟨r, 0, none⟩))).run Tryz.prog w' = .ok (.tuple #[.int .i64 k, .agg #[.string ⟨(opW k).toArray⟩, .func (.func f) #[] #[]]]) w') →
      wpList Tryz.prog ops Q rest (a.put o.dst (.tuple #[.bool true, .int .i64 k, .agg #[.string ⟨(opW k).toArray⟩, .func (.func f) #[] #[]]])) w') : wpList Tryz.prog ops Q (o :: rest) a w := by
  refine wpList_plain hg fun K' hK' => ?_
  have hne := h.ne
  obtain ⟨hm, c0, hi, hc⟩ := h
  have hold : ∀ x ∈ kindsE.toList, x.born < 10 := by
    intro e he
    obtain ⟨k, f, hk⟩ := kinds_mem e he
    have := hk.lo
    have := hk.born
    omega
  unfold Oper.wp
  rcases run_next_at (P := Tryz.prog) w o.type r mb 10 c0 seen kindsE 10 hi hm hold hc with ⟨h0, hrun⟩ | ⟨e, he, w1, hal, hrun⟩
  · simp [execOp, hop, hx, hrun, Result.andThen]
    exact hK' _ _ (hDone (Lib.hid h0))
  · obtain ⟨hem, hes⟩ := mem_left he
    obtain ⟨k, f, hk⟩ := kinds_mem e hem
    have hi1 : w1.heap[r]? = some (.mapIter (some mb) 10 seen c0) := by rcases hal with rfl | rfl <;> exact hi
    have hm1 : w1.heap[mb]? = some (.map kindsE 10) := by rcases hal with rfl | rfl <;> exact hm
    have hset := MapKept.heap_set (o' := .mapIter (some mb) 10 (seen.push e.born) 10) hi1
    have hm' : (setBlock w1 r (.mapIter (some mb) 10 (seen.push e.born) 10)).heap[mb]? = some (.map kindsE 10) := (hset.2 mb (fun e1 => hne.1 e1.symm)).trans hm1
    have hent := run_entry_at (P := Tryz.prog) _ r mb 10 seen kindsE 10 e hset.1 hm' hem (by decide)
    have hsh := left_shrinks kindsE seen e he
    have hO : Only [r] w (setBlock w1 r (.mapIter (some mb) 10 (seen.push e.born) 10)) := by
      rcases hal with rfl | rfl
      · exact ⟨rfl, rfl, rfl, by simp [setBlock], fun i _ hi => hset.2 i (fun e1 => hi (by simp [e1]))⟩
      · exact ⟨rfl, rfl, rfl, by simp [setBlock], fun i _ hi => hset.2 i (fun e1 => hi (by simp [e1]))⟩
    rw [hk.key, hk.val] at hent hrun
    simp [execOp, hop, hx, hrun, Result.andThen]
    exact hK' _ _ (hMore k f e.born _ (Lib.hid ⟨hk.lo, hk.born, ⟨hm', 10, hset.1, Nat.le_refl _⟩, hO, hsh, hent⟩))
end
end Go.Proofs.YtagmoehjcgjnjaaGreatDoor
