/- A map that is written out in a region that draws its order, and is looked up there: whatever order, the row that was written for a key is found. No condition. -/
import Derived.Test.YtnnlnffdbdpmbaaStage
import Derived.Test.YtnnlnffdbdpmbaaMem
import Derived.MapKept
namespace Go.Proofs.Ytnnlnffdbdpmbaa
open Go

/-- What has come up of a map's rows (the operation's number, the key, the value) is what the entries hold. -/
def MapSt (l : List (Nat × Value × Value)) (L : Array Bool) (es : Array MapEntry) : Prop :=
  (∀ e ∈ es.toList, ∃ x ∈ l, L.getD x.1 false = true ∧ e.key = x.2.1 ∧ e.val = x.2.2) ∧
  (∀ x ∈ l, L.getD x.1 false = true → ∃ e ∈ es.toList, e.key = x.2.1 ∧ e.val = x.2.2)

theorem set_push (h : Array Obj) (x y : Obj) : (h.push x).setIfInBounds h.size y = h.push y := by
  apply Array.ext_getElem?
  intro i
  rw [Array.getElem?_setIfInBounds, Array.getElem?_push, Array.getElem?_push]
  by_cases hi : h.size = i
  · subst hi; simp
  · rw [if_neg hi, if_neg (Ne.symm hi), if_neg (Ne.symm hi)]

theorem getD_set_self (L : Array Bool) (i : Nat) (b : Bool) (h : L.getD i true = false) : (L.setIfInBounds i true).getD i b = true := by
  have hlt : i < L.size := by
    rcases Nat.lt_or_ge i L.size with h' | h'
    · exact h'
    · simp [Array.getElem?_eq_none h'] at h
  simp [Array.getD_eq_getD_getElem?, hlt]
theorem getD_set_mono (L : Array Bool) (i j : Nat) (h : L.getD j false = true) : (L.setIfInBounds i true).getD j false = true := by
  simp only [Array.getD_eq_getD_getElem?, Array.getElem?_setIfInBounds] at h ⊢
  split
  · rename_i e
    subst e
    split
    · rfl
    · rename_i h'
      simp [Array.getElem?_eq_none (Nat.ge_of_not_lt h')] at h
  · exact h
theorem getD_set_ne' (L : Array Bool) {i j : Nat} (h : j ≠ i) (b : Bool) : (L.setIfInBounds i true).getD j b = L.getD j b := by
  simp only [Array.getD_eq_getD_getElem?, Array.getElem?_setIfInBounds]
  rw [if_neg (fun e => h e.symm)]

section
variable {l : List (Nat × Value × Value)} {L : Array Bool} {es : Array MapEntry} {d : TypeDesc} {k : Value}
theorem MapSt.start (h : ∀ x ∈ l, L.getD x.1 false = false) : MapSt l L #[] :=
  ⟨fun e he => by simp at he, fun x hx hL => by rw [h x hx] at hL; cases hL⟩
theorem MapSt.other {i : Nat} (h : MapSt l L es) (hi : ∀ x ∈ l, x.1 ≠ i) : MapSt l (L.setIfInBounds i true) es :=
  ⟨fun e he => let ⟨x, hx, h1, h2⟩ := h.1 e he; ⟨x, hx, getD_set_mono L i _ h1, h2⟩, fun x hx hL => h.2 x hx (by rwa [getD_set_ne' L (hi x hx)] at hL)⟩
theorem MapSt.put {i : Nat} {v : Value} {ck : Nat} (h : MapSt l L es) (hx : (i, k, v) ∈ l) (hd : ∀ x ∈ l, x.1 ≠ i → x.2.1 ≠ k) (hu : ∀ x ∈ l, x.1 = i → x = (i, k, v)) (hk : ∀ x ∈ l, MapKept.IsKey d x.2.1) (hL : L.getD i true = false) :
    Instr.findNow d k es.toList 0 = some none ∧ MapSt l (L.setIfInBounds i true) (es.push { key := k, val := v, born := ck }) := by
  have hLf : L.getD i false = false := by
    rcases Nat.lt_or_ge i L.size with h' | h'
    · simpa [Array.getD_eq_getD_getElem?, h'] using hL
    · simp [Array.getElem?_eq_none h'] at hL
  constructor
  · rcases MapKept.findNow_spec (hk _ hx) es.toList 0 (fun e he => by obtain ⟨x, hx', -, e1, -⟩ := h.1 e he; rw [e1]; exact hk x hx') with ⟨h1, -⟩ | ⟨j, e, -, hj, e2⟩
    · exact h1
    · obtain ⟨x, hx', h1, e1, -⟩ := h.1 e (List.mem_of_getElem? hj)
      exact absurd (e1.symm.trans e2) (hd x hx' fun q => by rw [q] at h1; rw [hLf] at h1; cases h1)
  · refine ⟨fun e he => ?_, fun x hx' hL' => ?_⟩
    · simp only [Array.toList_push, List.mem_append, List.mem_singleton] at he
      rcases he with he | rfl
      · obtain ⟨x, hx', h1, h2⟩ := h.1 e he
        exact ⟨x, hx', getD_set_mono L i _ h1, h2⟩
      · exact ⟨_, hx, getD_set_self L i _ hL, rfl, rfl⟩
    · by_cases hxi : x.1 = i
      · have := hu x hx' hxi
        subst this
        exact ⟨{ key := k, val := v, born := ck }, by simp, rfl, rfl⟩
      · rw [getD_set_ne' L hxi] at hL'
        obtain ⟨e, he, h2⟩ := h.2 x hx' hL'
        exact ⟨e, by simp [he], h2⟩
theorem MapSt.hit {i : Nat} {v : Value} (h : MapSt l L es) (hx : (i, k, v) ∈ l) (hd : ∀ x ∈ l, x.2.1 = k → x.2.2 = v) (hk : ∀ x ∈ l, MapKept.IsKey d x.2.1) (hL : L.getD i false = true) :
    ∃ j, Instr.findNow d k es.toList 0 = some (some (j, v)) := by
  rcases MapKept.findNow_spec (hk _ hx) es.toList 0 (fun e he => by obtain ⟨x, hx', -, e1, -⟩ := h.1 e he; rw [e1]; exact hk x hx') with ⟨-, h2⟩ | ⟨j, e, h1, hj, e2⟩
  · obtain ⟨e, he, e1, -⟩ := h.2 _ hx hL
    exact absurd e1 (h2 e he)
  · obtain ⟨x, hx', -, e1, e3⟩ := h.1 e (List.mem_of_getElem? hj)
    refine ⟨0 + j, ?_⟩
    rw [h1, e3, hd x hx' (e1.symm.trans e2)]
theorem MapSt.miss (h : MapSt l L es) (hkk : MapKept.IsKey d k) (hd : ∀ x ∈ l, x.2.1 ≠ k) (hk : ∀ x ∈ l, MapKept.IsKey d x.2.1) : Instr.findNow d k es.toList 0 = some none := by
  rcases MapKept.findNow_spec hkk es.toList 0 (fun e he => by obtain ⟨x, hx', -, e1, -⟩ := h.1 e he; rw [e1]; exact hk x hx') with ⟨h1, -⟩ | ⟨j, e, h1, hj, e2⟩
  · exact h1
  · obtain ⟨x, hx', -, e1, -⟩ := h.1 e (List.mem_of_getElem? hj)
    exact absurd (e1.symm.trans e2) (hd x hx')
end

/-- Numbers and keys of a map's rows are all unlike. -/
def Rows1 (l : List (Nat × Value × Value)) : Prop := l.Pairwise fun x y => x.1 ≠ y.1 ∧ x.2.1 ≠ y.2.1
theorem pw_two {α : Type} {R : α → α → Prop} : ∀ {l : List α}, l.Pairwise R → ∀ {x y : α}, x ∈ l → y ∈ l → x = y ∨ R x y ∨ R y x
  | [], _, _, _, hx, _ => by simp at hx
  | a :: l, h, x, y, hx, hy => by
    rw [List.pairwise_cons] at h
    rcases List.mem_cons.1 hx with rfl | hx' <;> rcases List.mem_cons.1 hy with rfl | hy'
    · exact .inl rfl
    · exact .inr (.inl (h.1 _ hy'))
    · exact .inr (.inr (h.1 _ hx'))
    · exact pw_two h.2 hx' hy'
theorem Rows1.key {l : List (Nat × Value × Value)} (h : Rows1 l) {i : Nat} {k u : Value} (hx : (i, k, u) ∈ l) : ∀ x ∈ l, x.1 ≠ i → x.2.1 ≠ k := fun x hm hne => by
  rcases pw_two h hm hx with rfl | h1 | h1
  · exact absurd rfl hne
  · exact h1.2
  · exact h1.2.symm
theorem Rows1.num {l : List (Nat × Value × Value)} (h : Rows1 l) {i : Nat} {k u : Value} (hx : (i, k, u) ∈ l) : ∀ x ∈ l, x.1 = i → x = (i, k, u) := fun x hm he => by
  rcases pw_two h hm hx with rfl | h1 | h1
  · rfl
  · exact absurd he h1.1
  · exact absurd he.symm h1.1
theorem Rows1.val {l : List (Nat × Value × Value)} (h : Rows1 l) {i : Nat} {k u : Value} (hx : (i, k, u) ∈ l) : ∀ x ∈ l, x.2.1 = k → x.2.2 = u := fun x hm he => by
  rcases pw_two h hm hx with rfl | h1 | h1
  · rfl
  · exact absurd he h1.2
  · exact absurd he.symm h1.2

/-- The class: ahead of operation 'm' (the map's making) the world 'w0'; behind it one block more, the map. -/
def MapC (w0 : World) (m : Nat) (l : List (Nat × Value × Value)) (L : Array Bool) (w' : World) : Prop :=
  if L.getD m false = true then ∃ es ck, w' = w0.alloc (.map es ck) ∧ MapSt l L es else w' = w0 ∧ ∀ x ∈ l, L.getD x.1 false = false

theorem MapC.only {w w' : World} {m : Nat} {l : List (Nat × Value × Value)} {L : Array Bool} (h : MapC w.drew m l L w') (S : List Nat) : Only S w w' := by
  unfold MapC at h
  split at h
  · obtain ⟨es, ck, rfl, -⟩ := h
    exact ((Only.refl _ _).drew).alloc _
  · rw [h.1]
    exact (Only.refl _ _).drew

section
variable {P : Program} {ops : Array Oper} {w0 : World} {m : Nat} {l : List (Nat × Value × Value)} {i : Nat} {o : Oper} {a : Act} {v : Value}
/-- An operation that looks at no map. -/
theorem st_pure (hm : i ≠ m) (hi : ∀ x ∈ l, x.1 ≠ i) (hw : Region.wanted o (yielded ops a.tmps) = true) (h : ∀ w, (execOp a.eval o).run P w = .ok (.value v) w) : StYields P (MapC w0 m l) ops i o v a := by
  intro L w hs
  rw [if_pos hw, h w]
  refine ⟨rfl, ?_⟩
  have hc := hs.cls
  unfold MapC at hc ⊢
  rw [getD_set_ne' L (Ne.symm hm)]
  split
  · rename_i hL
    rw [if_pos hL] at hc
    obtain ⟨es, ck, h1, h2⟩ := hc
    exact ⟨es, ck, h1, h2.other hi⟩
  · rename_i hL
    rw [if_neg hL] at hc
    exact ⟨hc.1, fun x hx => by rw [getD_set_ne' L (hi x hx)]; exact hc.2 x hx⟩
/-- The map is made. -/
theorem st_make {t : TypeId} (hm : i = m) (hi : ∀ x ∈ l, x.1 ≠ i) (hw : Region.wanted o (yielded ops a.tmps) = true) (ho : o.op = .makeMap t none) : StYields P (MapC w0 m l) ops i o (.map (some w0.heap.size)) a := by
  subst hm
  intro L w hs
  have hc := hs.cls
  have hLf : L.getD i false = false := by
    have := hs.own
    rcases Nat.lt_or_ge i L.size with h' | h'
    · simpa [Array.getD_eq_getD_getElem?, h'] using this
    · simp [Array.getElem?_eq_none h'] at this
  unfold MapC at hc
  rw [hLf, if_neg (by simp)] at hc
  obtain ⟨rfl, hz⟩ := hc
  have hr : (execOp a.eval o).run P w = .ok (.value (.map (some w.heap.size))) (w.alloc (.map #[] 0)) := by
    unfold execOp
    rw [ho]
    simp [Instr.makeMap, Result.andThen]
  rw [if_pos hw, hr]
  refine ⟨rfl, ?_⟩
  unfold MapC
  rw [if_pos (getD_set_self L i _ hs.own)]
  exact ⟨#[], 0, rfl, MapSt.start fun x hx => by rw [getD_set_ne' L (hi x hx)]; exact hz x hx⟩
/-- A row is put in. -/
theorem st_insert {t kt et : TypeId} {d : TypeDesc} {x1 x2 x3 : Operand} {k u : Value} (hi0 : ops[i]? = some o) (hdep : waits ops 3 i m = true) (ho : o.op = .insert t x1 x2 x3)
    (h1 : a.eval x1 = .map (some w0.heap.size)) (h2 : a.eval x2 = k) (h3 : a.eval x3 = u) (ht : P.underlying t = some (.map kt et)) (hkt : P.underlying kt = some d)
    (j : Nat) (hj : l[j]? = some (i, k, u)) (hp : Rows1 l) (hk : ∀ x ∈ l, MapKept.IsKey d x.2.1)
    (hw : Region.wanted o (yielded ops a.tmps) = true) : StYields P (MapC w0 m l) ops i o undef a := by
  have hx := List.mem_of_getElem? hj
  have hd := hp.key hx
  have hu := hp.num hx
  intro L w hs
  have hc := hs.cls
  have hLm := hs.waits hi0 hdep
  unfold MapC at hc
  rw [if_pos hLm] at hc
  obtain ⟨es, ck, rfl, hst⟩ := hc
  obtain ⟨hf, hst'⟩ := hst.put (ck := ck) hx hd hu hk hs.own
  have hblk : (w0.alloc (.map es ck)).heap[w0.heap.size]? = some (.map es ck) := (MapKept.heap_alloc w0 _).1
  have hck : (Instr.checkKey false 10000 kt k).run P (w0.alloc (.map es ck)) = .ok () (w0.alloc (.map es ck)) := MapKept.run_checkKey hkt (hk _ hx) false 9999
  have hr : (execOp a.eval o).run P (w0.alloc (.map es ck)) = .ok .skip { w0.alloc (.map es ck) with heap := (w0.alloc (.map es ck)).heap.setIfInBounds w0.heap.size (.map (es.push { key := k, val := u, born := ck }) (ck + 1)) } := by
    unfold execOp
    rw [ho]
    simp only [h1, h2, h3]
    simp [Instr.mapUpdate, run_underlying ht, MapKept.run_getObj_map hblk, hck, MapKept.run_findKey hkt hf, MapKept.run_setObj_map _ hblk, Result.andThen]
  rw [if_pos hw, hr]
  refine ⟨rfl, ?_⟩
  unfold MapC
  rw [if_pos (getD_set_mono L i m hLm)]
  exact ⟨es.push { key := k, val := u, born := ck }, ck + 1, congrArg (fun h => ({ w0 with heap := h } : World)) (set_push w0.heap _ _), hst'⟩
/-- A key is looked up, when all rows are in: the row's value, or the kind's zero. -/
theorem st_lookup {t kt et : TypeId} {d : TypeDesc} {x1 x2 : Operand} {k u : Value} (hi : ∀ x ∈ l, x.1 ≠ i) (hi0 : ops[i]? = some o) (hdep : waits ops 3 i m = true) (ho : o.op = .lookup t x1 x2 false)
    (h1 : a.eval x1 = .map (some w0.heap.size)) (h2 : a.eval x2 = k) (ht : P.underlying t = some (.map kt et)) (hkt : P.underlying kt = some d)
    (hk : ∀ x ∈ l, MapKept.IsKey d x.2.1) (hkk : MapKept.IsKey d k) (hall : ∀ x ∈ l, waits ops 3 i x.1 = true)
    (hz : (∀ x ∈ l, x.2.1 ≠ k) → ∀ w, (zeroValue et).run P w = .ok u w) (hv : ∀ x ∈ l, x.2.1 = k → x.2.2 = u)
    (hw : Region.wanted o (yielded ops a.tmps) = true) : StYields P (MapC w0 m l) ops i o u a := by
  intro L w hs
  have hc := hs.cls
  have hc' := hs.cls
  have hLm := hs.waits hi0 hdep
  unfold MapC at hc
  rw [if_pos hLm] at hc
  obtain ⟨es, ck, rfl, hst⟩ := hc
  have hLall : ∀ x ∈ l, L.getD x.1 false = true := fun x hx => hs.waits hi0 (hall x hx)
  have hblk : (w0.alloc (.map es ck)).heap[w0.heap.size]? = some (.map es ck) := (MapKept.heap_alloc w0 _).1
  have hck : (Instr.checkKey es.isEmpty 10000 kt k).run P (w0.alloc (.map es ck)) = .ok () (w0.alloc (.map es ck)) := MapKept.run_checkKey hkt hkk _ 9999
  have hr : (execOp a.eval o).run P (w0.alloc (.map es ck)) = .ok (.value u) (w0.alloc (.map es ck)) := by
    unfold execOp
    rw [ho]
    simp only [h1, h2]
    by_cases hany : ∃ x ∈ l, x.2.1 = k
    · obtain ⟨x, hx, rfl⟩ := hany
      obtain ⟨j, hf⟩ := hst.hit (i := x.1) (v := x.2.2) (k := x.2.1) (d := d) hx (fun y hy e => (hv y hy e).trans (hv x hx rfl).symm) hk (hLall x hx)
      have := hv x hx rfl
      simp [Instr.lookup, run_underlying ht, MapKept.run_getObj_map hblk, hck, MapKept.run_findKey hkt hf, Result.andThen, this]
    · have hne : ∀ x ∈ l, x.2.1 ≠ k := fun x hx e => hany ⟨x, hx, e⟩
      have hf := hst.miss hkk hne hk
      simp [Instr.lookup, run_underlying ht, MapKept.run_getObj_map hblk, hck, MapKept.run_findKey hkt hf, Result.andThen, hz hne]
  rw [if_pos hw, hr]
  refine ⟨rfl, ?_⟩
  unfold MapC
  rw [if_pos (getD_set_mono L i m hLm)]
  exact ⟨es, ck, rfl, hst.other hi⟩
end
end Go.Proofs.Ytnnlnffdbdpmbaa
