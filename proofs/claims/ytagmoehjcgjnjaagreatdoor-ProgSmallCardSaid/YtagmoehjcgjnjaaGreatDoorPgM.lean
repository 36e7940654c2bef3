/- Stores of whole structs, and what a command asks of an instruction. No condition. -/
import Derived.Test.YtagmoehjcgjnjaaGreatDoorPgS2
namespace Go.Proofs.YtagmoehjcgjnjaaGreatDoor
open Go Go.RowKit

/-- Cells with a list laid over them from a place on. -/
def setL (cs : Array Value) : Nat → List Value → Array Value
  | _, [] => cs
  | o, v :: r => setL (cs.setIfInBounds o v) (o + 1) r
theorem Blk.setL {b : Nat} {t : TypeId} : ∀ (vs : List Value) (o : Nat) {w : World} {cs : Array Value}, Blk w b t cs → Blk (w.setCells b o vs) b t (setL cs o vs)
  | [], _, _, _, h => h
  | v :: r, o, _, _, h => Blk.setL r (o + 1) (h.set_ o v)
theorem Only.setL {b : Nat} {S : List Nat} (hb : b ∈ S) : ∀ (vs : List Value) (o : Nat) {w0 w : World}, Only S w0 w → Only S w0 (w.setCells b o vs)
  | [], _, _, _, h => h
  | v :: r, o, _, _, h => Only.setL hb r (o + 1) (h.set1 hb o v)
theorem Blk.there {w : World} {b : Nat} {t : TypeId} {cs : Array Value} (h : Blk w b t cs) {o n : Nat} (hn : o + n ≤ cs.size) : w.there b o n := fun j hj => by
  refine ⟨?_, h.frozen _⟩
  rw [h.cell (o + j), Array.getElem?_eq_getElem (by omega)]
  rfl
theorem wpList_st {ops : Array Oper} {rest : List Oper} {op : Oper} {a : Act} {w : World} {Q : Exit → Act → World → Prop} (T : TypeId) (vs : List Value) (b o : Nat) (x y : Operand) (ho : op.op = .store T x y)
    (hT : (Tryz.prog.info? T).map (·.size) = some vs.length) (hw : Region.wanted op (yielded ops a.tmps) = true) (hx : a.eval x = .pointer (some ⟨b, o, none⟩)) (hy : a.eval y = .agg vs.toArray)
    (h1 : vs.all (·.oneCell') = true) {t : TypeId} {cs : Array Value} (hB : Blk w b t cs) (hsz : o + vs.length ≤ cs.size)
    (hk : ∀ w', Blk w' b t (setL cs o vs) → Only [b] w w' → wpList Tryz.prog ops Q rest (a.put op.dst undef) w') : wpList Tryz.prog ops Q (op :: rest) a w :=
  BigFrame.wpList_want hw fun K hK => by
    refine wp_store_mid T x y ho b o vs.toArray hx hy (hB.there (by simpa using hsz)) (by simpa using hT) (all_oneCell_toArray (by simpa using h1)) (hK _ _ ?_)
    simp only [List.toList_toArray]
    exact hk _ (Blk.setL _ _ hB) (Only.setL (by simp) _ _ (Only.refl _ _))

abbrev Cf.zero : Cf := ⟨0, 0, 0, 0, false, 0, 0, 0, false, false, 0, false⟩
theorem setL_conf (x : In) : setL x.cs 6 Cf.zero.list = x.noCf.cs := by
  simp [setL, In.noCf]
set_option maxHeartbeats 1000000 in
theorem conf_any (x : In) (w : World) : Calls Tryz.prog 46 #[x.agg] w fun e w' => e = .returned (.bool x.conf) ∧ Only [] w w' := by
  obtain ⟨r, hr⟩ : ∃ r, x.cf.right = r := ⟨_, rfl⟩
  have e : x.conf = (r && x.noCf.none_) := by rw [← hr]; rfl
  rw [e]
  have HP := Lib.hid (fun W => right_any x.cf W)
  rw [hr] at HP
  have HN := ShB.new w x
  have HR := Lib.hid HN.rngC
  have HN' := Lib.hid HN
  clear hr e HN
  cases r
  · go_enter Tryz.func46, Tryz.ntmps46
    go_wp2_with (first
      | (refine wpList_ldc x.cf w.heap.size 6 _ rfl rfl rfl HR.out ?_)
      | (go_at_call 63; refine (HP.out _).mono ?_; rintro e w1 ⟨rfl, hO1⟩)
      | (refine wpList_st 31 Cf.zero.list w.heap.size 6 _ _ rfl (by kernel_rfl) rfl rfl rfl rfl (hO1.blk HN'.out (by simp)) (Nat.le_of_ble_eq_true rfl) ?_; intro w2 hB2 hO2))
    go_returns
    exact ⟨rfl, ((hO1.mono (by simp)).trans hO2).fresh rfl⟩
  · go_enter Tryz.func46, Tryz.ntmps46
    go_wp2_with (first
      | (refine wpList_ldc x.cf w.heap.size 6 _ rfl rfl rfl HR.out ?_)
      | (refine wpList_ld 61 x.noCf w.heap.size 0 _ rfl (.inr rfl) rfl rfl HR2.out ?_)
      | (go_at_call 63; refine (HP.out _).mono ?_; rintro e w1 ⟨rfl, hO1⟩)
      | (go_at_call 41; refine (none_any x.noCf _).mono ?_; rintro e w3 ⟨rfl, hO3⟩)
      | (refine wpList_st 31 Cf.zero.list w.heap.size 6 _ _ rfl (by kernel_rfl) rfl rfl rfl rfl (hO1.blk HN'.out (by simp)) (Nat.le_of_ble_eq_true rfl) ?_; intro w2 hB2 hO2; rw [setL_conf] at hB2; have HR2 := Lib.hid (Blk.rng hB2)))
    go_returns
    exact ⟨rfl, (((hO1.mono (by simp)).trans hO2).fresh rfl).trans hO3⟩
end Go.Proofs.YtagmoehjcgjnjaaGreatDoor
