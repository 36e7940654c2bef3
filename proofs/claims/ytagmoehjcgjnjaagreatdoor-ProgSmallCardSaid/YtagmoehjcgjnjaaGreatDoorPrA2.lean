/- The kit's flatProgram, walked: lists that lie apart are told apart. Conditions: they are few and short. -/
import Derived.Test.YtagmoehjcgjnjaaGreatDoorPrGc
import Derived.Deep.OwnRows
namespace Go.Proofs.YtagmoehjcgjnjaaGreatDoor
open Go Go.RowKit
attribute [local go_sem ↓] in_eql36 in_neq36

/-- What has happened since a world: rows, and a list of them in a block. -/
structure SW (w : World) (base B : Nat) (bc : Array Value) (F : Nat → Value → List In → Prop) (W : World) : Prop where
  fam : Fam W base F
  ls : Blk W B 22 bc
  own : OnlyB base [] w W
  bs : base ≤ w.heap.size
  oth : ∀ b t cs, t ≠ 33 → Blk w b t cs → Blk W b t cs
theorem SW.size {w W : World} {base B : Nat} {bc : Array Value} {F : Nat → Value → List In → Prop} (h : SW w base B bc F W) : base ≤ W.heap.size := Nat.le_trans h.bs h.own.size
theorem SW.call {w W W' : World} {base B : Nat} {bc : Array Value} {F : Nat → Value → List In → Prop} (h : SW w base B bc F W) (hO : Only [] W W') : SW w base B bc F W' :=
  ⟨h.fam.call hO, hO.blk h.ls (by simp), h.own.trans (hO.b h.size), h.bs, fun b t cs ht hb => hO.blk (h.oth b t cs ht hb) (by simp)⟩
theorem SW.sub {w W : World} {base B : Nat} {bc : Array Value} {F F' : Nat → Value → List In → Prop} (h : SW w base B bc F W) (hs : ∀ k v l, F' k v l → F k v l) : SW w base B bc F' W :=
  ⟨h.fam.sub hs, h.ls, h.own, h.bs, h.oth⟩
theorem SW.setG {w W : World} {base B G : Nat} {bc gc : Array Value} {F : Nat → Value → List In → Prop} (h : SW w base B bc F W) (hG : Blk W G 22 gc) (hb : w.heap.size ≤ G) (hne : B ≠ G) (i : Nat) (u : Value) : SW w base B bc F (W.setCell ⟨G, i, none⟩ u) :=
  ⟨h.fam.only (S := [G]) ((Only.refl [G] W).set1 (by simp) i u) (fun z hz cur hc => by
    simp only [List.mem_cons, List.not_mem_nil, or_false] at hz
    subst hz
    exact Blk.ne_ hG hc (by decide) rfl), h.ls.far hne u, h.own.setCell (.inr (Nat.le_trans h.bs hb)) u, h.bs, fun b t cs ht hbk => (h.oth b t cs ht hbk).far (by have := hbk.lt; simp only; omega) u⟩
theorem SW.tch {w W W' : World} {base B : Nat} {bc : Array Value} {F F' : Nat → Value → List In → Prop} (h : SW w base B bc F W) (hF : Fam W' base F') (hT : Tch base W W') : SW w base B bc F' W' :=
  ⟨hF, hT.blk (by decide) h.ls, h.own.trans (hT.onlyB h.size), h.bs, fun b t cs ht hb => hT.blk ht (h.oth b t cs ht hb)⟩
theorem SW.put {w W : World} {base B k i : Nat} {bc : Array Value} {v : Value} {l : List In} {F : Nat → Value → List In → Prop} (h : SW w base B bc F W) (hk : F k v l) (hi : i < l.length) (hu : ∀ v' l', F k v' l' → v' = v ∧ l' = l) :
    ∃ g c, v = .slice (some ⟨g, 0, none⟩) l.length c ∧ l.length ≤ c ∧ ∀ W1, Only [] W W1 → ∃ cur, Blk W1 g 33 cur ∧ i * 18 + 18 ≤ cur.size ∧ ∀ x W', Blk W' g 33 (setL cur (i * 18) x.cs.toList) → Only [g] W1 W' →
      SW w base B bc (fun k' v' l' => (F k' v' l' ∧ k' ≠ k) ∨ (k' = k ∧ v' = v ∧ l' = l.set i x)) W' := by
  obtain ⟨g, c, cur0, rfl, hc, -, -⟩ := h.fam.put hk hi hu
  refine ⟨g, c, rfl, hc, fun W1 hO => ?_⟩
  have h1 := h.call hO
  obtain ⟨g2, c2, cur, hv, -, hbg, hg, hsz, hput⟩ := h1.fam.put hk hi hu
  simp only [Value.slice.injEq, Option.some.injEq, Addr.mk.injEq, and_true, true_and] at hv
  obtain ⟨rfl, rfl⟩ := hv
  refine ⟨cur, hg, hsz, fun x W' hW hO2 => h1.tch (hput x W' hW hO2) ⟨[g], hO2, fun z hz => ?_⟩⟩
  simp only [List.mem_cons, List.not_mem_nil, or_false] at hz
  subst hz
  exact ⟨hbg, cur, hg⟩

theorem eqg_no : Tryz.prog.eqGuardType Tryz.prog.depth 33 = false := by kernel_rfl
theorem st_eql {D : World → Prop} {op : Oper} {a : Act} {w : World} (y z : Operand) (ho : op.op = .binOp .eql 33 y z 33) (x : In) (h1 : a.eval y = x.agg) (h2 : a.eval z = x.agg) (hD : D w) :
    StUpon Tryz.prog (.bool true) D ((execOp a.eval op).run Tryz.prog w) := by
  have hr : (execOp a.eval op).run Tryz.prog w = .ok (.value (.bool true)) w := by
    unfold execOp
    simp only [ho, h1, h2, Sem.run_bind, Sem.run_pure, Result.andThen_ok, run_eqGuard_agg w BinOp.eql 33 y z _ _ eqg_no, in_eql x x w, (In.same_iff x x).2 rfl]
  rw [hr]
  exact ⟨rfl, hD⟩

/-- The rows themselves. -/
def F1 (N : Nat) (vv : Nat → Value) (L : Nat → List In) : Nat → Value → List In → Prop := fun j v l => j < N ∧ v = vv j ∧ l = L j
def upd {α : Type} (f : Nat → α) (k : Nat) (x : α) : Nat → α := fun j => if j = k then x else f j
theorem upd_at {α : Type} (f : Nat → α) (k : Nat) (x : α) : upd f k x k = x := if_pos rfl
theorem upd_ne {α : Type} (f : Nat → α) {k j : Nat} (x : α) (h : j ≠ k) : upd f k x j = f j := if_neg h
theorem F1_put {N k i : Nat} {vv : Nat → Value} {L : Nat → List In} {x : In} (hk : k < N) : ∀ k' v' l', F1 N vv (upd L k ((L k).set i x)) k' v' l' → (F1 N vv L k' v' l' ∧ k' ≠ k) ∨ (k' = k ∧ v' = vv k ∧ l' = (L k).set i x) := by
  rintro k' v' l' ⟨h1, h2, h3⟩
  by_cases hkk : k' = k
  · subst hkk
    exact .inr ⟨rfl, h2, by rw [h3, upd_at]⟩
  · rw [upd_ne _ _ hkk] at h3
    exact .inl ⟨⟨h1, h2, h3⟩, hkk⟩
theorem take_set {l : List In} {i : Nat} {x : In} {m : List In} (hi : i < l.length) (h : l.take i = m) : (l.set i x).take (i + 1) = m ++ [x] := by
  rw [List.take_succ_eq_append_getElem (by simpa using hi), List.take_set_of_le (Nat.le_refl _), h]
  simp

/-- The rows, and so many grown ones. -/
def F2 (N : Nat) (vv : Nat → Value) (L : Nat → List In) (k : Nat) (us : Nat → Value) (G : Nat → List In) : Nat → Value → List In → Prop := fun j v l => F1 N vv L j v l ∨ (j < k ∧ v = us j ∧ l = G j)
/-- One more, that grows. -/
def F3 (N : Nat) (vv : Nat → Value) (L : Nat → List In) (k : Nat) (us : Nat → Value) (G : Nat → List In) (v0 : Value) (l0 : List In) : Nat → Value → List In → Prop := fun j v l => F2 N vv L k us G j v l ∨ (j = k ∧ v = v0 ∧ l = l0)
def mkn (L : Nat → List In) (m : Nat) : Nat → List In := fun j => marks j ((L j).length + m)
theorem marks_pre (k n m : Nat) : ∃ r, marks k (n + m) = marks k n ++ r := ⟨(marks k (n + m)).drop n, by
  have := List.take_append_drop n (marks k (n + m))
  rw [marks_take (by omega)] at this
  exact this.symm⟩
theorem F3_pre {N k i : Nat} {vv us : Nat → Value} {L G : Nat → List In} {v0 : Value} : ∀ v' l', F3 N vv (mkn L 0) k us G v0 (marks k ((L k).length + i)) k v' l' → ∃ m, marks k ((L k).length + i) = l' ++ m := by
  rintro v' l' ((⟨-, -, rfl⟩ | ⟨h, -⟩) | ⟨-, -, rfl⟩)
  · exact marks_pre k _ i
  · omega
  · exact ⟨[], by simp⟩
theorem cells_flat {w : World} {g : Nat} {t : TypeId} {x : In} (h : Blk w g t x.cs) : ∀ (j : Nat) u, (flatI [x])[j]? = some u → w.cell? ((⟨g, 0, none⟩ : Addr).add j) = some u := by
  have e : flatI [x] = x.cs.toList := by simp [flatI]
  rw [e]
  exact cells_at h
/-- What the rows are grown to by many at once. -/
def grL (L : Nat → List In) (N : Nat) : Nat → List In := fun j => marks j (L j).length ++ marks (j + N) 64
/-- The rows, grown ones, and one more. -/
def F5 (N : Nat) (vv : Nat → Value) (L : Nat → List In) (k : Nat) (us : Nat → Value) (G : Nat → List In) (v0 : Value) (l0 : List In) : Nat → Value → List In → Prop := fun j v l => F2 N vv L k us G j v l ∨ (j = N ∧ v = v0 ∧ l = l0)
theorem zerosN (n : Nat) : (madeCells (In.only 0).cs (n * 18)).toList = flatI (List.replicate n (In.only 0)) := by
  apply List.ext_getElem?
  intro j
  by_cases hj : j < n * 18
  · have h1 : j = j / 18 * 18 + j % 18 := by omega
    have h2 : j / 18 < n := by omega
    have h3 : j % 18 < 18 := Nat.mod_lt _ (by omega)
    have h4 : ∀ m, m < 18 → (In.only 0).cs.toList[m]? = some ((In.only 0).cs[m]!) := by
      intro m hm
      have : m = 0 ∨ m = 1 ∨ m = 2 ∨ m = 3 ∨ m = 4 ∨ m = 5 ∨ m = 6 ∨ m = 7 ∨ m = 8 ∨ m = 9 ∨ m = 10 ∨ m = 11 ∨ m = 12 ∨ m = 13 ∨ m = 14 ∨ m = 15 ∨ m = 16 ∨ m = 17 := by omega
      rcases this with rfl | rfl | rfl | rfl | rfl | rfl | rfl | rfl | rfl | rfl | rfl | rfl | rfl | rfl | rfl | rfl | rfl | rfl <;> rfl
    have h5 := flatI_at (List.replicate n (In.only 0)) (j / 18) (In.only 0) (j % 18) _ (by simp [h2]) (h4 _ h3)
    rw [← h1] at h5
    rw [h5]
    simp [madeCells, hj]
  · rw [List.getElem?_eq_none (by simp [madeCells]; omega), List.getElem?_eq_none (by rw [flatI_len, List.length_replicate]; omega)]
theorem zeros64 : (madeCells (In.only 0).cs (64 * 18)).toList = flatI (List.replicate 64 (In.only 0)) := zerosN 64
theorem F5_pre {N k n : Nat} {vv us : Nat → Value} {L G : Nat → List In} {v0 : Value} {l0 : List In} (hkN : k < N) (hn : (L k).length = n) : ∀ v' l', F5 N vv (mkn L 0) k us G v0 l0 k v' l' → ∃ m, marks k n = l' ++ m := by
  rintro v' l' ((⟨-, -, rfl⟩ | ⟨h, -⟩) | ⟨h, -⟩)
  · refine ⟨[], ?_⟩
    unfold mkn
    rw [hn]
    simp
  · omega
  · omega
theorem gc_cell {w : World} {G k : Nat} {gc : Array Value} {t : TypeId} (h : Blk w G t gc) (hk : k < gc.size) : w.cell? ⟨G, k, none⟩ = some (gc.getD k undef) := by
  rw [h.cell k]
  simp [hk]
theorem infoSl : (Tryz.prog.info? 22).map (fun i => (i.zero, i.size, i.bytes)) = some (some (.slice none 0 0), 1, 24) := by kernel_rfl

set_option maxRecDepth 100000 in
set_option maxHeartbeats 16000000 in
theorem flatP_any (N B c base : Nat) (bc : Array Value) (vv : Nat → Value) (L : Nat → List In) (w : World) (hN : N ≤ 400) (_hc : N ≤ c) (hL : ∀ k, k < N → (L k).length ≤ 100000) (hbc : ∀ k, k < N → bc[k]? = some (vv k)) (hS : SW w base B bc (F1 N vv L) w) :
    Calls Tryz.prog 92 #[.slice (some ⟨B, 0, none⟩) N c] w fun e w' => e = .returned (.bool true) ∧ OnlyB base [] w w' ∧ ∀ b t cs, t ≠ 33 → Blk w b t cs → Blk w' b t cs := by
  have HV : Hid (∀ k, k < N → ∃ p c, vv k = .slice p (L k).length c) := Lib.hid (fun k hk => (hS.fam.1 k (vv k) (L k) ⟨hk, rfl, rfl⟩).ins.len)
  have HL := Lib.hid hL
  have HBC := Lib.hid hbc
  have HS0 := Lib.hid hS
  clear hL hbc hS
  go_enter Tryz.func92, Tryz.ntmps92
  go_wp2_with fail
  go_loopw [3] (fun s wr => ∃ (k : Nat) (M : Nat → List In), s = .int .i64 k ∧ k ≤ N ∧ Hid (SW w base B bc (F1 N vv M) wr ∧ (∀ j, (M j).length = (L j).length) ∧ ∀ j, j < k → M j = marks j (L j).length)) (fun s _ => N - (intOf s).toNat)
  case atStart => exact ⟨0, L, rfl, by omega, Lib.hid ⟨HS0.out, fun _ => rfl, fun j hj => by omega⟩⟩
  case round =>
    obtain ⟨k, M, rfl, hk, HM⟩ := hrel
    by_cases hkN : k < N
    · have hki : (k : Int) < (N : Int) := by omega
      have hk0 : (0 : Int) ≤ (k : Int) := by omega
      obtain ⟨p, cv, hv⟩ := HV.out k hkN
      have HVk := Lib.hid hv
      have cB : wr.cell? ⟨B, k, none⟩ = some (.slice p (L k).length cv) := by rw [HM.out.1.ls.cell k, HBC.out k hkN, hv]
      have hLk := HL.out k hkN
      clear hv
      obtain ⟨n, hn⟩ : ∃ n, (L k).length = n := ⟨_, rfl⟩
      rw [hn] at cB hLk
      go_wp2_with fail
      obtain ⟨wo, hwo⟩ : ∃ x, x = wr := ⟨_, rfl⟩
      subst hwo
      go_loopw [4] (fun s wr => ∃ (i : Nat) (M : Nat → List In), s = .int .i64 i ∧ i ≤ n ∧ Hid (SW w base B bc (F1 N vv M) wr ∧ (∀ j, (M j).length = (L j).length) ∧ (∀ j, j < k → M j = marks j (L j).length) ∧ (M k).take i = marks k i)) (fun s _ => n - (intOf s).toNat)
      case atStart => exact ⟨0, M, rfl, by omega, Lib.hid ⟨HM.out.1, HM.out.2.1, HM.out.2.2, rfl⟩⟩
      case round =>
        clear HM cB
        obtain ⟨i, M, rfl, hi, HM⟩ := hrel
        have cB : wr.cell? ⟨B, k, none⟩ = some (.slice p n cv) := by rw [HM.out.1.ls.cell k, HBC.out k hkN, HVk.out, hn]
        by_cases hin : i < n
        · have hii : (i : Int) < (n : Int) := by omega
          have hi0 : (0 : Int) ≤ (i : Int) := by omega
          have hlen : (M k).length = n := by rw [HM.out.2.1 k, hn]
          obtain ⟨g, c2, hv2, hlc, hput⟩ := HM.out.1.put (k := k) (i := i) (v := vv k) (l := M k) ⟨hkN, rfl, rfl⟩ (by rw [hlen]; exact hin) (fun v' l' h => ⟨h.2.1, h.2.2⟩)
          rw [HVk.out, hn, hlen] at hv2
          simp only [Value.slice.injEq, true_and] at hv2
          obtain ⟨rfl, rfl⟩ := hv2
          have HP : Hid (∀ W1, Only [] wr W1 → ∃ cur, Blk W1 g 33 cur ∧ i * 18 + 18 ≤ cur.size ∧ ∀ W', Blk W' g 33 (setL cur (i * 18) (markI k i).cs.toList) → Only [g] W1 W' →
              (SW w base B bc (F1 N vv (upd M k ((M k).set i (markI k i)))) W' ∧ (∀ j, (upd M k ((M k).set i (markI k i)) j).length = (L j).length) ∧ (∀ j, j < k → upd M k ((M k).set i (markI k i)) j = marks j (L j).length) ∧ (upd M k ((M k).set i (markI k i)) k).take (i + 1) = marks k (i + 1))) := Lib.hid (by
            intro W1 hO
            obtain ⟨cur, h1, h2, h3⟩ := hput W1 hO
            refine ⟨cur, h1, h2, fun W' hW hO2 => ⟨(h3 _ W' hW hO2).sub (F1_put hkN), fun j => ?_, fun j hj => ?_, ?_⟩⟩
            · by_cases hjk : j = k
              · subst hjk
                rw [upd_at, List.length_set]
                exact HM.out.2.1 j
              · rw [upd_ne _ _ hjk]
                exact HM.out.2.1 j
            · rw [upd_ne _ _ (by omega)]
              exact HM.out.2.2.1 j hj
            · rw [upd_at, take_set (by rw [hlen]; exact hin) HM.out.2.2.2, marks_snoc])
          have HC : Hid (∀ W1, Only [] wr W1 → W1.cell? ⟨B, k, none⟩ = some (.slice (some ⟨g, 0, none⟩) n cv)) := Lib.hid (fun W1 hO => by rw [hO.cell (p := ⟨B, k, none⟩) HM.out.1.ls.lt (by simp)]; exact cB)
          have hlc2 : n ≤ cv := by rw [← hlen]; exact hlc
          have HK := Lib.hid (markI_any k i (by omega) (by omega))
          clear hput hlc cB HM
          generalize upd M k ((M k).set i (markI k i)) = M2 at *
          generalize markI k i = x at *
          have cB := HC.out wr (Only.refl _ _)
          go_wp2_with fail
          clear cB
          refine wp_region_TT 9 (Only [] wr) (by kernel_rfl) (by kernel_rfl) ((Only.refl _ _).drew) ?_
          simp only [List.take_succ_cons, List.take_zero, List.drop_succ_cons, List.drop_zero]
          repeat (
            refine wpT_step ?_ (stD rfl (fun w' hD => ?_)) ?_
            rotate_left
            · have cB := HC.out w' hD
              go_simp
              first
                | (refine ⟨?_, hD⟩; rfl)
                | (refine (HK.out w').mono ?_; rintro e w'' ⟨rfl, h⟩; refine ⟨?_, hD.trans h⟩; rfl)
            simp only [Act.put, List.setIfInBounds_toArray, List.set_cons_succ, List.set_cons_zero, Nat.zero_add, Nat.reduceAdd])
          refine wpT_nil ?_
          intro W1 hD
          obtain ⟨cur, hBc, hsz, hfin⟩ := HP.out W1 hD
          have HFin := Lib.hid hfin
          have HBc := Lib.hid hBc
          clear hfin hBc
          go_wp2_with (refine wpList_st 33 x.cs.toList g (i * 18) _ _ rfl (by kernel_rfl) rfl rfl rfl rfl HBc.out (by simpa using hsz) ?_; intro w3 hB3 hO3)
          refine ⟨⟨i + 1, M2, by go_num, by omega, Lib.hid (HFin.out _ hB3 hO3)⟩, ?_⟩
          simp [intOf]
          omega
        · have hii : ¬ (i : Int) < (n : Int) := by omega
          have HN : Hid (SW w base B bc (F1 N vv M) wr ∧ (∀ j, (M j).length = (L j).length) ∧ ∀ j, j < k + 1 → M j = marks j (L j).length) := Lib.hid ⟨HM.out.1, HM.out.2.1, fun j hj => by
            by_cases hjk : j < k
            · exact HM.out.2.2.1 j hjk
            · obtain rfl : j = k := by omega
              have h1 := HM.out.2.2.2
              have h2 := HM.out.2.1 j
              rw [List.take_of_length_le (by omega)] at h1
              rw [h1, hn, show i = n by omega]⟩
          clear HM
          go_wp2_with fail
          refine ⟨⟨k + 1, M, by go_num, by omega, HN⟩, ?_⟩
          simp [intOf]
          omega
    · have hki : ¬ (k : Int) < (N : Int) := by omega
      have HS2 : Hid (SW w base B bc (F1 N vv (mkn L 0)) wr) := Lib.hid (HM.out.1.sub (by
        rintro j v l ⟨h1, h2, h3⟩
        refine ⟨h1, h2, ?_⟩
        rw [h3, HM.out.2.2 j (by omega)]
        rfl))
      clear HM
      obtain ⟨i1, hi1, hz1, hs1, hb1⟩ := info_parts infoSl
      have HMk : Hid (i1.bytes * N ≤ 281474976710656) := Lib.hid (by rw [hb1]; omega)
      have hmsz : (madeCells #[Value.slice none 0 0] N).size = N := by simp [madeCells]
      have HB2 : Hid (SW w base B bc (F1 N vv (mkn L 0)) (wr.alloc (.cells (madeCells #[.slice none 0 0] N) 22)) ∧ Blk (wr.alloc (.cells (madeCells #[.slice none 0 0] N) 22)) wr.heap.size 22 (madeCells #[.slice none 0 0] N)) := Lib.hid ⟨HS2.out.call ((Only.refl _ _).alloc _), Blk.new _ _ _⟩
      have hGB : B ≠ wr.heap.size := by have := HS2.out.ls.lt; omega
      have hGb : w.heap.size ≤ wr.heap.size := HS2.out.own.size
      clear HS2
      go_upto_region 9 with (refine wpList_make_row _ rfl _ _ 65 rfl 22 i1 (.slice none 0 0) Tryz.underlying65 hi1 hz1 hs1 rfl .i64 .i64 N rfl rfl HMk.out (by omega) ?_)
      generalize wr.heap.size = G at *
      generalize madeCells #[Value.slice none 0 0] N = gc0 at *
      clear hi1 hz1 hs1 hb1 HMk
      go_wp2_with fail
      go_loopw [6] (fun s wr => ∃ (k : Nat) (gc : Array Value) (us : Nat → Value), s = .int .i64 k ∧ k ≤ N ∧ Hid (SW w base B bc (F2 N vv (mkn L 0) k us (mkn L 64)) wr ∧ Blk wr G 22 gc ∧ gc.size = N ∧ ∀ j, j < k → gc[j]? = some (us j))) (fun s _ => N - (intOf s).toNat)
      case atStart => exact ⟨0, gc0, fun _ => undef, rfl, by omega, Lib.hid ⟨HB2.out.1.sub (by rintro j v l (h | ⟨h, -⟩); exact h; omega), HB2.out.2, hmsz, fun j hj => by omega⟩⟩
      case round =>
        clear HB2
        obtain ⟨k, gc, us, rfl, hk, HM⟩ := hrel
        by_cases hkN : k < N
        · have hki : (k : Int) < (N : Int) := by omega
          have hk0 : (0 : Int) ≤ (k : Int) := by omega
          obtain ⟨p, cv, hv⟩ := HV.out k hkN
          have HVk := Lib.hid hv
          have hLk := HL.out k hkN
          obtain ⟨n, hn⟩ : ∃ n, (L k).length = n := ⟨_, rfl⟩
          have cB : wr.cell? ⟨B, k, none⟩ = some (.slice p n cv) := by rw [HM.out.1.ls.cell k, HBC.out k hkN, hv, hn]
          clear hv
          rw [hn] at hLk
          go_wp2_with fail
          go_loopw [7, 8] (fun g s wr => ∃ (i : Nat) (q : Option Addr) (cq : Nat), s = .int .i64 i ∧ i ≤ 64 ∧ g = .slice q (n + i) cq ∧ Hid (SW w base B bc (F3 N vv (mkn L 0) k us (mkn L 64) (.slice q (n + i) cq) (marks k ((L k).length + i))) wr ∧ Blk wr G 22 gc)) (fun _ s _ => 64 - (intOf s).toNat)
          case atStart => exact ⟨0, p, cv, rfl, by omega, rfl, Lib.hid ⟨HM.out.1.sub (by
            rintro j v l (h | ⟨h1, h2, h3⟩)
            · exact h
            · exact .inl ⟨by omega, by rw [h1, HVk.out, hn, h2]; rfl, by rw [h1, h3]; rfl⟩), HM.out.2.1⟩⟩
          case round =>
            clear cB
            obtain ⟨i, q, cq, rfl, hi, rfl, HI⟩ := hrel
            have cB : wr.cell? ⟨B, k, none⟩ = some (.slice p n cv) := by rw [HI.out.1.ls.cell k, HBC.out k hkN, HVk.out, hn]
            by_cases hin : i < 64
            · have hii : (i : Int) < 64 := by omega
              have HK := Lib.hid (markI_any k (n + i) (by omega) (by omega))
              rw [show ((n + i : Nat) : Int) = (n : Int) + (i : Int) by omega] at HK
              have HX : Hid (marks k ((L k).length + (i + 1)) = marks k ((L k).length + i) ++ [markI k (n + i)]) := Lib.hid (by rw [← Nat.add_assoc, marks_snoc, hn])
              have hlm : (marks k ((L k).length + i)).length = n + i := by rw [marks_len, hn]
              generalize markI k (n + i) = x at *
              have hsz := HI.out.1.size
              go_wp2_with (first
                | (go_at_call 47; refine (HK.out _).mono ?_; rintro e w2 ⟨rfl, hO2⟩)
                | (at_builtin; refine wpList_append_fam rfl _ _ rfl base k (marks k ((L k).length + i)) [x] _ _ rfl (HI.out.1.call (hO2.alloc (.cells x.cs 33))).fam (.inr ⟨rfl, rfl, rfl⟩) F3_pre w2.heap.size 1 1 rfl rfl (cells_flat (Blk.new w2 33 x.cs)) (by rw [hlm]; simp; omega) (by have := hO2.size; simp; omega) ?_; intro v6 w6 hF6 hT6 hform; obtain ⟨q6, c6, rfl⟩ := hform))
              refine ⟨⟨i + 1, q6, c6, by go_num, by omega, by simp [marks_len, Nat.add_assoc], Lib.hid ⟨?_, hT6.blk (by decide) ((hO2.alloc (.cells x.cs 33)).blk HI.out.2 (by simp))⟩⟩, ?_⟩
              · refine ((HI.out.1.call (hO2.alloc (.cells x.cs 33))).tch hF6 hT6).sub ?_
                rintro j v l (h | ⟨h1, h2, h3⟩)
                · exact .inl (.inl h)
                · refine .inr ⟨h1, ?_, ?_⟩
                  · rw [h2]
                    simp [marks_len, hn, Nat.add_assoc]
                  · rw [h3, HX.out]
              · simp [intOf]
                omega
            · obtain rfl : i = 64 := by omega
              have hii : ¬ ((64 : Nat) : Int) < 64 := by omega
              have HI2 := Lib.hid HI.out.1
              have cG : wr.cell? ⟨G, k, none⟩ = some (gc.getD k undef) := by
                rw [HI.out.2.cell k]
                have : k < gc.size := by rw [HM.out.2.2.1]; exact hkN
                simp [this]
              have fG : wr.frozen? ⟨G, k, none⟩ = false := HI.out.2.frozen k
              clear cB
              go_wp2_with fail
              refine ⟨⟨k + 1, gc.setIfInBounds k (.slice q (n + 64) cq), upd us k (.slice q (n + 64) cq), by go_num, by omega, Lib.hid ⟨?_, ?_, ?_, ?_⟩⟩, ?_⟩
              · refine (HI.out.1.setG HI.out.2 hGb hGB k _).sub ?_
                rintro j v l (h | ⟨h1, h2, h3⟩)
                · exact .inl (.inl h)
                · by_cases hjk : j = k
                  · subst hjk
                    exact .inr ⟨rfl, by rw [h2, upd_at], by rw [h3]; rfl⟩
                  · exact .inl (.inr ⟨by omega, by rw [h2, upd_ne _ _ hjk], h3⟩)
              · exact HI.out.2.set_ k _
              · simp [HM.out.2.2.1]
              · intro j hj
                by_cases hjk : j = k
                · subst hjk
                  rw [upd_at]
                  have : j < gc.size := by rw [HM.out.2.2.1]; exact hkN
                  simp [this]
                · rw [upd_ne _ _ hjk, Array.getElem?_setIfInBounds_ne (by omega)]
                  exact HM.out.2.2.2 j (by omega)
              · simp [intOf]
                omega
        · have hki : ¬ (k : Int) < (N : Int) := by omega
          have HM2 : Hid (SW w base B bc (F2 N vv (mkn L 0) N us (mkn L 64)) wr ∧ Blk wr G 22 gc ∧ gc.size = N ∧ ∀ j, j < N → gc[j]? = some (us j)) := Lib.hid (by
            have hkk : k = N := by omega
            have := HM.out
            rw [hkk] at this
            exact this)
          have HU : Hid (∀ j, j < N → ∃ q c, us j = .slice q ((L j).length + 64) c) := Lib.hid (fun j hj => by
            obtain ⟨q, c, h⟩ := (HM2.out.1.fam.1 j (us j) (mkn L 64 j) (.inr ⟨hj, rfl, rfl⟩)).ins.len
            unfold mkn at h
            rw [marks_len] at h
            exact ⟨q, c, h⟩)
          clear HM hkN
          go_wp2_with fail
          obtain ⟨wo, hwo⟩ : ∃ x, x = wr := ⟨_, rfl⟩
          subst hwo
          go_loopw [9] (fun s wr => ∃ k : Nat, s = .int .i64 k ∧ k ≤ N ∧ Only [] wo wr) (fun s _ => N - (intOf s).toNat)
          case atStart => exact ⟨0, rfl, by omega, Only.refl _ _⟩
          case round =>
            obtain ⟨k, rfl, hk, hO⟩ := hrel
            by_cases hkN : k < N
            · have hki : (k : Int) < (N : Int) := by omega
              have hk0 : (0 : Int) ≤ (k : Int) := by omega
              obtain ⟨p, cv, hv⟩ := HV.out k hkN
              obtain ⟨q, cu, hu⟩ := HU.out k hkN
              have hLk := HL.out k hkN
              obtain ⟨n, hn⟩ : ∃ n, (L k).length = n := ⟨_, rfl⟩
              have HCBo : Hid (∀ W, Only [] wo W → W.cell? ⟨B, k, none⟩ = some (.slice p n cv)) := Lib.hid (fun W hW => by rw [(hW.blk HM2.out.1.ls (by simp)).cell k, HBC.out k hkN, hv, hn])
              have HCGo : Hid (∀ W, Only [] wo W → W.cell? ⟨G, k, none⟩ = some (.slice q (n + 64) cu)) := Lib.hid (fun W hW => by rw [(hW.blk HM2.out.2.1 (by simp)).cell k, HM2.out.2.2.2 k hkN, hu, hn])
              have HIu : Hid (InS wo (.slice q (n + 64) cu) (marks k (n + 64))) := Lib.hid (by
                have := (HM2.out.1.fam.1 k (us k) (mkn L 64 k) (.inr ⟨hkN, rfl, rfl⟩)).ins
                rw [hu] at this
                unfold mkn at this
                rw [hn] at this
                exact this)
              have HIv : Hid (InS wo (.slice p n cv) (marks k n)) := Lib.hid (by
                have := (HM2.out.1.fam.1 k (vv k) (mkn L 0 k) (.inl ⟨hkN, rfl, rfl⟩)).ins
                rw [hv] at this
                unfold mkn at this
                rw [hn] at this
                exact this)
              clear hv hu
              rw [hn] at hLk
              have cB := HCBo.out wr hO
              have cG := HCGo.out wr hO
              go_wp2_with fail
              go_loopw [10] (fun s wr => ∃ i : Nat, s = .int .i64 i ∧ i ≤ n + 64 ∧ Only [] wo wr) (fun s _ => n + 64 - (intOf s).toNat)
              case atStart => exact ⟨0, rfl, by omega, hO⟩
              case round =>
                clear cB cG hO
                obtain ⟨i, rfl, hi, hO⟩ := hrel
                have HCB : Hid (∀ W, Only [] wr W → W.cell? ⟨B, k, none⟩ = some (.slice p n cv)) := Lib.hid (fun W hW => HCBo.out W (hO.trans hW))
                have HCG : Hid (∀ W, Only [] wr W → W.cell? ⟨G, k, none⟩ = some (.slice q (n + 64) cu)) := Lib.hid (fun W hW => HCGo.out W (hO.trans hW))
                have cB := HCB.out wr (Only.refl _ _)
                have cG := HCG.out wr (Only.refl _ _)
                by_cases hin : i < n + 64
                · have hii : (i : Int) < ((n + 64 : Nat) : Int) := by omega
                  have hii2 : (i : Int) < (n : Int) + 64 := by omega
                  have hi0 : (0 : Int) ≤ (i : Int) := by omega
                  have HK := Lib.hid (markI_any k i (by omega) (by omega))
                  obtain ⟨b, off, c1, e1, h01, hl1, hb1, hE1⟩ := HIu.out.resolve_left (fun ⟨_, _, e, _⟩ => by simp only [Value.slice.injEq] at e; omega)
                  simp only [Value.slice.injEq] at e1
                  obtain ⟨rfl, -, rfl⟩ := e1
                  rw [marks_len] at hl1
                  have HX1 : Hid (∀ W, Only [] wr W → W.rangeAt b (off + i * 18) (markI k i).cs.toList) := Lib.hid (fun W hW => rng_only (hE1 i _ (marks_at hin)) (hO.trans hW) hb1 (by simp))
                  clear hE1
                  by_cases hin2 : i < n
                  · have hi2 : (i : Int) < (n : Int) := by omega
                    obtain ⟨b2, off2, c2, e2, h02, hl2, hb2, hE2⟩ := HIv.out.resolve_left (fun ⟨_, _, e, _⟩ => by simp only [Value.slice.injEq] at e; omega)
                    simp only [Value.slice.injEq] at e2
                    obtain ⟨rfl, -, rfl⟩ := e2
                    rw [marks_len] at hl2
                    have HX2 : Hid (∀ W, Only [] wr W → W.rangeAt b2 (off2 + i * 18) (markI k i).cs.toList) := Lib.hid (fun W hW => rng_only (hE2 i _ (marks_at hin2)) (hO.trans hW) hb2 (by simp))
                    clear hE2
                    generalize markI k i = x at *
                    have hs2 : In.same ⟨x.op, x.sz, x.ad, x.ix, x.dt, x.to, ⟨x.cf.kd, x.cf.ix, x.cf.wo, x.cf.ln, x.cf.on, x.cf.rw, x.cf.fr, x.cf.tt, x.cf.rd, x.cf.wt, x.cf.rk, x.cf.lk⟩⟩ ⟨x.op, x.sz, x.ad, x.ix, x.dt, x.to, ⟨x.cf.kd, x.cf.ix, x.cf.wo, x.cf.ln, x.cf.on, x.cf.rw, x.cf.fr, x.cf.tt, x.cf.rd, x.cf.wt, x.cf.rk, x.cf.lk⟩⟩ = true := (In.same_iff x x).2 rfl
                    go_wp2_with fail
                    clear cB cG
                    refine wp_region_D (Only [] wr) (by kernel_rfl) (by kernel_rfl) ((Only.refl _ _).drew) ?_
                    repeat (first
                      | (refine wpT_step _ (stD_skip rfl) ?_
                         simp only [Act.put, List.setIfInBounds_toArray, List.set_cons_succ, List.set_cons_zero, Nat.zero_add, Nat.reduceAdd])
                      | (refine wpT_step ?_ (stD rfl (fun w' hD => ?_)) ?_
                         rotate_left
                         · have cB := HCB.out w' hD
                           have cG := HCG.out w' hD
                           first
                             | (refine @st_eql (Only [] wr) _ _ _ (.tmp 94) (.tmp 97) ?_ x ?_ ?_ hD <;> rfl)
                             | (refine @st_eql (Only [] wr) _ _ _ (.tmp 115) (.tmp 118) ?_ x ?_ ?_ hD <;> rfl)
                             | (refine @st_ld (Only [] wr) _ _ _ (.tmp 93) ?_ b (off + i * 18) ?_ x (HX1.out _ hD) hD <;> rfl)
                             | (refine @st_ld (Only [] wr) _ _ _ (.tmp 114) ?_ b2 (off2 + i * 18) ?_ x (HX2.out _ hD) hD <;> rfl)
                             | (go_simp; refine ⟨?_, hD⟩; rfl)
                             | (go_simp; refine (HK.out w').mono ?_; rintro e w'' ⟨rfl, h⟩; refine ⟨?_, hD.trans h⟩; rfl)
                         simp only [Act.put, List.setIfInBounds_toArray, List.set_cons_succ, List.set_cons_zero, Nat.reduceAdd]))
                    refine wpT_nil ?_
                    intro w6 hD
                    go_wp2_with fail
                    refine ⟨⟨i + 1, by go_num, by omega, hO.trans hD⟩, ?_⟩
                    simp [intOf]
                    omega
                  · have hi2 : ¬ (i : Int) < (n : Int) := by omega
                    have hdc : decide (i < n) = false := decide_eq_false hin2
                    generalize markI k i = x at *
                    have hs2 : In.same ⟨x.op, x.sz, x.ad, x.ix, x.dt, x.to, ⟨x.cf.kd, x.cf.ix, x.cf.wo, x.cf.ln, x.cf.on, x.cf.rw, x.cf.fr, x.cf.tt, x.cf.rd, x.cf.wt, x.cf.rk, x.cf.lk⟩⟩ ⟨x.op, x.sz, x.ad, x.ix, x.dt, x.to, ⟨x.cf.kd, x.cf.ix, x.cf.wo, x.cf.ln, x.cf.on, x.cf.rw, x.cf.fr, x.cf.tt, x.cf.rd, x.cf.wt, x.cf.rk, x.cf.lk⟩⟩ = true := (In.same_iff x x).2 rfl
                    go_wp2_with fail
                    clear cB cG
                    refine wp_region_D (Only [] wr) (by kernel_rfl) (by kernel_rfl) ((Only.refl _ _).drew) ?_
                    repeat (first
                      | (refine wpT_step _ (stD_skip rfl) ?_
                         simp only [Act.put, List.setIfInBounds_toArray, List.set_cons_succ, List.set_cons_zero, Nat.reduceAdd])
                      | (refine wpT_step ?_ (stD rfl (fun w' hD => ?_)) ?_
                         rotate_left
                         · have cB := HCB.out w' hD
                           have cG := HCG.out w' hD
                           first
                             | (refine @st_eql (Only [] wr) _ _ _ (.tmp 94) (.tmp 97) ?_ x ?_ ?_ hD <;> rfl)
                             | (refine @st_ld (Only [] wr) _ _ _ (.tmp 93) ?_ b (off + i * 18) ?_ x (HX1.out _ hD) hD <;> rfl)
                             | (go_simp; refine ⟨?_, hD⟩; rfl)
                             | (go_simp; refine (HK.out w').mono ?_; rintro e w'' ⟨rfl, h⟩; refine ⟨?_, hD.trans h⟩; rfl)
                         simp only [Act.put, List.setIfInBounds_toArray, List.set_cons_succ, List.set_cons_zero, Nat.reduceAdd]))
                    refine wpT_nil ?_
                    intro w6 hD
                    go_wp2_with fail
                    refine ⟨⟨i + 1, by go_num, by omega, hO.trans hD⟩, ?_⟩
                    simp [intOf]
                    omega
                · have hii : ¬ (i : Int) < ((n + 64 : Nat) : Int) := by omega
                  have hii2 : ¬ (i : Int) < (n : Int) + 64 := by omega
                  go_wp2_with fail
                  refine ⟨⟨k + 1, by go_num, by omega, hO⟩, ?_⟩
                  simp [intOf]
                  omega
            · have hki : ¬ (k : Int) < (N : Int) := by omega
              have HM3 : Hid (SW w base B bc (F2 N vv (mkn L 0) 0 us (grL L N)) wr ∧ Blk wr G 22 gc ∧ gc.size = N) := Lib.hid ⟨(HM2.out.1.call hO).sub (by
                rintro j v l (h | ⟨h, -⟩)
                · exact .inl h
                · omega), hO.blk HM2.out.2.1 (by simp), HM2.out.2.2.1⟩
              clear HM2 HU hO
              obtain ⟨i0, hi0, hz0, hz1, hz2⟩ := info_parts infoInstr
              have HMb : Hid (i0.bytes * 64 ≤ 281474976710656) := Lib.hid (by rw [hz2]; decide)
              go_wp2_with fail
              go_loopw [11] (fun s wr => ∃ (k : Nat) (gc : Array Value) (us : Nat → Value), s = .int .i64 k ∧ k ≤ N ∧ Hid (SW w base B bc (F2 N vv (mkn L 0) k us (grL L N)) wr ∧ Blk wr G 22 gc ∧ gc.size = N ∧ ∀ j, j < k → gc[j]? = some (us j))) (fun s _ => N - (intOf s).toNat)
              case atStart => exact ⟨0, gc, us, rfl, by omega, Lib.hid ⟨HM3.out.1, HM3.out.2.1, HM3.out.2.2, fun j hj => by omega⟩⟩
              case round =>
                clear HM3
                obtain ⟨k, gc, us, rfl, hk, HM⟩ := hrel
                by_cases hkN : k < N
                · have hki : (k : Int) < (N : Int) := by omega
                  have hk0 : (0 : Int) ≤ (k : Int) := by omega
                  obtain ⟨p, cv, hv⟩ := HV.out k hkN
                  have HVk := Lib.hid hv
                  have hLk := HL.out k hkN
                  obtain ⟨n, hn⟩ : ∃ n, (L k).length = n := ⟨_, rfl⟩
                  clear hv
                  rw [hn] at hLk
                  have hsz := HM.out.1.size
                  go_upto_region 30 with (refine wpList_make_full _ rfl _ _ 22 rfl base 33 i0 _ 18 Tryz.underlying22 hi0 hz0 hz1 .i64 .i64 64 64 64 rfl rfl rfl rfl HMb.out (by unfold maxLen; omega) hsz ?_; intro w4 hown4 hg4)
                  have HX4 : Hid (SW w base B bc (F5 N vv (mkn L 0) k us (grL L N) (.slice (some ⟨wr.heap.size, 0, none⟩) 64 64) (List.replicate 64 (In.only 0))) w4 ∧ Blk w4 G 22 gc) := Lib.hid (by
                    have hO4 : Only [] wr w4 := ⟨hg4.os, hg4.tape, hg4.output, hg4.size, fun j hj _ => hg4.block j hj (by simp)⟩
                    have hR : InR w4 base (.slice (some ⟨wr.heap.size, 0, none⟩) 64 64) (List.replicate 64 (In.only 0)) := by
                      unfold InR
                      rw [List.length_replicate, ← zeros64]
                      exact hown4
                    refine ⟨⟨((HM.out.1.call hO4).fam).add (k := N) hR (fun b hb k' v' l' hf hb' => ?_), (HM.out.1.call hO4).ls, (HM.out.1.call hO4).own, HM.out.1.bs, (HM.out.1.call hO4).oth⟩, hO4.blk HM.out.2.1 (by simp)⟩
                    simp [Value.ownBlock] at hb
                    have := (HM.out.1.fam.1 k' v' l' hf).own hb'
                    omega)
                  have hMn : wr.heap.size ≠ wr.heap.size + 1 := by omega
                  generalize wr.heap.size = Mb at *
                  clear hown4 hg4 hMn hsz
                  go_wp2_with fail
                  go_loopw [13] (fun s wr => ∃ (i : Nat) (lm : List In), s = .int .i64 i ∧ i ≤ 64 ∧ Hid (SW w base B bc (F5 N vv (mkn L 0) k us (grL L N) (.slice (some ⟨Mb, 0, none⟩) 64 64) lm) wr ∧ Blk wr G 22 gc ∧ lm.length = 64 ∧ lm.take i = marks (k + N) i)) (fun s _ => 64 - (intOf s).toNat)
                  case atStart => exact ⟨0, _, rfl, by omega, Lib.hid ⟨HX4.out.1, HX4.out.2, by simp, rfl⟩⟩
                  case round =>
                    clear HX4
                    obtain ⟨i, lm, rfl, hi, HI⟩ := hrel
                    by_cases hin : i < 64
                    · have hii : (i : Int) < 64 := by omega
                      have hi0 : (0 : Int) ≤ (i : Int) := by omega
                      have HK := Lib.hid (markI_any (k + N) i (by omega) (by omega))
                      rw [show ((k + N : Nat) : Int) = (k : Int) + (N : Int) by omega] at HK
                      obtain ⟨g, c2, hv2, -, hput⟩ := HI.out.1.put (k := N) (i := i) (v := .slice (some ⟨Mb, 0, none⟩) 64 64) (l := lm) (.inr ⟨rfl, rfl, rfl⟩) (by rw [HI.out.2.2.1]; exact hin) (by
                        rintro v' l' ((⟨h, -⟩ | ⟨h, -⟩) | ⟨-, h2, h3⟩)
                        · omega
                        · omega
                        · exact ⟨h2, h3⟩)
                      simp only [Value.slice.injEq, Option.some.injEq, Addr.mk.injEq, and_true] at hv2
                      obtain ⟨rfl, -, -⟩ := hv2
                      have HP : Hid (∀ W1, Only [] wr W1 → ∃ cur, Blk W1 Mb 33 cur ∧ i * 18 + 18 ≤ cur.size ∧ ∀ W', Blk W' Mb 33 (setL cur (i * 18) (markI (k + N) i).cs.toList) → Only [Mb] W1 W' →
                          (SW w base B bc (F5 N vv (mkn L 0) k us (grL L N) (.slice (some ⟨Mb, 0, none⟩) 64 64) (lm.set i (markI (k + N) i))) W' ∧ Blk W' G 22 gc ∧ (lm.set i (markI (k + N) i)).length = 64 ∧ (lm.set i (markI (k + N) i)).take (i + 1) = marks (k + N) (i + 1))) := Lib.hid (by
                        intro W1 hO
                        obtain ⟨cur, h1, h2, h3⟩ := hput W1 hO
                        have hGW := hO.blk HI.out.2.1 (by simp)
                        refine ⟨cur, h1, h2, fun W' hW hO2 => ⟨(h3 _ W' hW hO2).sub ?_, hO2.blk hGW (by intro hm; simp only [List.mem_cons, List.not_mem_nil, or_false] at hm; exact Blk.ne_ hGW h1 (by decide) hm), by rw [List.length_set]; exact HI.out.2.2.1, ?_⟩⟩
                        · rintro j v l ((⟨h1, h2, h3⟩ | ⟨h1, h2, h3⟩) | ⟨h1, h2, h3⟩)
                          · exact .inl ⟨.inl (.inl ⟨h1, h2, h3⟩), by omega⟩
                          · exact .inl ⟨.inl (.inr ⟨h1, h2, h3⟩), by omega⟩
                          · exact .inr ⟨h1, h2, h3⟩
                        · rw [take_set (by rw [HI.out.2.2.1]; exact hin) HI.out.2.2.2, marks_snoc])
                      clear hput HI
                      generalize lm.set i (markI (k + N) i) = lm2 at *
                      generalize markI (k + N) i = x at *
                      go_wp2_with (first
                        | (go_at_call 47; refine (HK.out _).mono ?_; rintro e w5 ⟨rfl, hO5⟩; obtain ⟨cur, hBc, hsz2, hfin⟩ := HP.out w5 hO5; have HFin := Lib.hid hfin; have HBc := Lib.hid hBc; clear hfin hBc)
                        | (refine wpList_st 33 x.cs.toList Mb (i * 18) _ _ rfl (by kernel_rfl) rfl rfl rfl rfl HBc.out (by simpa using hsz2) ?_; intro w3 hB3 hO3))
                      refine ⟨⟨i + 1, lm2, by go_num, by omega, Lib.hid (HFin.out _ hB3 hO3)⟩, ?_⟩
                      simp [intOf]
                      omega
                    · have hii : ¬ (i : Int) < 64 := by omega
                      have HI2 : Hid (SW w base B bc (F5 N vv (mkn L 0) k us (grL L N) (.slice (some ⟨Mb, 0, none⟩) 64 64) (marks (k + N) 64)) wr ∧ Blk wr G 22 gc) := Lib.hid (by
                        have h1 := HI.out.2.2.2
                        rw [List.take_of_length_le (by rw [HI.out.2.2.1]; omega), show i = 64 by omega] at h1
                        have := HI.out
                        rw [h1] at this
                        exact ⟨this.1, this.2.1⟩)
                      have cB : wr.cell? ⟨B, k, none⟩ = some (.slice p n cv) := by rw [HI2.out.1.ls.cell k, HBC.out k hkN, HVk.out, hn]
                      have hsz := HI2.out.1.size
                      have HCm : Hid (∀ (j : Nat) u, (flatI (marks (k + N) 64))[j]? = some u → wr.cell? ((⟨Mb, 0, none⟩ : Addr).add j) = some u) := Lib.hid (World.ownsRow.cells (HI2.out.1.fam.1 N _ _ (.inr ⟨rfl, rfl, rfl⟩)) rfl)
                      clear HI
                      go_wp2_with (at_builtin; refine wpList_append_fam rfl _ _ rfl base k (marks k n) (marks (k + N) 64) (.slice p n cv) _ rfl HI2.out.1.fam (.inl (.inl ⟨hkN, by rw [HVk.out, hn], by unfold mkn; rw [hn]; rfl⟩)) (F5_pre hkN hn) Mb 64 64 rfl (by rw [marks_len]) HCm.out (by rw [marks_len, marks_len]; omega) hsz ?_; intro v6 w6 hF6 hT6 hform; obtain ⟨q6, c6, rfl⟩ := hform; have HB6 := Lib.hid (hT6.blk (by decide) HI2.out.2); have cG : w6.cell? ⟨G, k, none⟩ = some (gc.getD k undef) := gc_cell HB6.out (by rw [HM.out.2.2.1]; exact hkN); have fG : w6.frozen? ⟨G, k, none⟩ = false := HB6.out.frozen k; have HF6 := Lib.hid (And.intro hF6 hT6); clear hF6 hT6)
                      have hS6 := HI2.out.1.tch HF6.out.1 HF6.out.2
                      refine ⟨⟨k + 1, gc.setIfInBounds k (.slice q6 ((marks k n).length + (marks (k + N) 64).length) c6), upd us k (.slice q6 ((marks k n).length + (marks (k + N) 64).length) c6), by go_num, by omega, Lib.hid ⟨?_, ?_, ?_, ?_⟩⟩, ?_⟩
                      · refine SW.sub (hS6.setG HB6.out hGb hGB k _) ?_
                        rintro j v l (h | ⟨h1, h2, h3⟩)
                        · exact .inl (.inl (.inl h))
                        · by_cases hjk : j = k
                          · subst hjk
                            exact .inr ⟨rfl, by rw [h2, upd_at]; simp, by rw [h3]; unfold grL; rw [hn]⟩
                          · exact .inl (.inl (.inr ⟨by omega, by rw [h2, upd_ne _ _ hjk], h3⟩))
                      · exact HB6.out.set_ k _
                      · simp [HM.out.2.2.1]
                      · intro j hj
                        by_cases hjk : j = k
                        · subst hjk
                          rw [upd_at]
                          have : j < gc.size := by rw [HM.out.2.2.1]; exact hkN
                          simp [this]
                        · rw [upd_ne _ _ hjk, Array.getElem?_setIfInBounds_ne (by omega)]
                          exact HM.out.2.2.2 j (by omega)
                      · simp [intOf]
                        omega
                · have hki : ¬ (k : Int) < (N : Int) := by omega
                  have HM5 : Hid (SW w base B bc (F2 N vv (mkn L 0) N us (grL L N)) wr ∧ Blk wr G 22 gc ∧ ∀ j, j < N → gc[j]? = some (us j)) := Lib.hid (by
                    have hkk : k = N := by omega
                    have := HM.out
                    rw [hkk] at this
                    exact ⟨this.1, this.2.1, this.2.2.2⟩)
                  have HU : Hid (∀ j, j < N → ∃ q c, us j = .slice q ((L j).length + 64) c) := Lib.hid (fun j hj => by
                    obtain ⟨q, c, h⟩ := (HM5.out.1.fam.1 j (us j) (grL L N j) (.inr ⟨hj, rfl, rfl⟩)).ins.len
                    unfold grL at h
                    rw [List.length_append, marks_len, marks_len] at h
                    exact ⟨q, c, h⟩)
                  clear HM hkN hi0 hz0 hz1 hz2 HMb
                  go_wp2_with fail
                  obtain ⟨wo, hwo⟩ : ∃ x, x = wr := ⟨_, rfl⟩
                  subst hwo
                  go_loopw [14] (fun s wr => ∃ k : Nat, s = .int .i64 k ∧ k ≤ N ∧ Only [] wo wr) (fun s _ => N - (intOf s).toNat)
                  case atStart => exact ⟨0, rfl, by omega, Only.refl _ _⟩
                  case round =>
                    obtain ⟨k, rfl, hk, hO⟩ := hrel
                    by_cases hkN : k < N
                    · have hki : (k : Int) < (N : Int) := by omega
                      have hk0 : (0 : Int) ≤ (k : Int) := by omega
                      obtain ⟨p, cv, hv⟩ := HV.out k hkN
                      obtain ⟨q, cu, hu⟩ := HU.out k hkN
                      have hLk := HL.out k hkN
                      obtain ⟨n, hn⟩ : ∃ n, (L k).length = n := ⟨_, rfl⟩
                      have HCBo : Hid (∀ W, Only [] wo W → W.cell? ⟨B, k, none⟩ = some (.slice p n cv)) := Lib.hid (fun W hW => by rw [(hW.blk HM5.out.1.ls (by simp)).cell k, HBC.out k hkN, hv, hn])
                      have HCGo : Hid (∀ W, Only [] wo W → W.cell? ⟨G, k, none⟩ = some (.slice q (n + 64) cu)) := Lib.hid (fun W hW => by rw [(hW.blk HM5.out.2.1 (by simp)).cell k, HM5.out.2.2 k hkN, hu, hn])
                      have HIu : Hid (InS wo (.slice q (n + 64) cu) (marks k n ++ marks (k + N) 64)) := Lib.hid (by
                        have := (HM5.out.1.fam.1 k (us k) (grL L N k) (.inr ⟨hkN, rfl, rfl⟩)).ins
                        rw [hu] at this
                        unfold grL at this
                        rw [hn] at this
                        exact this)
                      have HIv : Hid (InS wo (.slice p n cv) (marks k n)) := Lib.hid (by
                        have := (HM5.out.1.fam.1 k (vv k) (mkn L 0 k) (.inl ⟨hkN, rfl, rfl⟩)).ins
                        rw [hv] at this
                        unfold mkn at this
                        rw [hn] at this
                        exact this)
                      clear hv hu
                      rw [hn] at hLk
                      have cB := HCBo.out wr hO
                      have cG := HCGo.out wr hO
                      go_wp2_with fail
                      go_loopw [15] (fun s wr => ∃ i : Nat, s = .int .i64 i ∧ i ≤ n ∧ Only [] wo wr) (fun s _ => n - (intOf s).toNat)
                      case atStart => exact ⟨0, rfl, by omega, hO⟩
                      case round =>
                        clear cB cG hO
                        obtain ⟨i, rfl, hi, hO⟩ := hrel
                        have HCB : Hid (∀ W, Only [] wr W → W.cell? ⟨B, k, none⟩ = some (.slice p n cv)) := Lib.hid (fun W hW => HCBo.out W (hO.trans hW))
                        have HCG : Hid (∀ W, Only [] wr W → W.cell? ⟨G, k, none⟩ = some (.slice q (n + 64) cu)) := Lib.hid (fun W hW => HCGo.out W (hO.trans hW))
                        have cB := HCB.out wr (Only.refl _ _)
                        have cG := HCG.out wr (Only.refl _ _)
                        by_cases hin2 : i < n
                        · have hi2 : (i : Int) < (n : Int) := by omega
                          have hii2 : (i : Int) < (n : Int) + 64 := by omega
                          have hii : (i : Int) < ((n + 64 : Nat) : Int) := by omega
                          have hi0 : (0 : Int) ≤ (i : Int) := by omega
                          have HK := Lib.hid (markI_any k i (by omega) (by omega))
                          obtain ⟨b, off, c1, e1, h01, hl1, hb1, hE1⟩ := HIu.out.resolve_left (fun ⟨_, _, e, _⟩ => by simp only [Value.slice.injEq] at e; omega)
                          simp only [Value.slice.injEq] at e1
                          obtain ⟨rfl, -, rfl⟩ := e1
                          rw [List.length_append, marks_len, marks_len] at hl1
                          have HX1 : Hid (∀ W, Only [] wr W → W.rangeAt b (off + i * 18) (markI k i).cs.toList) := Lib.hid (fun W hW => rng_only (hE1 i _ (by rw [List.getElem?_append_left (by rw [marks_len]; exact hin2)]; exact marks_at hin2)) (hO.trans hW) hb1 (by simp))
                          clear hE1
                          obtain ⟨b2, off2, c2, e2, h02, hl2, hb2, hE2⟩ := HIv.out.resolve_left (fun ⟨_, _, e, _⟩ => by simp only [Value.slice.injEq] at e; omega)
                          simp only [Value.slice.injEq] at e2
                          obtain ⟨rfl, -, rfl⟩ := e2
                          rw [marks_len] at hl2
                          have HX2 : Hid (∀ W, Only [] wr W → W.rangeAt b2 (off2 + i * 18) (markI k i).cs.toList) := Lib.hid (fun W hW => rng_only (hE2 i _ (marks_at hin2)) (hO.trans hW) hb2 (by simp))
                          clear hE2
                          generalize markI k i = x at *
                          go_wp2_with fail
                          clear cB cG
                          refine wp_region_D (Only [] wr) (by kernel_rfl) (by kernel_rfl) ((Only.refl _ _).drew) ?_
                          repeat (first
                            | (refine wpT_step _ (stD_skip rfl) ?_
                               simp only [Act.put, List.setIfInBounds_toArray, List.set_cons_succ, List.set_cons_zero, Nat.zero_add, Nat.reduceAdd])
                            | (refine wpT_step ?_ (stD rfl (fun w' hD => ?_)) ?_
                               rotate_left
                               · have cB := HCB.out w' hD
                                 have cG := HCG.out w' hD
                                 first
                                   | (refine @st_eql (Only [] wr) _ _ _ (.tmp 173) (.tmp 176) ?_ x ?_ ?_ hD <;> rfl)
                                   | (refine @st_eql (Only [] wr) _ _ _ (.tmp 186) (.tmp 189) ?_ x ?_ ?_ hD <;> rfl)
                                   | (refine @st_ld (Only [] wr) _ _ _ (.tmp 172) ?_ b2 (off2 + i * 18) ?_ x (HX2.out _ hD) hD <;> rfl)
                                   | (refine @st_ld (Only [] wr) _ _ _ (.tmp 185) ?_ b (off + i * 18) ?_ x (HX1.out _ hD) hD <;> rfl)
                                   | (go_simp; refine ⟨?_, hD⟩; rfl)
                                   | (go_simp; refine (HK.out w').mono ?_; rintro e w'' ⟨rfl, h⟩; refine ⟨?_, hD.trans h⟩; rfl)
                               simp only [Act.put, List.setIfInBounds_toArray, List.set_cons_succ, List.set_cons_zero, Nat.reduceAdd]))
                          refine wpT_nil ?_
                          intro w6 hD
                          go_wp2_with fail
                          refine ⟨⟨i + 1, by go_num, by omega, hO.trans hD⟩, ?_⟩
                          simp [intOf]
                          omega
                        · have hi2 : ¬ (i : Int) < (n : Int) := by omega
                          go_wp2_with fail
                          refine ⟨⟨k + 1, by go_num, by omega, hO⟩, ?_⟩
                          simp [intOf]
                          omega
                    · have hki : ¬ (k : Int) < (N : Int) := by omega
                      go_wp2_with fail
                      go_returns
                      exact ⟨rfl, (HM5.out.1.call hO).own, (HM5.out.1.call hO).oth⟩
end Go.Proofs.YtagmoehjcgjnjaaGreatDoor
