/- ProgSmall of septumlaw23, walked. Condition: the listed variables are laid. -/
import Derived.Test.YtagmoehjcgjnjaaGreatDoorPrGe
import Derived.Deep.CutBlock
import Derived.Deep.DeepCutAuto
import Derived.Outline
namespace Go.Proofs.YtagmoehjcgjnjaaGreatDoor
open Go Go.RowKit
attribute [local go_sem ↓] str_eql str_neq
attribute [local go_sem] str_cat

def psmW : List Int := [0, 1, 255, 256, 9999, 10000, 4294967295]
def psmN : List Int := [(-9223372036854775808), (-1), 0, 1, 2, 3, 4, 8, 63, 64, 65, 9223372036854775807]
def psmL : List (List UInt8) := [[108, 111, 97, 100, 32, 52, 32, 49, 48, 48, 48], [108, 111, 97, 100, 32, 49, 32, 102, 102, 102, 102, 102, 102, 102, 102, 32, 43], [115, 116, 111, 114, 101, 32, 50, 32, 49, 48, 32, 43, 32, 102, 102], [115, 116, 111, 114, 101, 32, 52, 32, 48, 32, 48], [112, 117, 116, 32, 52, 32, 49, 48], [112, 117, 116, 32, 50, 32, 49, 102, 32, 43], [119, 97, 105, 116], [98, 114, 97, 110, 99, 104, 32, 102, 102, 102, 102, 102, 102, 102, 102, 32, 54, 52], [106, 117, 109, 112, 32, 48], [105, 100, 108, 101, 32, 57, 57, 57, 57], [109, 97, 115, 107, 32, 102, 102], [99, 111, 110, 102, 32, 108, 111, 99, 107], [99, 111, 110, 102, 32, 114, 101, 103, 105, 111, 110, 32, 49, 32, 50, 32, 51, 32, 52, 32, 114, 119, 32, 53], [104, 97, 108, 116], [105, 100, 108, 101, 32, 49, 48, 48, 48, 48], [109, 97, 115, 107, 32, 49, 48, 48], [98, 114, 97, 110, 99, 104, 32, 48, 32, 54, 53], [115, 116, 111, 114, 101, 32, 52, 32, 48, 32, 43], [99, 111, 110, 102], [99, 111, 110, 102, 32], [108, 111, 97, 100, 32, 52, 32, 49, 48, 48, 48, 48, 48, 48, 48, 48], [], [32]]
def psmS : List UInt8 := [48, 32, 49, 43, 10, 120, 70]
theorem psmL_len : ∀ i, i < 23 → (psmL.getD i []).length ≤ 60 := by decide
theorem psmL_at : ∀ i, i < 23 → (psmL.map str)[i]? = some (str (psmL.getD i [])) := by
  intro i hi
  have h : i < psmL.length := hi
  rw [List.getElem?_map, List.getElem?_eq_getElem h, List.getD_eq_getElem?_getD, List.getElem?_eq_getElem h]
  rfl
theorem psmW_at : ∀ i, i < 7 → (psmW.map fun n => Value.int .u32 n)[i]? = some (.int .u32 (psmW.getD i 0)) := by
  intro i hi
  have h : i < psmW.length := hi
  rw [List.getElem?_map, List.getElem?_eq_getElem h, List.getD_eq_getElem?_getD, List.getElem?_eq_getElem h]
  rfl
theorem psmW_rng : ∀ i, i < 7 → 0 ≤ psmW.getD i 0 ∧ psmW.getD i 0 < 4294967296 := by decide
theorem psmN_at : ∀ i, i < 12 → (psmN.map fun n => Value.int .i64 n)[i]? = some (.int .i64 (psmN.getD i 0)) := by
  intro i hi
  have h : i < psmN.length := hi
  rw [List.getElem?_map, List.getElem?_eq_getElem h, List.getD_eq_getElem?_getD, List.getElem?_eq_getElem h]
  rfl
theorem cut_lo (s : List UInt8) (k : Nat) : (ByteArray.mk s.toArray).extract 0 k = ⟨(s.take k).toArray⟩ := by
  apply ByteArray.ext
  simp [ByteArray.data_extract]
theorem some_at : ∀ m, m < 7 → (ByteArray.mk #[48, 32, 49, 43, 10, 120, 70]).extract m (m + 1) = ⟨#[psmS.getD m 0]⟩ := by decide
attribute [local go_sem] cut_lo cut_hi

/-- What stays while it runs. -/
structure SmB (w : World) (Wb Nb : Nat) (wr : World) : Prop where
  ws : Blk wr Wb 24 (psmW.map fun n => Value.int .u32 n).toArray
  ns : Blk wr Nb 3 (psmN.map fun n => Value.int .i64 n).toArray
  own : Only [] w wr
theorem SmB.call {w wr w' : World} {Wb Nb : Nat} (h : SmB w Wb Nb wr) (hO : Only [] wr w') : SmB w Wb Nb w' := ⟨hO.blk h.ws (by simp), hO.blk h.ns (by simp), h.own.trans hO⟩
set_option maxRecDepth 100000 in
set_option maxHeartbeats 8000000 in
theorem psizes_any (w : World) (hg : Gl w) : Calls Tryz.prog 13 #[] w fun e w' => e = .returned (.bool true) ∧ Only [] w w' := by
  have HG := Lib.hid (fun (wx : World) (h : Only [] w wx) => hg.only h)
  clear hg
  go_enter Tryz.func13, Tryz.ntmps13
  go_wp2_with fail
  go_loopw [1, 2, 3] (fun l s k wr => ∃ (n : Nat) (L : List In) (t : List UInt8) (q : Option Addr) (c : Nat), k = .int .i64 n ∧ 1 ≤ n ∧ n ≤ 67 ∧ s = str t ∧ t.length ≤ 10 * n ∧ l = .slice q L.length c ∧ Hid (L.length + 1 = n ∧ (∀ x ∈ L, x.Fits) ∧ InR wr w.heap.size (.slice q L.length c) L ∧ Only [] w wr)) (fun _ _ k _ => 67 - (intOf k).toNat)
  case atStart => exact ⟨1, [], [], none, 0, rfl, by omega, by omega, rfl, by simp, rfl, Lib.hid ⟨rfl, (by simp), InR.nil _ _, Only.refl _ _⟩⟩
  case round =>
    obtain ⟨n, L, t, q, c, rfl, hn1, hn2, rfl, htl, rfl, HM⟩ := hrel
    by_cases hn : n < 67
    · have hni : (n : Int) < 67 := by omega
      have hLl : L.length ≤ 1000000 := by have := HM.out.1; omega
      have hsz := HM.out.2.2.2.size
      have h3 : (n : Int) % 3 = 0 ∨ (n : Int) % 3 = 1 ∨ (n : Int) % 3 = 2 := by omega
      have hmin : ∃ m : Int, min (n : Int) 64 = m := ⟨_, rfl⟩
      go_upto_region 7 with (at_builtin; refine wpList_append_in rfl _ _ rfl w.heap.size L (In.mk 6 0 0 false 0 (min (n : Int) 64) Cf.zero) _ rfl (HM.out.2.2.1.only ((Only.refl [] wr).alloc (.cells (In.mk 6 0 0 false 0 (min (n : Int) 64) Cf.zero).cs 33)) (by simp)) _ 1 rfl (Blk.new _ _ _) hLl (by simp; omega) ?_; intro v6 w6 hR6 hOB6 hO6)
      obtain ⟨q6, c6, rfl⟩ := hR6.ins.len
      have HM6 : Hid ((L ++ [In.mk 6 0 0 false 0 (min (n : Int) 64) Cf.zero]).length + 1 = n + 1 ∧ (∀ x ∈ L ++ [In.mk 6 0 0 false 0 (min (n : Int) 64) Cf.zero], x.Fits) ∧ InR w6 w.heap.size (.slice q6 (L ++ [In.mk 6 0 0 false 0 (min (n : Int) 64) Cf.zero]).length c6) (L ++ [In.mk 6 0 0 false 0 (min (n : Int) 64) Cf.zero]) ∧ Only [] w w6) := Lib.hid (by
        refine ⟨by have := HM.out.1; simp; omega, fun x hx => ?_, hR6, ?_⟩
        · rcases List.mem_append.1 hx with h | h
          · exact HM.out.2.1 x h
          · rw [List.mem_singleton.1 h]
            exact ⟨(by show (0 : Int) ≤ 0 ∧ (0 : Int) < 4294967296; decide), (by show (0 : Int) ≤ 0 ∧ (0 : Int) < 4294967296; decide), Cf.zero_fits⟩
        · exact (HM.out.2.2.2.alloc _).thenB (hOB6 w.heap.size (Nat.le_refl _)))
      clear HM hR6 hOB6 hO6 hmin
      generalize L ++ [In.mk 6 0 0 false 0 (min (n : Int) 64) Cf.zero] = L2 at *
      go_cut [2] (fun v wx => ∃ t2 : List UInt8, v = str t2 ∧ t2.length ≤ 10 * (n + 1) ∧ Only [] w6 wx)
      case first =>
        have hn0 : (0 : Int) ≤ (n : Int) := by omega
        rcases h3 with h3 | h3 | h3
        · go_wp2_with fail
          go_meet
          exact ⟨_, rfl, by simp; omega, (Only.refl _ _).alloc _⟩
        · go_wp2_with fail
          go_meet
          exact ⟨_, rfl, by simp; omega, (Only.refl _ _).alloc _⟩
        · go_wp2_with fail
          go_meet
          exact ⟨_, rfl, by simp; omega, (Only.refl _ _).alloc _⟩
      case rest =>
        obtain ⟨t2, rfl, ht2, hO7⟩ := hcut
        have HW : Hid (Only [] w wc ∧ InR wc w.heap.size (.slice q6 L2.length c6) L2) := Lib.hid ⟨HM6.out.2.2.2.trans hO7, HM6.out.2.2.1.only hO7 (by simp)⟩
        clear hO7 h3
        by_cases h61 : 61 < n
        · have h61i : (61 : Int) < (n : Int) := by omega
          go_wp2_with (first
            | (go_at_call 11; refine (pshows_any L2 (by have := HM6.out.1; omega) HM6.out.2.1 _ _ (HG.out _ HW.out.1) HW.out.2.ins).mono ?_; rintro e w8 ⟨rfl, hO8⟩)
            | (go_at_call 12; refine (preads_walk _ (by simp; omega) _ (HG.out _ (HW.out.1.trans hO8))).mono ?_; rintro e w9 ⟨rfl, hO9⟩))
          refine ⟨⟨n + 1, L2, t2, q6, c6, by go_num, by omega, by omega, rfl, ht2, rfl, Lib.hid ⟨HM6.out.1, HM6.out.2.1, (HW.out.2.only hO8 (by simp)).only hO9 (by simp), (HW.out.1.trans hO8).trans hO9⟩⟩, ?_⟩
          simp [intOf]
          omega
        · have h61i : ¬ (61 : Int) < (n : Int) := by omega
          go_wp2_with (first
            | (go_at_call 11; refine (pshows_any L2 (by have := HM6.out.1; omega) HM6.out.2.1 _ _ (HG.out _ HW.out.1) HW.out.2.ins).mono ?_; rintro e w8 ⟨rfl, hO8⟩))
          refine ⟨⟨n + 1, L2, t2, q6, c6, by go_num, by omega, by omega, rfl, ht2, rfl, Lib.hid ⟨HM6.out.1, HM6.out.2.1, HW.out.2.only hO8 (by simp), HW.out.1.trans hO8⟩⟩, ?_⟩
          simp [intOf]
          omega
    · have hni : ¬ (n : Int) < 67 := by omega
      have HO := Lib.hid HM.out.2.2.2
      clear HM
      have R1 : Hid (∀ W, Only [] w W → Calls Tryz.prog 12 #[.string ⟨#[106, 117, 109, 112, 32, 50, 10, 104, 97, 108, 116]⟩] W fun e w' => e = .returned (.bool true) ∧ Only [] W w') := Lib.hid (fun W hW => preads_walk [106, 117, 109, 112, 32, 50, 10, 104, 97, 108, 116] (by decide) W (HG.out _ hW))
      have R2 : Hid (∀ W, Only [] w W → Calls Tryz.prog 12 #[.string ⟨#[106, 117, 109, 112, 32, 51, 10, 104, 97, 108, 116]⟩] W fun e w' => e = .returned (.bool true) ∧ Only [] W w') := Lib.hid (fun W hW => preads_walk [106, 117, 109, 112, 32, 51, 10, 104, 97, 108, 116] (by decide) W (HG.out _ hW))
      have R3 : Hid (∀ W, Only [] w W → Calls Tryz.prog 12 #[.string ⟨#[104, 97, 108, 116, 10, 120, 10, 121]⟩] W fun e w' => e = .returned (.bool true) ∧ Only [] W w') := Lib.hid (fun W hW => preads_walk [104, 97, 108, 116, 10, 120, 10, 121] (by decide) W (HG.out _ hW))
      have S0 : Hid (∀ W, Only [] w W → Calls Tryz.prog 11 #[.slice none 0 0] W fun e w' => e = .returned (.bool true) ∧ Only [] W w') := Lib.hid (fun W hW => pshows_any [] (by decide) (by simp) (.slice none 0 0) W (HG.out _ hW) (.inl ⟨none, 0, rfl, rfl⟩))
      go_wp2_with (first
        | (go_at_call 11; change Calls _ _ _ _ _; (with_reducible refine (S0.out _ HO.out).mono ?_); rintro e w8 ⟨rfl, hO8⟩; have hQ8 := HO.out.trans hO8)
        | (go_at_call 12; change Calls _ _ _ _ _; (with_reducible refine (R1.out _ hQ8).mono ?_); rintro e w9 ⟨rfl, hO9⟩; have hQ9 := hQ8.trans hO9)
        | (go_at_call 12; change Calls _ _ _ _ _; (with_reducible refine (R2.out _ hQ9).mono ?_); rintro e w10 ⟨rfl, hO10⟩; have hQ10 := hQ9.trans hO10)
        | (go_at_call 12; change Calls _ _ _ _ _; (with_reducible refine (R3.out _ hQ10).mono ?_); rintro e w11 ⟨rfl, hO11⟩; have hQ11 := hQ10.trans hO11))
      go_returns
      exact ⟨rfl, hQ11⟩

/-- Four copies of an instruction, each in a block of its own. -/
def FourI (x : In) (w0 : World) (v6 v7 v8 v9 : Value) (w : World) : Prop :=
  ∃ b6 b7 b8 b9 : Nat, v6 = .pointer (some ⟨b6, 0, none⟩) ∧ v7 = .pointer (some ⟨b7, 0, none⟩) ∧ v8 = .pointer (some ⟨b8, 0, none⟩) ∧ v9 = .pointer (some ⟨b9, 0, none⟩) ∧
    Blk w b6 33 x.cs ∧ Blk w b7 33 x.cs ∧ Blk w b8 33 x.cs ∧ Blk w b9 33 x.cs ∧
    (b6 ≠ b7 ∧ b6 ≠ b8 ∧ b6 ≠ b9 ∧ b7 ≠ b8 ∧ b7 ≠ b9 ∧ b8 ≠ b9) ∧ (w0.heap.size ≤ b6 ∧ w0.heap.size ≤ b7 ∧ w0.heap.size ≤ b8 ∧ w0.heap.size ≤ b9) ∧ Only [] w0 w
theorem run_ldI {op : Oper} {a : Act} {w : World} (y : Operand) (ho : op.op = .load 33 y) (b : Nat) (hx : a.eval y = .pointer (some ⟨b, 0, none⟩)) (x : In) (hB : Blk w b 33 x.cs) :
    (execOp a.eval op).run Tryz.prog w = .ok (.value x.agg) w := by
  unfold execOp
  simp only [ho, hx, Instr.loadAt, Instr.sureAddr, Sem.run_bind, Sem.run_pure, Result.andThen_ok, run_loadVar_mid w b 0 _ x.cs.toList _ (Blk.rng hB) Tryz.underlying33 rfl (by kernel_rfl)]
theorem run_stI {op : Oper} {a : Act} {w : World} (p y : Operand) (ho : op.op = .store 33 p y) (b : Nat) (hx : a.eval p = .pointer (some ⟨b, 0, none⟩)) (x z : In) (hy : a.eval y = x.agg) (hB : Blk w b 33 z.cs) :
    ∃ w'', (execOp a.eval op).run Tryz.prog w = .ok .skip w'' ∧ Blk w'' b 33 x.cs ∧ Only [b] w w'' := by
  refine ⟨w.setCells b 0 x.cs.toList, ?_, blk_setL (x := x) (y := z) (Blk.setL x.cs.toList 0 hB), Only.setL (by simp) x.cs.toList 0 (Only.refl _ _)⟩
  unfold execOp
  simp only [ho, hx, hy, Instr.storeAt, Instr.sureAddr, Sem.run_bind, Sem.run_pure, Result.andThen_ok, run_storeVar_mid (P := Tryz.prog) w b 0 33 x.cs (hB.there (o := 0) (n := 18) (Nat.le_refl _)) (by kernel_rfl) (all_oneCell_toArray (one_of x))]
theorem run_bs7 (x0 x1 x2 x3 x4 x5 x6 : In) (w : World) : (Instr.buildSlice 22 7 #[(0, x0.agg), (1, x1.agg), (2, x2.agg), (3, x3.agg), (4, x4.agg), (5, x5.agg), (6, x6.agg)]).run Tryz.prog w = .ok (.slice (some ⟨w.heap.size, 0, none⟩) 7 7) (w.alloc (.cells (flatI [x0, x1, x2, x3, x4, x5, x6]).toArray 33)) := by kernel_rfl
theorem wpList_bs7 {ops : Array Oper} {rest : List Oper} {op : Oper} {a : Act} {w : World} {Q : Exit → Act → World → Prop} (y0 y1 y2 y3 y4 y5 y6 : Operand) (ho : op.op = .buildSlice 22 7 #[(0, y0), (1, y1), (2, y2), (3, y3), (4, y4), (5, y5), (6, y6)]) (hw : Region.wanted op (yielded ops a.tmps) = true)
    (x0 x1 x2 x3 x4 x5 x6 : In) (h0 : a.eval y0 = x0.agg) (h1 : a.eval y1 = x1.agg) (h2 : a.eval y2 = x2.agg) (h3 : a.eval y3 = x3.agg) (h4 : a.eval y4 = x4.agg) (h5 : a.eval y5 = x5.agg) (h6 : a.eval y6 = x6.agg)
    (hk : wpList Tryz.prog ops Q rest (a.put op.dst (.slice (some ⟨w.heap.size, 0, none⟩) 7 7)) (w.alloc (.cells (flatI [x0, x1, x2, x3, x4, x5, x6]).toArray 33))) : wpList Tryz.prog ops Q (op :: rest) a w :=
  BigFrame.wpList_want hw fun K hK => by
    have hr := run_bs7 x0 x1 x2 x3 x4 x5 x6 w
    unfold Oper.wp execOp
    simp only [ho, h0, h1, h2, h3, h4, h5, h6, List.map_toArray, List.map_cons, List.map_nil, Sem.run_bind, hr, Result.andThen_ok, Sem.run_pure]
    exact hK _ _ hk
theorem ins_new (l : List In) (h0 : 0 < l.length) (hl : l.length ≤ 1000) (w : World) : InS (w.alloc (.cells (flatI l).toArray 33)) (.slice (some ⟨w.heap.size, 0, none⟩) l.length l.length) l :=
  InR.ins (InR.closed (base := 0) (Nat.zero_le _) (Blk.new w 33 (flatI l).toArray) (Nat.le_refl _) (by unfold maxLen; omega) (by simpa using flatI_len l) (by rw [List.toList_toArray, ← flatI_len l, List.take_length]))
theorem wp_copiesU {Q : Exit → Act → World → Prop} {id : Nat} {a : Act} {w : World} {l : List Oper} (n : Nat) (T : TypeId) (p : Nat) (V : Value) (cs zero : Array Value) (u : Nat → Value)
    (hm : Tryz.prog.follows .mixedOrders = true) (hlen : l.length = 3 * n) (hlex : lexOk l = true)
    (ha : a = mkF a (l.take (2 * n)) 0 u) (hp : Blk w p T cs)
    (hwant : ∀ o ∈ l, o.guard = none)
    (hput : ∀ i o, i < 2 * n → l[i]? = some o → ∀ f v, (mkF a (l.take (2 * n)) 0 f).put o.dst v = mkF a (l.take (2 * n)) 0 (fun j => if j = i then v else f j))
    (hput3 : ∀ i o, i < n → l[2 * n + i]? = some o → o.dst = none)
    (hd1 : ∀ i o, i < n → l[2 * n + i]? = some o → (∃ e ∈ o.after, Region.binds .any e = true ∧ e.on = i) ∧ (∃ e ∈ o.after, Region.binds .any e = true ∧ e.on = n + i))
    (hload : ∀ i o, i < n → l[i]? = some o → ∀ f w', Blk w' p T cs → (execOp (mkF a (l.take (2 * n)) 0 f).eval o).run Tryz.prog w' = .ok (.value V) w')
    (halloc : ∀ i o, i < n → l[n + i]? = some o → ∀ f w', (execOp (mkF a (l.take (2 * n)) 0 f).eval o).run Tryz.prog w' = .ok (.value (.pointer (some ⟨w'.heap.size, 0, none⟩))) (w'.alloc (.cells zero T)))
    (hstore : ∀ i o, i < n → l[2 * n + i]? = some o → ∀ f b w', f i = V → f (n + i) = .pointer (some ⟨b, 0, none⟩) → Blk w' b T zero →
      ∃ w'', (execOp (mkF a (l.take (2 * n)) 0 f).eval o).run Tryz.prog w' = .ok .skip w'' ∧ Blk w'' b T cs ∧ Only [b] w' w'')
    (hend : ∀ f w', Copies n T cs zero w V f (fun _ => true) w' → Q .normal (mkF a (l.take (2 * n)) 0 f) w') : (Code.region id l.toArray true).wp Tryz.prog Q a w :=
  wp_copies n T p V cs zero (fun f => mkF a (l.take (2 * n)) 0 f) u hm hlen (lex_of hlex) ha hp hwant hput hput3 hd1 hload halloc hstore hend

/-- Blocks of instructions, each known, all of the round's own. -/
def StL (wo wx : World) (l : List (Nat × In)) : Prop := (l.map Prod.fst).Nodup ∧ (∀ p ∈ l, wo.heap.size ≤ p.1 ∧ Blk wx p.1 33 p.2.cs) ∧ Only [] wo wx
theorem StL.own {wo wx : World} {l : List (Nat × In)} (h : StL wo wx l) : Only [] wo wx := h.2.2
theorem StL.at_ {wo wx : World} {l : List (Nat × In)} {b : Nat} {x : In} (h : StL wo wx l) (hi : (b, x) ∈ l) : Blk wx b 33 x.cs := (h.2.1 _ hi).2
theorem StL.call {wo wx w' : World} {l : List (Nat × In)} (h : StL wo wx l) (hO : Only [] wx w') : StL wo w' l :=
  ⟨h.1, fun p hp => ⟨(h.2.1 p hp).1, hO.blk (h.2.1 p hp).2 (by simp)⟩, h.2.2.trans hO⟩
theorem StL.put {wo wx w' : World} {l : List (Nat × In)} {b : Nat} {y : In} (h : StL wo wx l) (hB : Blk w' b 33 y.cs) (hb : wx.heap.size ≤ b) (hO : Only [] wx w') : StL wo w' ((b, y) :: l) := by
  refine ⟨?_, fun p hp => ?_, h.2.2.trans hO⟩
  · rw [List.map_cons, List.nodup_cons]
    refine ⟨fun hm => ?_, h.1⟩
    obtain ⟨p, hp, he⟩ := List.mem_map.1 hm
    have := (h.2.1 p hp).2.lt
    simp only at he
    omega
  · rcases List.mem_cons.1 hp with rfl | hp
    · exact ⟨Nat.le_trans h.2.2.size hb, hB⟩
    · exact ⟨(h.2.1 p hp).1, hO.blk (h.2.1 p hp).2 (by simp)⟩
theorem StL.set_ {wo wx w' : World} {l1 l2 : List (Nat × In)} {b : Nat} {x y : In} (h : StL wo wx (l1 ++ (b, x) :: l2)) (hB : Blk w' b 33 y.cs) (hO : Only [b] wx w') : StL wo w' (l1 ++ (b, y) :: l2) := by
  obtain ⟨hn, ha, hw⟩ := h
  have hb := (ha (b, x) (by simp)).1
  have hn' := hn
  rw [List.map_append, List.map_cons, List.nodup_append] at hn'
  obtain ⟨-, hn2, hn3⟩ := hn'
  rw [List.nodup_cons] at hn2
  refine ⟨by simpa using hn, fun p hp => ?_, hw.trans' hO (by intro z hz hlt; simp at hz; omega)⟩
  rcases List.mem_append.1 hp with hp | hp
  · have hne : p.1 ≠ b := hn3 _ (List.mem_map_of_mem hp) _ (List.mem_cons_self ..)
    exact ⟨(ha p (List.mem_append_left _ hp)).1, hO.blk (ha p (List.mem_append_left _ hp)).2 (by simpa using hne)⟩
  · rcases List.mem_cons.1 hp with rfl | hp
    · exact ⟨hb, hB⟩
    · have hm : p ∈ l1 ++ (b, x) :: l2 := List.mem_append_right _ (List.mem_cons_of_mem _ hp)
      have hne : p.1 ≠ b := fun he => hn2.1 (by show b ∈ List.map Prod.fst l2; rw [← he]; exact List.mem_map_of_mem hp)
      exact ⟨(ha p hm).1, hO.blk (ha p hm).2 (by simpa using hne)⟩
theorem StL.four {wo wa wx : World} {x0 : In} {b7 b8 b9 b10 : Nat} (hO : Only [] wo wa) (h7 : Blk wx b7 33 x0.cs) (h8 : Blk wx b8 33 x0.cs) (h9 : Blk wx b9 33 x0.cs) (h10 : Blk wx b10 33 x0.cs)
    (hne : b7 ≠ b8 ∧ b7 ≠ b9 ∧ b7 ≠ b10 ∧ b8 ≠ b9 ∧ b8 ≠ b10 ∧ b9 ≠ b10) (hle : wa.heap.size ≤ b7 ∧ wa.heap.size ≤ b8 ∧ wa.heap.size ≤ b9 ∧ wa.heap.size ≤ b10) (hO2 : Only [] wa wx) : StL wo wx [(b7, x0), (b8, x0), (b9, x0), (b10, x0)] := by
  have hs := hO.size
  refine ⟨by simp; omega, fun p hp => ?_, hO.trans hO2⟩
  simp only [List.mem_cons, List.not_mem_nil, or_false] at hp
  rcases hp with rfl | rfl | rfl | rfl
  · exact ⟨by simp only; omega, h7⟩
  · exact ⟨by simp only; omega, h8⟩
  · exact ⟨by simp only; omega, h9⟩
  · exact ⟨by simp only; omega, h10⟩
theorem blk_sz {w : World} {b t : Nat} {x : In} (h : Blk w b t x.cs) (v : Int) : Blk (w.setCell ⟨b, 1, none⟩ (.int .i64 v)) b t (In.mk x.op v x.ad x.ix x.dt x.to x.cf).cs := h.set_ 1 (.int .i64 v)
theorem blk_ad {w : World} {b t : Nat} {x : In} (h : Blk w b t x.cs) (v : Int) : Blk (w.setCell ⟨b, 2, none⟩ (.int .u32 v)) b t (In.mk x.op x.sz v x.ix x.dt x.to x.cf).cs := h.set_ 2 (.int .u32 v)
theorem blk_ix {w : World} {b t : Nat} {x : In} (h : Blk w b t x.cs) (v : Bool) : Blk (w.setCell ⟨b, 3, none⟩ (.bool v)) b t (In.mk x.op x.sz x.ad v x.dt x.to x.cf).cs := h.set_ 3 (.bool v)
theorem blk_dt {w : World} {b t : Nat} {x : In} (h : Blk w b t x.cs) (v : Int) : Blk (w.setCell ⟨b, 4, none⟩ (.int .u32 v)) b t (In.mk x.op x.sz x.ad x.ix v x.to x.cf).cs := h.set_ 4 (.int .u32 v)
theorem blk_to {w : World} {b t : Nat} {x : In} (h : Blk w b t x.cs) (v : Int) : Blk (w.setCell ⟨b, 5, none⟩ (.int .i64 v)) b t (In.mk x.op x.sz x.ad x.ix x.dt v x.cf).cs := h.set_ 5 (.int .i64 v)
theorem run_bsI1 (x0 : In) (w : World) : (Instr.buildSlice 22 1 #[(0, x0.agg)]).run Tryz.prog w = .ok (.slice (some ⟨w.heap.size, 0, none⟩) 1 1) (w.alloc (.cells (flatI [x0]).toArray 33)) := by kernel_rfl
theorem wpList_bsI1 {ops : Array Oper} {rest : List Oper} {op : Oper} {a : Act} {w : World} {Q : Exit → Act → World → Prop} (y0 : Operand) (ho : op.op = .buildSlice 22 1 #[(0, y0)]) (hw : Region.wanted op (yielded ops a.tmps) = true)
    (x0 : In) (h0 : a.eval y0 = x0.agg)
    (hk : wpList Tryz.prog ops Q rest (a.put op.dst (.slice (some ⟨w.heap.size, 0, none⟩) 1 1)) (w.alloc (.cells (flatI [x0]).toArray 33))) : wpList Tryz.prog ops Q (op :: rest) a w :=
  BigFrame.wpList_want hw fun K hK => by
    have hr := run_bsI1 x0 w
    unfold Oper.wp execOp
    simp only [ho, h0, List.map_toArray, List.map_cons, List.map_nil, Sem.run_bind, hr, Result.andThen_ok, Sem.run_pure]
    exact hK _ _ hk
/-- A call of shows, and an operation that yields a value: by hand. -/
theorem wpList_shows {ops : Array Oper} {rest : List Oper} {op : Oper} {a : Act} {w : World} {Q : Exit → Act → World → Prop} {v : Value}
    (hc : Calls Tryz.prog 11 #[v] w fun e w' => e = .returned (.bool true) ∧ Only [] w w') (y : Operand) (tys : Array TypeId)
    (ho : op.op = .call { callee := .value (.func 11), args := #[y], argTypes := tys }) (hw : Region.wanted op (yielded ops a.tmps) = true) (hy : a.eval y = v)
    (hk : ∀ w', Only [] w w' → wpList Tryz.prog ops Q rest (a.put op.dst (.bool true)) w') : wpList Tryz.prog ops Q (op :: rest) a w :=
  BigFrame.wpList_want hw fun K hK => by
    obtain ⟨dst, o, ty, pos, after, guard⟩ := op
    simp only at ho
    subst ho
    unfold Oper.wp
    rw [execOp_call_go, show #[] ++ #[y].map a.eval ++ #[] = #[v] from by simp [hy]]
    have hr : (callFunc 11 #[v]).run Tryz.prog w = .ok (.enter 11 #[v]) w := by kernel_rfl
    rw [hr, Oper.upon_enter]
    refine hc.mono ?_
    rintro e w' ⟨rfl, hO⟩
    exact hK _ _ (hk w' hO)
theorem shows_new (l : List In) (n : Nat) (hn : l.length = n) (h0 : 0 < n) (hl : n ≤ 1000) (hf : ∀ x ∈ l, x.Fits) (W : World) (hg : Gl (W.alloc (.cells (flatI l).toArray 33))) :
    Calls Tryz.prog 11 #[.slice (some ⟨W.heap.size, 0, none⟩) n n] (W.alloc (.cells (flatI l).toArray 33)) fun e w' => e = .returned (.bool true) ∧ Only [] (W.alloc (.cells (flatI l).toArray 33)) w' := by
  subst hn
  exact pshows_any l (by omega) hf _ _ hg (ins_new l h0 hl W)
theorem wpList_val {P : Program} {ops : Array Oper} {rest : List Oper} {op : Oper} {a : Act} {w : World} {Q : Exit → Act → World → Prop} (v : Value) (hw : Region.wanted op (yielded ops a.tmps) = true)
    (hr : (execOp a.eval op).run P w = .ok (.value v) w) (hk : wpList P ops Q rest (a.put op.dst v) w) : wpList P ops Q (op :: rest) a w :=
  BigFrame.wpList_want hw fun K hK => by
    unfold Oper.wp
    rw [hr]
    exact hK _ _ hk
set_option maxRecDepth 100000 in
set_option maxHeartbeats 16000000 in
theorem psmall_any (w : World) (hg : Gl w) :
    Calls Tryz.prog 5 #[] w fun e w' => e = .returned (.bool true) ∧ Only [] w w' := by
  have HA := Lib.hid (fun W (h : Only [] w W) => pawake_any W (hg.only h))
  have HG := Lib.hid (fun (wx : World) (h : Only [] w wx) => hg.only h)
  have HZ := Lib.hid (fun W (h : Only [] w W) => psizes_any W (hg.only h))
  have HB0 := Lib.hid (show SmB w w.heap.size (w.heap.size + 1) ((w.alloc (.cells (psmW.map fun n => Value.int .u32 n).toArray 24)).alloc (.cells (psmN.map fun n => Value.int .i64 n).toArray 3)) from ⟨(Blk.new' rfl rfl).alloc _, Blk.new' rfl (by simp), ((Only.refl [] w).alloc _).alloc _⟩)
  clear hg
  go_enter Tryz.func5, Tryz.ntmps5
  go_wp2_with fail
  have hWN : w.heap.size ≠ w.heap.size + 1 := by omega
  obtain ⟨Wb, hWb⟩ : ∃ b, b = w.heap.size := ⟨_, rfl⟩
  obtain ⟨Nb, hNb⟩ : ∃ b, b = w.heap.size + 1 := ⟨_, rfl⟩
  rw [← hNb, ← hWb] at HB0 hWN
  rw [← hNb, ← hWb]
  clear hWb hNb
  go_loopw [3] (fun k wr => ∃ op : Int, k = .int .i64 op ∧ -1 ≤ op ∧ op ≤ 12 ∧ Hid (SmB w Wb Nb wr)) (fun k _ => (12 - intOf k).toNat)
  case atStart => exact ⟨-1, rfl, by omega, by omega, HB0⟩
  case round =>
    clear HB0
    obtain ⟨op, rfl, hop1, hop2, HM⟩ := hrel
    by_cases hop : op < 12
    · go_wp2_with fail
      go_loopw [4] (fun i wr => ∃ i' : Nat, i = .int .i64 i' ∧ i' ≤ 7 ∧ Hid (SmB w Wb Nb wr)) (fun i _ => 7 - (intOf i).toNat)
      case atStart => exact ⟨0, rfl, by omega, HM⟩
      case round =>
        clear HM
        obtain ⟨i, rfl, hi, HM⟩ := hrel
        by_cases hil : i < 7
        · have hii : (i : Int) < 7 := by omega
          go_wp2_with fail
          go_loopw [5] (fun j wr => ∃ j' : Nat, j = .int .i64 j' ∧ j' ≤ 12 ∧ Hid (SmB w Wb Nb wr)) (fun j _ => 12 - (intOf j).toNat)
          case atStart => exact ⟨0, rfl, by omega, HM⟩
          case round =>
            clear HM
            obtain ⟨j, rfl, hj, HM⟩ := hrel
            by_cases hjl : j < 12
            · have hji : (j : Int) < 12 := by omega
              have hj0 : (0 : Int) ≤ (j : Int) := by omega
              have hi0 : (0 : Int) ≤ (i : Int) := by omega
              have HM := Lib.hid (show SmB w Wb Nb wr from HM.out)
              have hwd := psmW_rng i hil
              have HwW : Hid (∀ W, Blk W Wb 24 (psmW.map fun n => Value.int .u32 n).toArray → W.cell? ⟨Wb, i, none⟩ = some (.int .u32 (psmW.getD i 0))) := Lib.hid (fun W h => by rw [h.cell i, List.getElem?_toArray]; exact psmW_at i hil)
              have HwN : Hid (∀ W, Blk W Nb 3 (psmN.map fun n => Value.int .i64 n).toArray → W.cell? ⟨Nb, j, none⟩ = some (.int .i64 (psmN.getD j 0))) := Lib.hid (fun W h => by rw [h.cell j, List.getElem?_toArray]; exact psmN_at j hjl)
              generalize psmW.getD i 0 = wd at *
              generalize psmN.getD j 0 = nm at *
              have HWl := Lib.hid (And.intro HM.out.ws.lt HM.out.ns.lt)
              obtain ⟨wo, hwo⟩ : ∃ x, x = wr := ⟨_, rfl⟩
              subst hwo
              go_upto_region 12 with fail
              go_cut [6] (fun v wx => ∃ (b : Nat) (sz : Int) (ix : Bool), v = .pointer (some ⟨b, 0, none⟩) ∧ Hid (Blk wx b 33 (In.mk op sz 0 ix 0 0 Cf.zero).cs ∧ Only [] wo wx ∧ wo.heap.size ≤ b))
              case first =>
                have h4 : (j : Int) % 4 = 0 ∨ (j : Int) % 4 = 1 ∨ (j : Int) % 4 = 2 ∨ (j : Int) % 4 = 3 := by omega
                have h2 : (i : Int) % 2 = 0 ∨ (i : Int) % 2 = 1 := by omega
                rcases h4 with h4 | h4 | h4 | h4 <;> rcases h2 with h2 | h2
                · go_wp2_with (refine wpList_st 33 (In.mk op 0 0 false 0 0 Cf.zero).cs.toList (wo.heap.size + 1) 0 _ _ rfl (by kernel_rfl) rfl rfl rfl rfl (Blk.new' rfl (by simp) : Blk _ (wo.heap.size + 1) 33 (In.only 0).cs) (Nat.le_of_ble_eq_true rfl) ?_; intro w3 hB3 hO3)
                  go_meet
                  exact ⟨_, 0, false, rfl, Lib.hid ⟨blk_setL (x := In.mk op 0 0 false 0 0 Cf.zero) (y := In.only 0) hB3, (((Only.refl [] wo).alloc _).alloc _).trans' hO3 (by intro z hz hlt; simp at hz; omega), by omega⟩⟩
                · go_wp2_with (refine wpList_st 33 (In.mk op 0 0 false 0 0 Cf.zero).cs.toList (wo.heap.size + 1) 0 _ _ rfl (by kernel_rfl) rfl rfl rfl rfl (Blk.new' rfl (by simp) : Blk _ (wo.heap.size + 1) 33 (In.only 0).cs) (Nat.le_of_ble_eq_true rfl) ?_; intro w3 hB3 hO3)
                  go_meet
                  exact ⟨_, 0, false, rfl, Lib.hid ⟨blk_setL (x := In.mk op 0 0 false 0 0 Cf.zero) (y := In.only 0) hB3, (((Only.refl [] wo).alloc _).alloc _).trans' hO3 (by intro z hz hlt; simp at hz; omega), by omega⟩⟩
                · go_wp2_with (refine wpList_st 33 (In.mk op 1 0 false 0 0 Cf.zero).cs.toList (wo.heap.size + 1) 0 _ _ rfl (by kernel_rfl) rfl rfl rfl rfl (Blk.new' rfl (by simp) : Blk _ (wo.heap.size + 1) 33 (In.only 0).cs) (Nat.le_of_ble_eq_true rfl) ?_; intro w3 hB3 hO3)
                  go_meet
                  exact ⟨_, 1, false, rfl, Lib.hid ⟨blk_setL (x := In.mk op 1 0 false 0 0 Cf.zero) (y := In.only 0) hB3, (((Only.refl [] wo).alloc _).alloc _).trans' hO3 (by intro z hz hlt; simp at hz; omega), by omega⟩⟩
                · go_wp2_with (refine wpList_st 33 (In.mk op 1 0 true 0 0 Cf.zero).cs.toList (wo.heap.size + 1) 0 _ _ rfl (by kernel_rfl) rfl rfl rfl rfl (Blk.new' rfl (by simp) : Blk _ (wo.heap.size + 1) 33 (In.only 0).cs) (Nat.le_of_ble_eq_true rfl) ?_; intro w3 hB3 hO3)
                  go_meet
                  exact ⟨_, 1, true, rfl, Lib.hid ⟨blk_setL (x := In.mk op 1 0 true 0 0 Cf.zero) (y := In.only 0) hB3, (((Only.refl [] wo).alloc _).alloc _).trans' hO3 (by intro z hz hlt; simp at hz; omega), by omega⟩⟩
                · go_wp2_with (refine wpList_st 33 (In.mk op 2 0 false 0 0 Cf.zero).cs.toList (wo.heap.size + 1) 0 _ _ rfl (by kernel_rfl) rfl rfl rfl rfl (Blk.new' rfl (by simp) : Blk _ (wo.heap.size + 1) 33 (In.only 0).cs) (Nat.le_of_ble_eq_true rfl) ?_; intro w3 hB3 hO3)
                  go_meet
                  exact ⟨_, 2, false, rfl, Lib.hid ⟨blk_setL (x := In.mk op 2 0 false 0 0 Cf.zero) (y := In.only 0) hB3, (((Only.refl [] wo).alloc _).alloc _).trans' hO3 (by intro z hz hlt; simp at hz; omega), by omega⟩⟩
                · go_wp2_with (refine wpList_st 33 (In.mk op 2 0 true 0 0 Cf.zero).cs.toList (wo.heap.size + 1) 0 _ _ rfl (by kernel_rfl) rfl rfl rfl rfl (Blk.new' rfl (by simp) : Blk _ (wo.heap.size + 1) 33 (In.only 0).cs) (Nat.le_of_ble_eq_true rfl) ?_; intro w3 hB3 hO3)
                  go_meet
                  exact ⟨_, 2, true, rfl, Lib.hid ⟨blk_setL (x := In.mk op 2 0 true 0 0 Cf.zero) (y := In.only 0) hB3, (((Only.refl [] wo).alloc _).alloc _).trans' hO3 (by intro z hz hlt; simp at hz; omega), by omega⟩⟩
                · go_wp2_with (refine wpList_st 33 (In.mk op 4 0 false 0 0 Cf.zero).cs.toList (wo.heap.size + 1) 0 _ _ rfl (by kernel_rfl) rfl rfl rfl rfl (Blk.new' rfl (by simp) : Blk _ (wo.heap.size + 1) 33 (In.only 0).cs) (Nat.le_of_ble_eq_true rfl) ?_; intro w3 hB3 hO3)
                  go_meet
                  exact ⟨_, 4, false, rfl, Lib.hid ⟨blk_setL (x := In.mk op 4 0 false 0 0 Cf.zero) (y := In.only 0) hB3, (((Only.refl [] wo).alloc _).alloc _).trans' hO3 (by intro z hz hlt; simp at hz; omega), by omega⟩⟩
                · go_wp2_with (refine wpList_st 33 (In.mk op 4 0 true 0 0 Cf.zero).cs.toList (wo.heap.size + 1) 0 _ _ rfl (by kernel_rfl) rfl rfl rfl rfl (Blk.new' rfl (by simp) : Blk _ (wo.heap.size + 1) 33 (In.only 0).cs) (Nat.le_of_ble_eq_true rfl) ?_; intro w3 hB3 hO3)
                  go_meet
                  exact ⟨_, 4, true, rfl, Lib.hid ⟨blk_setL (x := In.mk op 4 0 true 0 0 Cf.zero) (y := In.only 0) hB3, (((Only.refl [] wo).alloc _).alloc _).trans' hO3 (by intro z hz hlt; simp at hz; omega), by omega⟩⟩
              case rest =>
                obtain ⟨b6, sz, ix, rfl, HX⟩ := hcut
                go_upto_region 13 with fail
                obtain ⟨x0, hx0⟩ : ∃ x, x = In.mk op sz 0 ix 0 0 Cf.zero := ⟨_, rfl⟩
                rw [← hx0] at HX
                have HX0 := Lib.hid hx0
                clear hx0
                have hX6 := HX.out.1
                go_cut [7, 8, 9, 10] (fun v7 v8 v9 v10 wx => FourI x0 wc v7 v8 v9 v10 wx)
                case first =>
                  refine wp_copiesU 4 33 b6 x0.agg x0.cs (In.only 0).cs (fun i => match i with | 0 => u49 | 1 => u50 | 2 => u51 | 3 => u52 | 4 => u7 | 5 => u8 | 6 => u9 | _ => u10) (by kernel_rfl) rfl (by kernel_rfl) (by simp only [mkF, Act.put, List.setIfInBounds_toArray, List.set_cons_succ, List.set_cons_zero, List.take_succ_cons, List.take_zero, Nat.reduceMul]) hX6 ?_ ?_ ?_ ?_ ?_ ?_ ?_ ?_
                  · intro o ho
                    simp only [List.mem_cons, List.not_mem_nil, or_false] at ho
                    rcases ho with rfl | rfl | rfl | rfl | rfl | rfl | rfl | rfl | rfl | rfl | rfl | rfl <;> rfl
                  · intro i o hi ho f v
                    have : i = 0 ∨ i = 1 ∨ i = 2 ∨ i = 3 ∨ i = 4 ∨ i = 5 ∨ i = 6 ∨ i = 7 := by omega
                    rcases this with rfl | rfl | rfl | rfl | rfl | rfl | rfl | rfl <;> (cases ho; simp [mkF, Act.put])
                  · intro i o hi ho
                    have : i = 0 ∨ i = 1 ∨ i = 2 ∨ i = 3 := by omega
                    rcases this with rfl | rfl | rfl | rfl <;> (cases ho; rfl)
                  · intro i o hi ho
                    have : i = 0 ∨ i = 1 ∨ i = 2 ∨ i = 3 := by omega
                    rcases this with rfl | rfl | rfl | rfl <;> (cases ho; simp [Region.binds])
                  · intro i o hi ho f w' hB
                    have : i = 0 ∨ i = 1 ∨ i = 2 ∨ i = 3 := by omega
                    rcases this with rfl | rfl | rfl | rfl <;> (cases ho; simp only [mkF, Act.put, List.setIfInBounds_toArray, List.set_cons_succ, List.set_cons_zero, List.take_succ_cons, List.take_zero, Nat.reduceMul, Nat.zero_add, Nat.reduceAdd]; exact run_ldI (.tmp 6) rfl b6 rfl x0 hB)
                  · intro i o hi ho f w'
                    have : i = 0 ∨ i = 1 ∨ i = 2 ∨ i = 3 := by omega
                    rcases this with rfl | rfl | rfl | rfl <;> (cases ho; simp only [mkF, Act.put, List.setIfInBounds_toArray, List.set_cons_succ, List.set_cons_zero, List.take_succ_cons, List.take_zero, Nat.reduceMul, Nat.zero_add, Nat.reduceAdd]; go_simp)
                  · intro i o hi ho f b w' hfi hfb hB
                    have : i = 0 ∨ i = 1 ∨ i = 2 ∨ i = 3 := by omega
                    rcases this with rfl | rfl | rfl | rfl
                    · cases ho
                      simp only [mkF, Act.put, List.setIfInBounds_toArray, List.set_cons_succ, List.set_cons_zero, List.take_succ_cons, List.take_zero, Nat.reduceMul, Nat.zero_add, Nat.reduceAdd]
                      refine run_stI (.tmp 7) (.tmp 49) rfl b ?_ x0 (In.only 0) ?_ hB
                      · exact hfb
                      · exact hfi
                    · cases ho
                      simp only [mkF, Act.put, List.setIfInBounds_toArray, List.set_cons_succ, List.set_cons_zero, List.take_succ_cons, List.take_zero, Nat.reduceMul, Nat.zero_add, Nat.reduceAdd]
                      refine run_stI (.tmp 8) (.tmp 50) rfl b ?_ x0 (In.only 0) ?_ hB
                      · exact hfb
                      · exact hfi
                    · cases ho
                      simp only [mkF, Act.put, List.setIfInBounds_toArray, List.set_cons_succ, List.set_cons_zero, List.take_succ_cons, List.take_zero, Nat.reduceMul, Nat.zero_add, Nat.reduceAdd]
                      refine run_stI (.tmp 9) (.tmp 51) rfl b ?_ x0 (In.only 0) ?_ hB
                      · exact hfb
                      · exact hfi
                    · cases ho
                      simp only [mkF, Act.put, List.setIfInBounds_toArray, List.set_cons_succ, List.set_cons_zero, List.take_succ_cons, List.take_zero, Nat.reduceMul, Nat.zero_add, Nat.reduceAdd]
                      refine run_stI (.tmp 10) (.tmp 52) rfl b ?_ x0 (In.only 0) ?_ hB
                      · exact hfb
                      · exact hfi
                  · intro f w' hC
                    obtain ⟨b7, b8, b9, b10, ⟨v0, v1, v2, v3⟩, ⟨v4, v5, v6, v7⟩, ⟨B6, B7, B8, B9⟩, hne, hle, hO⟩ := hC.four
                    have HH := Lib.hid (show FourI x0 wc (.pointer (some ⟨b7, 0, none⟩)) (.pointer (some ⟨b8, 0, none⟩)) (.pointer (some ⟨b9, 0, none⟩)) (.pointer (some ⟨b10, 0, none⟩)) w' from ⟨b7, b8, b9, b10, rfl, rfl, rfl, rfl, B6, B7, B8, B9, hne, hle, hO⟩)
                    simp only [mkF, Act.put, List.setIfInBounds_toArray, List.set_cons_succ, List.set_cons_zero, List.take_succ_cons, List.take_zero, Nat.reduceMul, Nat.zero_add, Nat.reduceAdd, v0, v1, v2, v3, v4, v5, v6, v7]
                    clear hC B6 B7 B8 B9 hne hle hO v0 v1 v2 v3 v4 v5 v6 v7
                    go_wp2_with fail
                    go_meet
                    exact HH.out
                case rest =>
                  obtain ⟨b7, b8, b9, b10, rfl, rfl, rfl, rfl, h7, h8, h9, h10, hne, hle, hO13⟩ := hcut
                  have HS := Lib.hid (StL.four HX.out.2.1 h7 h8 h9 h10 hne hle hO13)
                  clear h7 h8 h9 h10 hne hle hO13 hX6 HX
                  obtain ⟨wa, hwa⟩ : ∃ x, x = wc := ⟨_, rfl⟩
                  subst hwa
                  go_upto_region 14 with fail
                  go_cut [] (fun wx => Hid (Blk wx b7 33 (In.mk x0.op x0.sz wd x0.ix x0.dt x0.to x0.cf).cs ∧ Only [b7] wa wx))
                  case first =>
                    have e1 := HwW.out _ (HM.out.call HS.out.own).ws
                    have g1 := (HM.out.call HS.out.own).ws.frozen i
                    have e2 := (HS.out.at_ (b := b7) (x := x0) (by simp)).cell 2
                    have g2 := (HS.out.at_ (b := b7) (x := x0) (by simp)).frozen 2
                    simp only [List.getElem?_toArray, List.getElem?_cons_succ, List.getElem?_cons_zero] at e2
                    go_wp2_with fail
                    go_meet
                    exact Lib.hid ⟨blk_ad (HS.out.at_ (b := b7) (x := x0) (by simp)) _, (Only.refl _ _).set1 (by simp) 2 _⟩
                  case rest =>
                    have HS := Lib.hid (HS.out.set_ (l1 := []) hcut.out.1 hcut.out.2)
                    clear hcut
                    obtain ⟨x7, hx7⟩ : ∃ x, x = (In.mk x0.op x0.sz wd x0.ix x0.dt x0.to x0.cf) := ⟨_, rfl⟩
                    have HS := Lib.hid (show StL wo _ [(b7, x7), (b8, x0), (b9, x0), (b10, x0)] from hx7 ▸ HS.out)
                    have HE_x7 := Lib.hid hx7
                    clear hx7
                    obtain ⟨wa1, hwa⟩ : ∃ x, x = wc := ⟨_, rfl⟩
                    subst hwa
                    go_upto_region 15 with fail
                    go_cut [] (fun wx => Hid (Blk wx b8 33 (In.mk x0.op x0.sz x0.ad x0.ix wd x0.to x0.cf).cs ∧ Only [b8] wa1 wx))
                    case first =>
                      have e1 := HwW.out _ (HM.out.call HS.out.own).ws
                      have g1 := (HM.out.call HS.out.own).ws.frozen i
                      have e2 := (HS.out.at_ (b := b8) (x := x0) (by simp)).cell 4
                      have g2 := (HS.out.at_ (b := b8) (x := x0) (by simp)).frozen 4
                      simp only [List.getElem?_toArray, List.getElem?_cons_succ, List.getElem?_cons_zero] at e2
                      go_wp2_with fail
                      go_meet
                      exact Lib.hid ⟨blk_dt (HS.out.at_ (b := b8) (x := x0) (by simp)) _, (Only.refl _ _).set1 (by simp) 4 _⟩
                    case rest =>
                      have HS := Lib.hid (HS.out.set_ (l1 := [(b7, x7)]) hcut.out.1 hcut.out.2)
                      clear hcut
                      obtain ⟨x8, hx8⟩ : ∃ x, x = (In.mk x0.op x0.sz x0.ad x0.ix wd x0.to x0.cf) := ⟨_, rfl⟩
                      have HS := Lib.hid (show StL wo _ [(b7, x7), (b8, x8), (b9, x0), (b10, x0)] from hx8 ▸ HS.out)
                      have HE_x8 := Lib.hid hx8
                      clear hx8
                      obtain ⟨wa2, hwa⟩ : ∃ x, x = wc := ⟨_, rfl⟩
                      subst hwa
                      go_upto_region 16 with fail
                      go_cut [] (fun wx => Hid (Blk wx b9 33 (In.mk x0.op x0.sz x0.ad x0.ix x0.dt nm x0.cf).cs ∧ Only [b9] wa2 wx))
                      case first =>
                        have e1 := HwN.out _ (HM.out.call HS.out.own).ns
                        have g1 := (HM.out.call HS.out.own).ns.frozen j
                        have e2 := (HS.out.at_ (b := b9) (x := x0) (by simp)).cell 5
                        have g2 := (HS.out.at_ (b := b9) (x := x0) (by simp)).frozen 5
                        simp only [List.getElem?_toArray, List.getElem?_cons_succ, List.getElem?_cons_zero] at e2
                        go_wp2_with fail
                        go_meet
                        exact Lib.hid ⟨blk_to (HS.out.at_ (b := b9) (x := x0) (by simp)) _, (Only.refl _ _).set1 (by simp) 5 _⟩
                      case rest =>
                        have HS := Lib.hid (HS.out.set_ (l1 := [(b7, x7), (b8, x8)]) hcut.out.1 hcut.out.2)
                        clear hcut
                        obtain ⟨x9, hx9⟩ : ∃ x, x = (In.mk x0.op x0.sz x0.ad x0.ix x0.dt nm x0.cf) := ⟨_, rfl⟩
                        have HS := Lib.hid (show StL wo _ [(b7, x7), (b8, x8), (b9, x9), (b10, x0)] from hx9 ▸ HS.out)
                        have HE_x9 := Lib.hid hx9
                        clear hx9
                        obtain ⟨wa3, hwa⟩ : ∃ x, x = wc := ⟨_, rfl⟩
                        subst hwa
                        go_upto_region 17 with fail
                        go_cut [] (fun wx => Hid (Blk wx b10 33 (In.mk x0.op nm x0.ad x0.ix x0.dt x0.to x0.cf).cs ∧ Only [b10] wa3 wx))
                        case first =>
                          have e1 := HwN.out _ (HM.out.call HS.out.own).ns
                          have g1 := (HM.out.call HS.out.own).ns.frozen j
                          have e2 := (HS.out.at_ (b := b10) (x := x0) (by simp)).cell 1
                          have g2 := (HS.out.at_ (b := b10) (x := x0) (by simp)).frozen 1
                          simp only [List.getElem?_toArray, List.getElem?_cons_succ, List.getElem?_cons_zero] at e2
                          go_wp2_with fail
                          go_meet
                          exact Lib.hid ⟨blk_sz (HS.out.at_ (b := b10) (x := x0) (by simp)) _, (Only.refl _ _).set1 (by simp) 1 _⟩
                        case rest =>
                          have HS := Lib.hid (HS.out.set_ (l1 := [(b7, x7), (b8, x8), (b9, x9)]) hcut.out.1 hcut.out.2)
                          clear hcut
                          obtain ⟨x10, hx10⟩ : ∃ x, x = (In.mk x0.op nm x0.ad x0.ix x0.dt x0.to x0.cf) := ⟨_, rfl⟩
                          have HS := Lib.hid (show StL wo _ [(b7, x7), (b8, x8), (b9, x9), (b10, x10)] from hx10 ▸ HS.out)
                          have HE_x10 := Lib.hid hx10
                          clear hx10
                          obtain ⟨wa4, hwa⟩ : ∃ x, x = wc := ⟨_, rfl⟩
                          subst hwa
                          go_upto_region 18 with fail
                          go_cut [11] (fun v wx => ∃ b, v = .pointer (some ⟨b, 0, none⟩) ∧ Hid (Blk wx b 33 x9.cs ∧ Only [] wa4 wx ∧ wa4.heap.size ≤ b))
                          case first =>
                            go_wp2_with (first
                              | (refine wpList_ld 33 x9 b9 0 _ rfl (.inl rfl) rfl rfl (Blk.rng (HS.out.at_ (b := b9) (x := x9) (by simp))) ?_)
                              | (refine wpList_st 33 x9.cs.toList wa4.heap.size 0 _ _ rfl (by kernel_rfl) rfl rfl rfl rfl (Blk.new wa4 33 (In.only 0).cs) (Nat.le_of_ble_eq_true rfl) ?_; intro w3 hB3 hO3))
                            go_meet
                            exact ⟨_, rfl, Lib.hid ⟨blk_setL (x := x9) (y := In.only 0) hB3, ((Only.refl [] wa4).alloc _).trans' hO3 (by intro z hz hlt; simp at hz; omega), Nat.le_refl _⟩⟩
                          case rest =>
                            obtain ⟨b11, rfl, HB⟩ := hcut
                            have HS := Lib.hid (HS.out.put HB.out.1 HB.out.2.2 HB.out.2.1)
                            clear HB
                            obtain ⟨wa5, hwa⟩ : ∃ x, x = wc := ⟨_, rfl⟩
                            subst hwa
                            go_upto_region 19 with fail
                            go_cut [] (fun wx => Hid (Blk wx b11 33 (In.mk x9.op 0 x9.ad x9.ix x9.dt x9.to x9.cf).cs ∧ Only [b11] wa5 wx))
                            case first =>
                              have e2 := (HS.out.at_ (b := b11) (x := x9) (by simp)).cell 1
                              have g2 := (HS.out.at_ (b := b11) (x := x9) (by simp)).frozen 1
                              simp only [List.getElem?_toArray, List.getElem?_cons_succ, List.getElem?_cons_zero] at e2
                              go_wp2_with fail
                              go_meet
                              exact Lib.hid ⟨blk_sz (HS.out.at_ (b := b11) (x := x9) (by simp)) _, (Only.refl _ _).set1 (by simp) 1 _⟩
                            case rest =>
                              have HS := Lib.hid (HS.out.set_ (l1 := []) hcut.out.1 hcut.out.2)
                              clear hcut
                              obtain ⟨x11, hx11⟩ : ∃ x, x = (In.mk x9.op 0 x9.ad x9.ix x9.dt x9.to x9.cf) := ⟨_, rfl⟩
                              have HS := Lib.hid (show StL wo _ [(b11, x11), (b7, x7), (b8, x8), (b9, x9), (b10, x10)] from hx11 ▸ HS.out)
                              have HE_x11 := Lib.hid hx11
                              clear hx11
                              obtain ⟨wa6, hwa⟩ : ∃ x, x = wc := ⟨_, rfl⟩
                              subst hwa
                              go_upto_region 20 with fail
                              go_cut [] (fun wx => Hid (Blk wx b11 33 (In.mk x11.op x11.sz x11.ad false x11.dt x11.to x11.cf).cs ∧ Only [b11] wa6 wx))
                              case first =>
                                have e2 := (HS.out.at_ (b := b11) (x := x11) (by simp)).cell 3
                                have g2 := (HS.out.at_ (b := b11) (x := x11) (by simp)).frozen 3
                                simp only [List.getElem?_toArray, List.getElem?_cons_succ, List.getElem?_cons_zero] at e2
                                go_wp2_with fail
                                go_meet
                                exact Lib.hid ⟨blk_ix (HS.out.at_ (b := b11) (x := x11) (by simp)) _, (Only.refl _ _).set1 (by simp) 3 _⟩
                              case rest =>
                                have HS := Lib.hid (HS.out.set_ (l1 := []) hcut.out.1 hcut.out.2)
                                clear hcut
                                obtain ⟨x12, hx12⟩ : ∃ x, x = (In.mk x11.op x11.sz x11.ad false x11.dt x11.to x11.cf) := ⟨_, rfl⟩
                                have HS := Lib.hid (show StL wo _ [(b11, x12), (b7, x7), (b8, x8), (b9, x9), (b10, x10)] from hx12 ▸ HS.out)
                                have HE_x12 := Lib.hid hx12
                                clear hx12
                                obtain ⟨wa7, hwa⟩ : ∃ x, x = wc := ⟨_, rfl⟩
                                subst hwa
                                go_upto_region 21 with fail
                                go_cut [12] (fun v wx => ∃ b, v = .pointer (some ⟨b, 0, none⟩) ∧ Hid (Blk wx b 33 x12.cs ∧ Only [] wa7 wx ∧ wa7.heap.size ≤ b))
                                case first =>
                                  go_wp2_with (first
                                    | (refine wpList_ld 33 x12 b11 0 _ rfl (.inl rfl) rfl rfl (Blk.rng (HS.out.at_ (b := b11) (x := x12) (by simp))) ?_)
                                    | (refine wpList_st 33 x12.cs.toList wa7.heap.size 0 _ _ rfl (by kernel_rfl) rfl rfl rfl rfl (Blk.new wa7 33 (In.only 0).cs) (Nat.le_of_ble_eq_true rfl) ?_; intro w3 hB3 hO3))
                                  go_meet
                                  exact ⟨_, rfl, Lib.hid ⟨blk_setL (x := x12) (y := In.only 0) hB3, ((Only.refl [] wa7).alloc _).trans' hO3 (by intro z hz hlt; simp at hz; omega), Nat.le_refl _⟩⟩
                                case rest =>
                                  obtain ⟨b12, rfl, HB⟩ := hcut
                                  have HS := Lib.hid (HS.out.put HB.out.1 HB.out.2.2 HB.out.2.1)
                                  clear HB
                                  obtain ⟨wa8, hwa⟩ : ∃ x, x = wc := ⟨_, rfl⟩
                                  subst hwa
                                  go_upto_region 22 with fail
                                  go_cut [] (fun wx => Hid (Blk wx b12 33 (In.mk x12.op x12.sz x12.ad x12.ix wd x12.to x12.cf).cs ∧ Only [b12] wa8 wx))
                                  case first =>
                                    have e1 := HwW.out _ (HM.out.call HS.out.own).ws
                                    have g1 := (HM.out.call HS.out.own).ws.frozen i
                                    have e2 := (HS.out.at_ (b := b12) (x := x12) (by simp)).cell 4
                                    have g2 := (HS.out.at_ (b := b12) (x := x12) (by simp)).frozen 4
                                    simp only [List.getElem?_toArray, List.getElem?_cons_succ, List.getElem?_cons_zero] at e2
                                    go_wp2_with fail
                                    go_meet
                                    exact Lib.hid ⟨blk_dt (HS.out.at_ (b := b12) (x := x12) (by simp)) _, (Only.refl _ _).set1 (by simp) 4 _⟩
                                  case rest =>
                                    have HS := Lib.hid (HS.out.set_ (l1 := []) hcut.out.1 hcut.out.2)
                                    clear hcut
                                    obtain ⟨x13, hx13⟩ : ∃ x, x = (In.mk x12.op x12.sz x12.ad x12.ix wd x12.to x12.cf) := ⟨_, rfl⟩
                                    have HS := Lib.hid (show StL wo _ [(b12, x13), (b11, x12), (b7, x7), (b8, x8), (b9, x9), (b10, x10)] from hx13 ▸ HS.out)
                                    have HE_x13 := Lib.hid hx13
                                    clear hx13
                                    obtain ⟨wa9, hwa⟩ : ∃ x, x = wc := ⟨_, rfl⟩
                                    subst hwa
                                    go_upto_region 23 with fail
                                    go_cut [13] (fun v wx => ∃ b, v = .pointer (some ⟨b, 0, none⟩) ∧ Hid (Blk wx b 33 (In.mk op 0 0 false 0 0 ⟨i, nm, 0, 0, false, 0, 0, 0, false, false, 0, false⟩).cs ∧ Only [] wa9 wx ∧ wa9.heap.size ≤ b))
                                    case first =>
                                      have e1 := HwN.out _ (HM.out.call HS.out.own).ns
                                      have g1 := (HM.out.call HS.out.own).ns.frozen j
                                      go_wp2_with (first
                                        | (refine wpList_st 33 (In.mk op 0 0 false 0 0 ⟨i, nm, 0, 0, false, 0, 0, 0, false, false, 0, false⟩).cs.toList wa9.heap.size 0 _ _ rfl (by kernel_rfl) rfl rfl rfl rfl (Blk.new wa9 33 (In.only 0).cs) (Nat.le_of_ble_eq_true rfl) ?_; intro w3 hB3 hO3))
                                      go_meet
                                      exact ⟨_, rfl, Lib.hid ⟨blk_setL (x := (In.mk op 0 0 false 0 0 ⟨i, nm, 0, 0, false, 0, 0, 0, false, false, 0, false⟩)) (y := In.only 0) hB3, ((Only.refl [] wa9).alloc _).trans' hO3 (by intro z hz hlt; simp at hz; omega), Nat.le_refl _⟩⟩
                                    case rest =>
                                      obtain ⟨b13, rfl, HB⟩ := hcut
                                      have HS := Lib.hid (HS.out.put HB.out.1 HB.out.2.2 HB.out.2.1)
                                      clear HB
                                      obtain ⟨x14, hx14⟩ : ∃ x, x = (In.mk op 0 0 false 0 0 ⟨i, nm, 0, 0, false, 0, 0, 0, false, false, 0, false⟩) := ⟨_, rfl⟩
                                      have HS := Lib.hid (show StL wo _ [(b13, x14), (b12, x13), (b11, x12), (b7, x7), (b8, x8), (b9, x9), (b10, x10)] from hx14 ▸ HS.out)
                                      have HE_x14 := Lib.hid hx14
                                      clear hx14
                                      obtain ⟨wa10, hwa⟩ : ∃ x, x = wc := ⟨_, rfl⟩
                                      subst hwa
                                      have HF : Hid (∀ x ∈ [x7, x8, x9, x10, x12, x13, x14], x.Fits) := Lib.hid (by
                                        have e0 := HX0.out; have e7 := HE_x7.out; have e8 := HE_x8.out; have e9 := HE_x9.out; have e10 := HE_x10.out; have e11 := HE_x11.out; have e12 := HE_x12.out; have e13 := HE_x13.out; have e14 := HE_x14.out
                                        subst e0 e7 e8 e9 e10 e11 e12 e13 e14
                                        have z0 : (0 : Int) ≤ 0 ∧ (0 : Int) < 4294967296 := by decide
                                        intro x hx
                                        simp only [List.mem_cons, List.not_mem_nil, or_false] at hx
                                        rcases hx with rfl | rfl | rfl | rfl | rfl | rfl | rfl
                                        · exact ⟨hwd, z0, Cf.zero_fits⟩
                                        · exact ⟨z0, hwd, Cf.zero_fits⟩
                                        · exact ⟨z0, z0, Cf.zero_fits⟩
                                        · exact ⟨z0, z0, Cf.zero_fits⟩
                                        · exact ⟨z0, z0, Cf.zero_fits⟩
                                        · exact ⟨z0, hwd, Cf.zero_fits⟩
                                        · exact ⟨z0, z0, Cf.fits0 rfl rfl⟩)
                                      clear HE_x7 HE_x8 HE_x9 HE_x10 HE_x11 HE_x12 HE_x13 HE_x14 HX0 HwW HwN
                                      go_upto_region 24 with fail
                                      go_cut [117] (fun v wx => v = .bool false ∧ Hid (Only [] wo wx))
                                      case first =>
                                          have r7 := Lib.hid (Blk.rng (HS.out.at_ (b := b7) (x := x7) (by simp)))
                                          have r8 := Lib.hid (Blk.rng (HS.out.at_ (b := b8) (x := x8) (by simp)))
                                          have r9 := Lib.hid (Blk.rng (HS.out.at_ (b := b9) (x := x9) (by simp)))
                                          have r10 := Lib.hid (Blk.rng (HS.out.at_ (b := b10) (x := x10) (by simp)))
                                          have r11 := Lib.hid (Blk.rng (HS.out.at_ (b := b11) (x := x12) (by simp)))
                                          have r12 := Lib.hid (Blk.rng (HS.out.at_ (b := b12) (x := x13) (by simp)))
                                          have r13 := Lib.hid (Blk.rng (HS.out.at_ (b := b13) (x := x14) (by simp)))
                                          refine wp_region_lit ?_
                                          refine wpList_ld 33 x7 b7 0 (.tmp 7) rfl (.inl rfl) rfl rfl r7.out ?_
                                          simp only [Act.put, List.setIfInBounds_toArray, List.set_cons_succ, List.set_cons_zero]
                                          refine wpList_ld 33 x8 b8 0 (.tmp 8) rfl (.inl rfl) rfl rfl r8.out ?_
                                          simp only [Act.put, List.setIfInBounds_toArray, List.set_cons_succ, List.set_cons_zero]
                                          refine wpList_ld 33 x9 b9 0 (.tmp 9) rfl (.inl rfl) rfl rfl r9.out ?_
                                          simp only [Act.put, List.setIfInBounds_toArray, List.set_cons_succ, List.set_cons_zero]
                                          refine wpList_ld 33 x10 b10 0 (.tmp 10) rfl (.inl rfl) rfl rfl r10.out ?_
                                          simp only [Act.put, List.setIfInBounds_toArray, List.set_cons_succ, List.set_cons_zero]
                                          refine wpList_ld 33 x12 b11 0 (.tmp 11) rfl (.inl rfl) rfl rfl r11.out ?_
                                          simp only [Act.put, List.setIfInBounds_toArray, List.set_cons_succ, List.set_cons_zero]
                                          refine wpList_ld 33 x13 b12 0 (.tmp 12) rfl (.inl rfl) rfl rfl r12.out ?_
                                          simp only [Act.put, List.setIfInBounds_toArray, List.set_cons_succ, List.set_cons_zero]
                                          refine wpList_ld 33 x14 b13 0 (.tmp 13) rfl (.inl rfl) rfl rfl r13.out ?_
                                          simp only [Act.put, List.setIfInBounds_toArray, List.set_cons_succ, List.set_cons_zero]
                                          refine wpList_bs7 _ _ _ _ _ _ _ rfl rfl x7 x8 x9 x10 x12 x13 x14 rfl rfl rfl rfl rfl rfl rfl ?_
                                          simp only [Act.put, List.setIfInBounds_toArray, List.set_cons_succ, List.set_cons_zero]
                                          clear r7 r8 r9 r10 r11 r12 r13
                                          have hq0 := (HM.out.call HS.out.own).own
                                          have hq1 := hq0.alloc (.cells (flatI [x7, x8, x9, x10, x12, x13, x14]).toArray 33)
                                          have hq2 := HG.out _ hq1
                                          have hc1 := shows_new [x7, x8, x9, x10, x12, x13, x14] 7 rfl (by decide) (by decide) HF.out _ hq2
                                          refine wpList_shows hc1 (.tmp 97) _ rfl rfl rfl ?_
                                          clear hc1
                                          intro w1 hO1
                                          have HS1 := Lib.hid (HS.out.call (((Only.refl [] _).alloc _).trans hO1))
                                          clear hO1
                                          simp only [Act.put, List.setIfInBounds_toArray, List.set_cons_succ, List.set_cons_zero]
                                          refine wpList_val (.bool false) rfl rfl ?_
                                          simp only [Act.put, List.setIfInBounds_toArray, List.set_cons_succ, List.set_cons_zero]
                                          refine wpList_val (.bool false) rfl rfl ?_
                                          simp only [Act.put, List.setIfInBounds_toArray, List.set_cons_succ, List.set_cons_zero]
                                          refine wpList_ld 33 x13 b12 0 (.tmp 12) rfl (.inl rfl) rfl rfl (Blk.rng (HS1.out.at_ (b := b12) (x := x13) (by simp))) ?_
                                          simp only [Act.put, List.setIfInBounds_toArray, List.set_cons_succ, List.set_cons_zero]
                                          refine wpList_bsI1 _ rfl rfl x13 rfl ?_
                                          simp only [Act.put, List.setIfInBounds_toArray, List.set_cons_succ, List.set_cons_zero]
                                          have hc2 := shows_new [x13] 1 rfl (by decide) (by decide) (fun z hz => HF.out z (by rw [List.mem_singleton.1 hz]; simp)) _ (HG.out _ ((HM.out.call HS1.out.own).own.alloc (.cells (flatI [x13]).toArray 33)))
                                          refine wpList_shows hc2 (.tmp 102) _ rfl rfl rfl ?_
                                          clear hc2
                                          intro w2 hO2
                                          have HS2 := Lib.hid (HS1.out.call (((Only.refl [] _).alloc _).trans hO2))
                                          clear hO2
                                          simp only [Act.put, List.setIfInBounds_toArray, List.set_cons_succ, List.set_cons_zero]
                                          refine wpList_val (.bool false) rfl rfl ?_
                                          simp only [Act.put, List.setIfInBounds_toArray, List.set_cons_succ, List.set_cons_zero]
                                          refine wpList_val (.bool false) rfl rfl ?_
                                          simp only [Act.put, List.setIfInBounds_toArray, List.set_cons_succ, List.set_cons_zero]
                                          refine wpList_val (.bool false) rfl rfl ?_
                                          simp only [Act.put, List.setIfInBounds_toArray, List.set_cons_succ, List.set_cons_zero]
                                          refine wpList_ld 33 x14 b13 0 (.tmp 13) rfl (.inl rfl) rfl rfl (Blk.rng (HS2.out.at_ (b := b13) (x := x14) (by simp))) ?_
                                          simp only [Act.put, List.setIfInBounds_toArray, List.set_cons_succ, List.set_cons_zero]
                                          refine wpList_bsI1 _ rfl rfl x14 rfl ?_
                                          simp only [Act.put, List.setIfInBounds_toArray, List.set_cons_succ, List.set_cons_zero]
                                          have hc3 := shows_new [x14] 1 rfl (by decide) (by decide) (fun z hz => HF.out z (by rw [List.mem_singleton.1 hz]; simp)) _ (HG.out _ ((HM.out.call HS2.out.own).own.alloc (.cells (flatI [x14]).toArray 33)))
                                          refine wpList_shows hc3 (.tmp 108) _ rfl rfl rfl ?_
                                          clear hc3
                                          intro w3 hO3
                                          have HS3 := Lib.hid (HS2.out.call (((Only.refl [] _).alloc _).trans hO3))
                                          clear hO3
                                          simp only [Act.put, List.setIfInBounds_toArray, List.set_cons_succ, List.set_cons_zero]
                                          refine wpList_val (.bool false) rfl rfl ?_
                                          simp only [Act.put, List.setIfInBounds_toArray, List.set_cons_succ, List.set_cons_zero]
                                          refine wpList_val (.bool false) rfl rfl ?_
                                          simp only [Act.put, List.setIfInBounds_toArray, List.set_cons_succ, List.set_cons_zero]
                                          refine wpList_val (.bool false) rfl rfl ?_
                                          simp only [Act.put, List.setIfInBounds_toArray, List.set_cons_succ, List.set_cons_zero]
                                          refine wpList_ld 33 x7 b7 0 (.tmp 7) rfl (.inl rfl) rfl rfl (Blk.rng (HS3.out.at_ (b := b7) (x := x7) (by simp))) ?_
                                          simp only [Act.put, List.setIfInBounds_toArray, List.set_cons_succ, List.set_cons_zero]
                                          refine wpList_bsI1 _ rfl rfl x7 rfl ?_
                                          simp only [Act.put, List.setIfInBounds_toArray, List.set_cons_succ, List.set_cons_zero]
                                          have hc4 := shows_new [x7] 1 rfl (by decide) (by decide) (fun z hz => HF.out z (by rw [List.mem_singleton.1 hz]; simp)) _ (HG.out _ ((HM.out.call HS3.out.own).own.alloc (.cells (flatI [x7]).toArray 33)))
                                          refine wpList_shows hc4 (.tmp 114) _ rfl rfl rfl ?_
                                          clear hc4
                                          intro w4 hO4
                                          have HS4 := Lib.hid (HS3.out.call (((Only.refl [] _).alloc _).trans hO4))
                                          clear hO4
                                          simp only [Act.put, List.setIfInBounds_toArray, List.set_cons_succ, List.set_cons_zero]
                                          refine wpList_val (.bool false) rfl rfl ?_
                                          simp only [Act.put, List.setIfInBounds_toArray, List.set_cons_succ, List.set_cons_zero]
                                          refine wpList_val (.bool false) rfl rfl ?_
                                          simp only [Act.put, List.setIfInBounds_toArray, List.set_cons_succ, List.set_cons_zero]
                                          go_wp2_with fail
                                          go_meet
                                          exact ⟨rfl, Lib.hid HS4.out.own⟩
                                      case rest =>
                                        obtain ⟨rfl, HO⟩ := hcut
                                        go_wp2_with fail
                                        refine ⟨⟨j + 1, by go_num, by omega, Lib.hid (HM.out.call HO.out)⟩, ?_⟩
                                        simp [intOf]
                                        omega
            · have hji : ¬ (j : Int) < 12 := by omega
              go_wp2_with fail
              refine ⟨⟨i + 1, by go_num, by omega, HM⟩, ?_⟩
              simp [intOf]
              omega
        · have hii : ¬ (i : Int) < 7 := by omega
          go_wp2_with fail
          refine ⟨⟨op + 1, by go_num, by omega, by omega, HM⟩, ?_⟩
          simp [intOf]
          omega
    · have hki : ¬ op < 12 := hop
      have hTb : Blk (wr.alloc (.cells (psmL.map str).toArray 9)) wr.heap.size 9 (psmL.map str).toArray := Blk.new' rfl rfl
      have hOc := HM.out.own.alloc (.cells (psmL.map str).toArray 9)
      clear HM
      go_wp2_with fail
      generalize wr.heap.size = T at *
      go_loopw [16] (fun i wx => ∃ i' : Nat, i = .int .i64 i' ∧ i' ≤ 23 ∧ Blk wx T 9 (psmL.map str).toArray ∧ Only [] w wx) (fun i _ => 23 - (intOf i).toNat)
      case atStart => exact ⟨0, rfl, by omega, hTb, hOc⟩
      case round =>
        clear hTb hOc
        obtain ⟨i, rfl, hi, hTb, hO⟩ := hrel
        by_cases hil : i < 23
        · have hii : (i : Int) < 23 := by omega
          have ci := hTb.cell i
          rw [List.getElem?_toArray, psmL_at i hil] at ci
          have hlen := psmL_len i hil
          generalize psmL.getD i [] = s at *
          go_wp2_with fail
          go_loopw [18] (fun q wx => ∃ q' : Nat, q = .int .i64 q' ∧ q' ≤ s.length + 1 ∧ Blk wx T 9 (psmL.map str).toArray ∧ Only [] w wx) (fun q _ => s.length + 1 - (intOf q).toNat)
          case atStart => exact ⟨0, rfl, by omega, hTb, hO⟩
          case round =>
            clear hTb hO ci
            obtain ⟨q, rfl, hq, hTb, hO⟩ := hrel
            by_cases hql : q ≤ s.length
            · have hqi : (q : Int) ≤ (s.length : Int) := by omega
              have hq0 : (0 : Int) ≤ (q : Int) := by omega
              have hw1 : IntKind.i64.wrap ((q : Int) + 1) = (q : Int) + 1 := IntWalk.i64_in _ (by omega)
              have hn1 : ((q : Int) + 1).toNat = q + 1 := by omega
              obtain ⟨wq, hwq⟩ : ∃ x, x = wr := ⟨_, rfl⟩
              subst hwq
              go_upto_region 35 with fail
              go_cut [157] (fun v wx => v = .bool false ∧ Only [] wq wx)
              case first =>
                by_cases hlt : q < s.length
                · have hlti : (q : Int) < (s.length : Int) := by omega
                  have hlti1 : (q : Int) + 1 ≤ (s.length : Int) := by omega
                  have hq1 : (0 : Int) ≤ (q : Int) + 1 := by omega
                  refine wp_region_D (Only [] wq) (by kernel_rfl) (by kernel_rfl) ((Only.refl _ _).drew) ?_
                  repeat (first
                    | (refine wpT_step ?_ (stD rfl (fun w' hD => ?_)) ?_
                       rotate_left
                       · go_simp
                         first
                           | (rw [if_neg (by simp; omega)]; refine ⟨?_, hD⟩; rfl)
                           | (refine ⟨?_, hD⟩; rfl)
                           | (change Calls _ _ _ _ _; refine (preads_walk _ (by simp; omega) _ (HG.out _ (hO.trans hD))).mono ?_; rintro e w'' ⟨rfl, h⟩; refine ⟨?_, hD.trans h⟩; rfl)
                       simp only [Act.put, List.setIfInBounds_toArray, List.set_cons_succ, List.set_cons_zero, Nat.reduceAdd])
                    | (refine wpT_step _ (stD_skip rfl) ?_
                       simp only [Act.put, List.setIfInBounds_toArray, List.set_cons_succ, List.set_cons_zero, Nat.reduceAdd]))
                  refine wpT_nil ?_
                  intro w6 hD
                  go_wp2_with fail
                  go_meet
                  exact ⟨rfl, hD⟩
                · have hlti : ¬ (q : Int) < (s.length : Int) := by omega
                  refine wp_region_D (Only [] wq) (by kernel_rfl) (by kernel_rfl) ((Only.refl _ _).drew) ?_
                  repeat (first
                    | (refine wpT_step ?_ (stD rfl (fun w' hD => ?_)) ?_
                       rotate_left
                       · go_simp
                         first
                           | (rw [if_neg (by simp; omega)]; refine ⟨?_, hD⟩; rfl)
                           | (refine ⟨?_, hD⟩; rfl)
                           | (change Calls _ _ _ _ _; refine (preads_walk _ (by simp; omega) _ (HG.out _ (hO.trans hD))).mono ?_; rintro e w'' ⟨rfl, h⟩; refine ⟨?_, hD.trans h⟩; rfl)
                       simp only [Act.put, List.setIfInBounds_toArray, List.set_cons_succ, List.set_cons_zero, Nat.reduceAdd])
                    | (refine wpT_step _ (stD_skip rfl) ?_
                       simp only [Act.put, List.setIfInBounds_toArray, List.set_cons_succ, List.set_cons_zero, Nat.reduceAdd]))
                  refine wpT_nil ?_
                  intro w6 hD
                  go_wp2_with fail
                  go_meet
                  exact ⟨rfl, hD⟩
              case rest =>
                obtain ⟨rfl, hO2⟩ := hcut
                have hTb2 := hO2.blk hTb (by simp)
                have hOw := hO.trans hO2
                clear hTb hO hO2
                go_wp2_with fail
                go_loopw [19] (fun m wx => ∃ m' : Nat, m = .int .i64 m' ∧ m' ≤ 7 ∧ Blk wx T 9 (psmL.map str).toArray ∧ Only [] w wx) (fun m _ => 7 - (intOf m).toNat)
                case atStart => exact ⟨0, rfl, by omega, hTb2, hOw⟩
                case round =>
                  clear hTb2 hOw
                  obtain ⟨m, rfl, hm, hTb, hO⟩ := hrel
                  by_cases hml : m < 7
                  · have hmi : (m : Int) < 7 := by omega
                    have hm0 : (0 : Int) ≤ (m : Int) := by omega
                    have hm1 : (m : Int) + 1 ≤ 7 := by omega
                    have hm2 : (m : Int) ≤ (m : Int) + 1 := by omega
                    have hwm : IntKind.i64.wrap ((m : Int) + 1) = (m : Int) + 1 := IntWalk.i64_in _ (by omega)
                    have hnm : ((m : Int) + 1).toNat = m + 1 := by omega
                    have hcm := some_at m hml
                    generalize psmS.getD m 0 = cm at *
                    go_wp2_with fail
                    refine wp_region_D (Only [] wr) (by kernel_rfl) (by kernel_rfl) ((Only.refl _ _).drew) ?_
                    repeat (first
                      | (refine wpT_step ?_ (stD rfl (fun w' hD => ?_)) ?_
                         rotate_left
                         · go_simp
                           first
                             | (rw [if_neg (by simp; omega)]; refine ⟨?_, hD⟩; rfl)
                             | (refine ⟨?_, hD⟩; rfl)
                             | (change Calls _ _ _ _ _; refine (preads_walk _ (by simp; omega) _ (HG.out _ (hO.trans hD))).mono ?_; rintro e w'' ⟨rfl, h⟩; refine ⟨?_, hD.trans h⟩; rfl)
                         simp only [Act.put, List.setIfInBounds_toArray, List.set_cons_succ, List.set_cons_zero, Nat.reduceAdd])
                      | (refine wpT_step _ (stD_skip rfl) ?_
                         simp only [Act.put, List.setIfInBounds_toArray, List.set_cons_succ, List.set_cons_zero, Nat.reduceAdd]))
                    refine wpT_nil ?_
                    intro w6 hD
                    go_wp2_with fail
                    refine ⟨⟨m + 1, by go_num, by omega, hD.blk hTb (by simp), hO.trans hD⟩, ?_⟩
                    simp [intOf]
                    omega
                  · have hmi : ¬ (m : Int) < 7 := by omega
                    go_wp2_with fail
                    refine ⟨⟨q + 1, by go_num, by omega, hTb, hO⟩, ?_⟩
                    simp [intOf]
                    omega
            · have hqi : ¬ (q : Int) ≤ (s.length : Int) := by omega
              go_wp2_with fail
              refine ⟨⟨i + 1, by go_num, by omega, hTb, hO⟩, ?_⟩
              simp [intOf]
              omega
        · have hii : ¬ (i : Int) < 23 := by omega
          clear hTb
          go_wp2_with (first
            | (go_at_call 13; refine (HZ.out _ hO).mono ?_; rintro e w9 ⟨rfl, hO9⟩)
            | (go_at_call 8; refine (HA.out _ (hO.trans hO9)).mono ?_; rintro e w10 ⟨rfl, hO10⟩))
          go_returns
          exact ⟨rfl, (hO.trans hO9).trans hO10⟩
end Go.Proofs.YtagmoehjcgjnjaaGreatDoor
