/- Read of package trace, walked: the loop over its lines. Conditions: the listed variables are laid; the text is short. -/
import Derived.Test.YtojleleohhaigaaDoorTrX
import Derived.Test.YtojleleohhaigaaDoorStageI
import Derived.Test.YtojleleohhaigaaDoorTrG
namespace Go.Proofs.YtojleleohhaigaaDoor
open Go Go.RowKit
attribute [local go_sem] Oper.semAt_some

set_option maxHeartbeats 400000 in
theorem lines_any (s : List UInt8) (w : World) : Calls Tryd.prog 26 #[str s] w fun e w' => e = .returned (.func (.func 51) #[] #[.pointer (some ⟨w.heap.size, 0, none⟩)]) ∧ w' = w.alloc (.cells #[str s] 9) := by
  go_enter Tryd.func26, Tryd.ntmps26
  go_wp2
  go_returns
  exact ⟨rfl, rfl⟩

theorem trim_any (x : List UInt8) (h : x.length ≤ 1000000) (w : World) : Calls Tryd.prog 28 #[str x, .string ⟨#[10]⟩] w fun e w' => e = .returned (str (Lib.trimSuffix x [10])) ∧ w' = w := by
  refine (Tryd.strings_TrimSuffix ⟨x.toArray⟩ ⟨#[10]⟩ w (by simp [ByteArray.size]; omega)).mono ?_
  rintro e w' ⟨rfl, rfl⟩
  exact ⟨rfl, rfl⟩
theorem split_any (y : List UInt8) (h : y.length ≤ 1000000) (w : World) (hg : Gl w) : Calls Tryd.prog 27 #[str y, .string ⟨#[32]⟩] w fun e w' => e = .returned (.slice (some ⟨w.heap.size, 0, none⟩) (wordsOf y).length (wordsOf y).length) ∧ w' = w.alloc (.cells ((wordsOf y).map str).toArray 9) := by
  obtain ⟨m, hm⟩ := hg.ml
  refine (Tryd.strings_Split ⟨y.toArray⟩ ⟨#[32]⟩ m w (by simp [ByteArray.size]; omega) hm (by decide)).mono ?_
  rintro e w' ⟨rfl, rfl⟩
  rw [wordsOf_length, ← wordsB_str]
  exact ⟨rfl, rfl⟩
theorem iByte : IByte := Tryd.strings_IndexByte

def readOk (s : List UInt8) : Bool := okT (evsOf s) && showT (evsOf s) == s
def readL (s : List UInt8) : List Ev := if readOk s then evsOf s else []
def readE (s : List UInt8) : Int := if readOk s then 0 else 8

theorem ev_put {W : World} {v : Value} {l : List Ev} {D : Nat} {ds : Option (List Deferred)} {o : Obj} (h : EvS W v l) (hD : W.heap[D]? = some (.deferred ds)) : EvS (W.putObj D o) v l := by
  rcases h with h | ⟨b, off, c, rfl, h0, hlc, hb, hE⟩
  · exact .inl h
  · refine .inr ⟨b, off, c, rfl, h0, hlc, by simpa using hb, fun j x hj => ?_⟩
    have hx := hE j x hj
    have hne : b ≠ D := by
      rintro rfl
      have := hx.c0
      unfold World.cell? at this
      simp [hD] at this
    have key : ∀ k, (W.putObj D o).cell? ⟨b, k, none⟩ = W.cell? ⟨b, k, none⟩ := fun k => World.cell?_of_block (World.putObj_heap_other hne)
    exact ⟨(key _).trans hx.c0, (key _).trans hx.c1, (key _).trans hx.c2, (key _).trans hx.c3, (key _).trans hx.c4⟩
/-- The stages of 'l = append(l, r.event())'. -/
def RdD (w0 W2 : World) (rb : Nat) (v : Value) (ev : Ev) (pre : List Ev) : Nat → Value → Value → Value → World → Prop
  | 0, _, _, _, x => Only [] W2 x
  | 1, s, _, _, x => s = ev.agg ∧ Only [rb] W2 x
  | 2, _, s, _, x => ∃ g, s = .slice (some ⟨g, 0, none⟩) 1 1 ∧ Blk x g 44 ev.cs ∧ Only [rb] W2 x
  | 3, _, _, s, x => x.ownsRow w0.heap.size 44 5 s (pre ++ [ev]).length (flat (pre ++ [ev])) ∧ Only (rb :: v.ownBlock.toList) W2 x
  | 4, _, _, _, x => ∃ s, x.ownsRow w0.heap.size 44 5 s (pre ++ [ev]).length (flat (pre ++ [ev])) ∧ Blk x w0.heap.size 24 #[s] ∧ Only (w0.heap.size :: rb :: v.ownBlock.toList) W2 x
  | _, _, _, _, _ => False
theorem RdD.only {w0 W2 : World} {rb : Nat} {v : Value} {ev : Ev} {pre : List Ev} {k : Nat} {s1 s2 s3 : Value} {x : World} (h : RdD w0 W2 rb v ev pre k s1 s2 s3 x) (hk : k ≤ 2) : Only [rb] W2 x := by
  match k, h, hk with
  | 0, h, _ => exact Only.mono h (by simp)
  | 1, h, _ =>
    obtain ⟨-, h⟩ := h
    exact h
  | 2, h, _ =>
    obtain ⟨g, -, -, h⟩ := h
    exact h

/-- The frame in a round, behind 'r := ..'. -/
def RdAct (s x : List UInt8) (Lb rb0 : Nat) (s17 s18 s19 s20 s21 : Value) : Act := { tmps := #[str s, undef, .pointer (some ⟨Lb, 0, none⟩), .int .i64 0, str x, .pointer (some ⟨rb0 + 1, 0, none⟩), undef, undef, str s, .func (.func 51) #[] #[.pointer (some ⟨Lb + 1, 0, none⟩)], str x, str x, str (Lib.trimSuffix x [10]), .slice (some ⟨rb0, 0, none⟩) (wordsOf (Lib.trimSuffix x [10])).length (wordsOf (Lib.trimSuffix x [10])).length, .agg #[.slice (some ⟨rb0, 0, none⟩) (wordsOf (Lib.trimSuffix x [10])).length (wordsOf (Lib.trimSuffix x [10])).length],   .agg #[.slice (some ⟨rb0, 0, none⟩) (wordsOf (Lib.trimSuffix x [10])).length (wordsOf (Lib.trimSuffix x [10])).length], .pointer (some ⟨rb0 + 1, 0, none⟩), s17, s18, s19, s20, s21, undef, undef, undef, undef, undef, undef, undef, undef, undef, undef, undef, undef, undef], defers := [] }
/-- What stands within 'l = append(l, r.event())'. -/
def RdI (w0 W2 : World) (s x : List UInt8) (rb0 : Nat) (v : Value) (ev : Ev) (pre : List Ev) (L : Array Bool) (a : Act) (xw : World) : Prop :=
  ∃ s17 s18 s19 s20 s21, a = RdAct s x w0.heap.size rb0 s17 s18 s19 s20 s21 ∧ (L.getD 0 false = true → s17 = v) ∧ (L.getD 1 false = true → s18 = .pointer (some ⟨rb0 + 1, 0, none⟩)) ∧ RdD w0 W2 (rb0 + 1) v ev pre (cnt [2, 3, 4, 5] L) s19 s20 s21 xw

set_option maxRecDepth 100000 in
set_option maxHeartbeats 8000000 in
theorem read_any (s : List UInt8) (hs : s.length ≤ 300000) (w : World) (hg : Gl w) :
    Calls Tryd.prog 9 #[str s] w fun e w' => ∃ v, e = .returned (.tuple #[v, .int .i64 (readE s)]) ∧ EvS w' v (readL s) ∧ Only [] w w' := by
  refine (callsIn_wide (n := 1)).1 (callsIn_of_wp_marks (F := Fence.wide) (n := 1) Tryd.func9 rfl trivial ?_)
  simp only [Tryd.ntmps9, List.size_toArray, List.length_cons, List.length_nil, Nat.reduceAdd, Nat.reduceSub, Array.replicate_succ, Array.replicate_zero, List.push_toArray, List.append_toArray, List.nil_append, List.cons_append]
  refine wpIn_wide.2 ?_
  go_wp2_with (go_at_call 26; refine (lines_any s _).mono ?_; rintro e w' ⟨rfl, rfl⟩)
  have hL0 : Blk ((w.alloc (.cells #[.slice none 0 0] 24)).alloc (.cells #[str s] 9)) w.heap.size 24 #[.slice none 0 0] := (Blk.new _ _ _).alloc _
  have hB0 : Blk ((w.alloc (.cells #[.slice none 0 0] 24)).alloc (.cells #[str s] 9)) (w.heap.size + 1) 9 #[str s] := Blk.new' rfl (by simp)
  have hO0 : Only [] w ((w.alloc (.cells #[.slice none 0 0] 24)).alloc (.cells #[str s] 9)) := ((Only.refl _ _).alloc _).alloc _
  have hz0 : ((w.alloc (.cells #[.slice none 0 0] 24)).alloc (.cells #[str s] 9)).heap.size = w.heap.size + 2 := by simp
  generalize (w.alloc (.cells #[.slice none 0 0] 24)).alloc (.cells #[str s] 9) = W0 at *
  refine wp_lines iByte (w.heap.size + 1) s (by omega) rfl rfl hB0 (ReadI w (w.heap.size + 1)) ?hset ?hdrew ?halloc ?hput ?h0
    (fun x => { tmps := #[str s, undef, .pointer (some ⟨w.heap.size, 0, none⟩), .int .i64 0, str x, undef, undef, undef, str s, .func (.func 51) #[] #[.pointer (some ⟨w.heap.size + 1, 0, none⟩)], str x, undef, undef, undef, undef, undef, undef, undef, undef, undef, undef, undef, undef, undef, undef, undef, undef, undef, undef, undef, undef, undef, undef, undef, undef], defers := [] }) ?assign ?body ?done
  case hset =>
    rintro pre W u ⟨v, hb, hr, ho, u', hu⟩
    have hs1 : Only [w.heap.size + 1] W (W.setCell ⟨w.heap.size + 1, 0, none⟩ u) := (Only.refl _ _).set1 (by simp) 0 _
    refine ⟨v, hs1.blk hb (by simp), own_only hr hs1 ?_, ho.trans' hs1 (by intro z hz hlt; simp at hz; omega), u, hu.set_ 0 u⟩
    intro g hg
    simpa using ReadI.row_ne hr hu (by decide) g hg
  case hdrew =>
    intro pre W h
    exact readI_only h ((Only.refl [] _).drew) (by simp)
  case halloc =>
    intro pre W o h
    exact readI_only h ((Only.refl [] _).alloc _) (by simp)
  case hput =>
    rintro pre W r o o' ⟨v, hb, hr, ho, u, hu⟩ hrs hro hoc
    have nb : ∀ {g : Nat} {t : TypeId} {cs : Array Value}, Blk W g t cs → g ≠ r := by
      rintro g t cs hgb rfl
      have : W.heap[g]? = some (.cells cs t (0, 0)) := hgb
      rw [this] at hro
      injection hro with hro
      subst hro
      cases hoc
    have kb : ∀ {g : Nat} {t : TypeId} {cs : Array Value}, Blk W g t cs → Blk (W.putObj r o') g t cs := fun hgb => (World.putObj_heap_other (nb hgb)).trans hgb
    refine ⟨v, kb hb, ⟨hr.1, hr.2.imp id ?_⟩, only_put ho (by omega), u, kb hu⟩
    rintro ⟨g', cap, cur, rfl, hbb, hgg, rest⟩
    exact ⟨g', cap, cur, rfl, hbb, kb hgg, rest⟩
  case h0 => exact ⟨_, hL0, ⟨rfl, .inl ⟨rfl, rfl⟩⟩, hO0, _, hB0⟩
  case assign =>
    intro l x W K hK
    gi_wp2
    exact hK
  case body =>
    intro lr pre x post W hx hI hBW
    obtain ⟨v, hbL, hrow, ho, u, hbB⟩ := hI
    have hls := linesP_short _ s (Nat.le_refl _)
    have hxl : x.length ≤ 300000 := Nat.le_trans (hls.2 x (by rw [hx]; simp)) hs
    have hyl : (Lib.trimSuffix x [10]).length ≤ 1000000 := Nat.le_trans (trim_len x) (by omega)
    have hpre : pre.length + 1 ≤ 300000 := by
      have := hls.1
      rw [hx] at this
      simp at this
      omega
    have hgW : Gl W := hg.only ho
    have HT := Lib.hid (trim_any x (by omega))
    have HSp := Lib.hid (fun W' (h : Only [] W W') => split_any (Lib.trimSuffix x [10]) hyl W' (hgW.only h))
    gi_wp2_with (first
      | (refine ⟨trivial, ?_⟩; gi_at_call 28; refine (CallsIn.inRound lr (callsIn_wide.2 (HT.out _))).mono ?_; rintro e w' ⟨rfl, rfl⟩)
      | (refine ⟨trivial, ?_⟩; gi_at_call 27; refine (CallsIn.inRound lr (callsIn_wide.2 (HSp.out _ (Only.refl _ _)))).mono ?_; rintro e w' ⟨rfl, rfl⟩))
    have hwl := lineW_short (show x.length ≤ 900000 by omega)
    have hwpos : 0 < (lineW x).length := by
      unfold lineW
      rw [wordsOf_length]
      omega
    have hS0 : Blk (w'.alloc (.cells ((lineW x).map str).toArray 9)) w'.heap.size 9 ((lineW x).map str).toArray := Blk.new _ _ _
    have hO2 : Only [] w' ((w'.alloc (.cells ((lineW x).map str).toArray 9)).alloc (.cells #[.slice (some ⟨w'.heap.size, 0, none⟩) (lineW x).length (lineW x).length] 73)) := ((Only.refl _ _).alloc _).alloc _
    have hRd : RdW ((w'.alloc (.cells ((lineW x).map str).toArray 9)).alloc (.cells #[.slice (some ⟨w'.heap.size, 0, none⟩) (lineW x).length (lineW x).length] 73)) (w'.heap.size + 1) (lineW x) :=
      ⟨_, Blk.new' rfl (by simp), .inr ⟨w'.heap.size, 0, (lineW x).length, rfl, hwpos, Nat.le_refl _, by simp; omega, fun j l hj => by rw [Nat.zero_add]; exact blk_words (hS0.alloc _) j l hj⟩, fun _ b hb => by simp [Value.ownBlock] at hb; omega⟩
    have hsz2 : ((w'.alloc (.cells ((lineW x).map str).toArray 9)).alloc (.cells #[.slice (some ⟨w'.heap.size, 0, none⟩) (lineW x).length (lineW x).length] 73)).heap.size = w'.heap.size + 2 := by simp
    change Code.wpIn (Fence.wide.inRound lr) 1 Tryd.prog _ _ _ ((w'.alloc (.cells ((lineW x).map str).toArray 9)).alloc (.cells #[.slice (some ⟨w'.heap.size, 0, none⟩) (lineW x).length (lineW x).length] 73))
    generalize (w'.alloc (.cells ((lineW x).map str).toArray 9)).alloc (.cells #[.slice (some ⟨w'.heap.size, 0, none⟩) (lineW x).length (lineW x).length] 73) = W2 at *
    clear hS0
    have hg2 : Gl W2 := hgW.only hO2
    have hrb8 : 8 ≤ w'.heap.size + 1 := by have := hgW.lt; omega
    have HEv := Lib.hid (fun Wd (h : Only [] W2 Wd) => event_any (w'.heap.size + 1) (lineW x) hwl.1 hwl.2 Wd (hg2.only h) hrb8 (hRd.only h (by simp) (by simp)))
    have hL2 := hO2.blk hbL (by simp)
    have c2 : W2.cell? ⟨w.heap.size, 0, none⟩ = some v := hL2.cell 0
    have f2 := hL2.frozen 0
    have HI := Lib.hid (And.intro hbL (And.intro hrow (And.intro ho hbB)))
    have hwL : w.heap.size < w'.heap.size := hbL.lt
    have hrbL : w.heap.size ≠ w'.heap.size + 1 := by omega
    have hrow2 := own_only0 hrow hO2
    have hnl := ReadI.row_ne hrow hbL (by decide)
    have hnr : ∀ r, v.ownBlock = some r → r ≠ w'.heap.size + 1 := by
      intro r hr
      rcases hrow.2 with ⟨rfl, -⟩ | ⟨g', cap, cur, rfl, -, hgg, -⟩
      · simp [Value.ownBlock] at hr
      · simp [Value.ownBlock] at hr
        subst hr
        have := Blk.lt hgg
        omega
    clear hrow hbL hbB hRd HT HSp hg2 hgW hwl hwpos hx hls
    refine wpIn_region_keeps lr 1 (RdI w W2 s x w'.heap.size v (evOf (lineW x)) (pre.map fun x => evOf (lineW x)))
      (by rintro ⟨a, w, h⟩; exact h) (by kernel_rfl) (by kernel_rfl) (by kernel_rfl) (by decide) ?keeps ⟨undef, undef, undef, undef, undef, rfl, ?_, ?_, ?_⟩ ?fin
    case keeps =>
      rintro i o L a xw hU ⟨s17, s18, s19, s20, s21, rfl, h17, h18, hD⟩
      have hlt := hU.lt
      have hset : ∀ j, j ≠ i → (L.setIfInBounds i true).getD j false = L.getD j false := fun j hj => getD_set_ne hj
      have hcs := hU.at_
      match i, hlt with
      | 0, _ =>
        have hk : cnt [2, 3, 4, 5] L ≤ 2 := by
          have h4 := hU.later (n := 14) (e := 4) (by kernel_rfl)
          have h5 := hU.later (n := 14) (e := 5) (by kernel_rfl)
          rw [show [2, 3, 4, 5] = [2, 3] ++ [4, 5] from rfl, cnt_app, cnt_false (E := [4, 5]) (by intro e he; simp only [List.mem_cons, List.not_mem_nil, or_false] at he; rcases he with rfl | rfl <;> assumption)]
          exact List.length_filter_le _ _
        have hO := hD.only hk
        have hb := hO.blk hL2 (by simpa using hrbL)
        have cx : xw.cell? ⟨w.heap.size, 0, none⟩ = some v := hb.cell 0
        simp at hcs
        subst hcs
        unfold Oper.wp RdAct
        go_simp
        refine ⟨v, s18, s19, s20, s21, rfl, fun _ => rfl, fun h => h18 (by rwa [hset 1 (by decide)] at h), ?_⟩
        rw [cnt_set (by decide)]
        exact hD
      | 1, _ =>
        simp at hcs
        subst hcs
        unfold Oper.wp RdAct
        go_simp
        refine ⟨s17, _, s19, s20, s21, rfl, fun h => h17 (by rwa [hset 0 (by decide)] at h), fun _ => rfl, ?_⟩
        rw [cnt_set (by decide)]
        exact hD
      | 2, _ =>
        obtain ⟨k0, k1⟩ := hU.cnt (n := 14) [] [3, 4, 5] (by kernel_rfl) (by kernel_rfl) (by decide) (by decide)
        simp only [List.nil_append, List.length_nil, Nat.zero_add] at k0 k1
        obtain rfl := h18 (hU.before (n := 14) (e := 1) (by kernel_rfl))
        rw [k0] at hD
        simp at hcs
        subst hcs
        unfold Oper.wp RdAct
        go_simp
        refine (HEv.out xw hD).mono ?_
        rintro e w5 ⟨rfl, hO5⟩
        refine ⟨s17, _, _, s20, s21, rfl, fun h => h17 (by rwa [hset 0 (by decide)] at h), fun _ => rfl, ?_⟩
        rw [k1]
        exact ⟨rfl, (Only.mono hD (by simp)).trans hO5⟩
      | 3, _ =>
        obtain ⟨k0, k1⟩ := hU.cnt (n := 14) [2] [4, 5] (by kernel_rfl) (by kernel_rfl) (by decide) (by decide)
        simp only [List.cons_append, List.nil_append, List.length_cons, List.length_nil, Nat.zero_add, Nat.reduceAdd] at k0 k1
        rw [k0] at hD
        obtain ⟨rfl, hD⟩ := hD
        simp at hcs
        subst hcs
        unfold Oper.wp RdAct
        go_simp
        refine ⟨s17, s18, _, _, s21, rfl, fun h => h17 (by rwa [hset 0 (by decide)] at h), fun h => h18 (by rwa [hset 1 (by decide)] at h), ?_⟩
        rw [k1]
        exact ⟨_, rfl, Blk.new' rfl rfl, hD.alloc _⟩
      | 4, _ =>
        obtain ⟨k0, k1⟩ := hU.cnt (n := 14) [2, 3] [5] (by kernel_rfl) (by kernel_rfl) (by decide) (by decide)
        simp only [List.cons_append, List.nil_append, List.length_cons, List.length_nil, Nat.zero_add, Nat.reduceAdd] at k0 k1
        rw [k0] at hD
        obtain ⟨g, rfl, hgb, hD⟩ := hD
        have h17' := h17 (hU.before (n := 14) (e := 0) (by kernel_rfl))
        subst h17'
        have hownx := own_only hrow2 hD (by intro r hr; simpa using hnr r hr)
        have hszx := hD.size
        obtain ⟨i0, hi0, hz0, hz1, hz2⟩ := info_parts infoEvent
        simp at hcs
        subst hcs
        refine wp_append_own xw _ _ 24 rfl w.heap.size 44 i0 (.agg #[.int .i64 0, .int .i64 0, .int .u32 0, .int .i64 0, .int .i64 0]) 5 40 Tryd.underlying24 hi0 hz0 hz1 hz2 rfl (by decide) s17 pre.length _ rfl hownx ⟨g, 0, none⟩ 1 1 (evOf (lineW x)).list rfl rfl (new_cells hgb rfl) (by simp [Value.oneCell']) (by unfold maxLen; omega) (by omega) (by omega) ?_
        intro v4 w4 hown4 hgrow _
        have hOn : Only s17.ownBlock.toList xw w4 := ⟨hgrow.os, hgrow.tape, hgrow.output, hgrow.size, fun k hk hn => hgrow.block k hk (fun e => hn (by simp [e]))⟩
        refine ⟨s17, s18, s19, _, v4, rfl, fun _ => rfl, fun h => h18 (by rwa [hset 1 (by decide)] at h), ?_⟩
        rw [k1]
        refine ⟨?_, (Only.mono hD (by simp)).trans (hOn.mono (by intro z hz _; simp only [List.mem_cons]; exact .inr hz))⟩
        rw [flat_snoc, List.length_append, List.length_map]
        exact hown4
      | 5, _ =>
        obtain ⟨k0, k1⟩ := hU.cnt (n := 14) [2, 3, 4] [] (by kernel_rfl) (by kernel_rfl) (by decide) (by decide)
        simp only [List.cons_append, List.nil_append, List.length_cons, List.length_nil, Nat.zero_add, Nat.reduceAdd] at k0 k1
        rw [k0] at hD
        obtain ⟨hown, hO⟩ := hD
        have hnL : w.heap.size ∉ (w'.heap.size + 1) :: v.ownBlock.toList := by
          intro hm
          rcases List.mem_cons.1 hm with h | h
          · exact hrbL h
          · exact hnl _ (by simpa using h) rfl
        have hbx := hO.blk hL2 hnL
        have cx : xw.cell? ⟨w.heap.size, 0, none⟩ = some v := hbx.cell 0
        have fx := hbx.frozen 0
        obtain ⟨g', cap', nn, rfl⟩ : ∃ g' cap' nn, s21 = .slice (some ⟨g', 0, none⟩) nn cap' := by
          rcases hown.2 with ⟨-, h0⟩ | ⟨g', cap', cur, h, -⟩
          · simp at h0
          · exact ⟨g', cap', _, h⟩
        simp at hcs
        subst hcs
        unfold Oper.wp RdAct
        go_simp
        have hs1 : Only [w.heap.size] xw (xw.setCell ⟨w.heap.size, 0, none⟩ (.slice (some ⟨g', 0, none⟩) nn cap')) := (Only.refl _ _).set1 (by simp) 0 _
        refine ⟨s17, s18, s19, s20, _, rfl, fun h => h17 (by rwa [hset 0 (by decide)] at h), fun h => h18 (by rwa [hset 1 (by decide)] at h), ?_⟩
        rw [k1]
        refine ⟨_, own_only hown hs1 (by intro r hr; simpa using ReadI.row_ne hown hbx (by decide) r hr), hbx.set_ 0 _, (hO.mono (by intro z hz _; exact List.mem_cons_of_mem _ hz)).trans (hs1.mono (by intro z hz _; simp at hz; subst hz; simp))⟩
      | i + 6, h =>
        simp only [List.length_cons, List.length_nil] at h
        omega
    case refine_1 => intro h; rw [getD_replicate_false] at h; cases h
    case refine_2 => intro h; rw [getD_replicate_false] at h; cases h
    case refine_3 =>
      rw [cnt_false (fun e _ => getD_replicate_false _ _)]
      exact (Only.refl _ _).drew
    case fin =>
      rintro L a xw ⟨s17, s18, s19, s20, s21, rfl, -, -, hD⟩ hall
      rw [cnt_true (fun e he => hall e (by simp only [List.mem_cons, List.not_mem_nil, or_false] at he; simp only [List.length_cons, List.length_nil]; omega))] at hD
      obtain ⟨sr, hown, hbr, hOx⟩ := hD
      obtain ⟨hbL, hrow, ho, hbB⟩ := HI.out
      have hOz : Only (w.heap.size :: v.ownBlock.toList) w' xw := by
        refine (Only.mono (S' := w.heap.size :: v.ownBlock.toList) hO2 (by simp)).trans' hOx ?_
        intro z hz hlt
        simp only [List.mem_cons] at hz ⊢
        rcases hz with h | h | h
        · exact .inl h
        · omega
        · exact .inr h
      have hnB : (w.heap.size + 1) ∉ w.heap.size :: v.ownBlock.toList := by
        intro hm
        rcases List.mem_cons.1 hm with h | h
        · omega
        · exact ReadI.row_ne hrow hbB (by decide) _ (by simpa using h) rfl
      refine ⟨keeps_of_only hOz ?_, hOz.block _ hbB.lt hnB, sr, hbr, ?_, ?_, u, hOz.blk hbB hnB⟩
      · intro z hz o hzo
        rcases List.mem_cons.1 hz with rfl | h
        · have : w'.heap[w.heap.size]? = some (.cells #[v] 24 (0, 0)) := hbL
          rw [this] at hzo
          injection hzo with hzo
          subst hzo
          rfl
        · rcases hrow.2 with ⟨rfl, -⟩ | ⟨g', cap, cur, rfl, -, hgg, -⟩
          · simp [Value.ownBlock] at h
          · simp [Value.ownBlock] at h
            subst h
            rw [hgg] at hzo
            injection hzo with hzo
            subst hzo
            rfl
      · rw [List.length_append, List.map_append]
        have := hown
        rw [List.length_append, List.length_map] at this
        exact this
      · refine ho.trans' hOz ?_
        intro z hz hlt
        rcases List.mem_cons.1 hz with rfl | h
        · omega
        · rcases hrow.2 with ⟨rfl, -⟩ | ⟨g', cap, cur, rfl, hbb, -⟩
          · simp [Value.ownBlock] at h
          · simp [Value.ownBlock] at h
            omega
  case done =>
    intro D W hDl hI hK
    obtain ⟨v, hbL, hrow, ho, u, hbB⟩ := hI
    have hrow' : EvR W w.heap.size v (evsOf s) := by
      unfold EvR evsOf
      rw [List.length_map]
      exact hrow
    have hlen : (evsOf s).length ≤ 300000 := by
      unfold evsOf
      rw [List.length_map]
      exact Nat.le_trans (linesP_short _ s (Nat.le_refl _)).1 hs
    have c0 : W.cell? ⟨w.heap.size, 0, none⟩ = some v := hbL.cell 0
    have f0 := hbL.frozen 0
    have HSh := Lib.hid (show_any (evsOf s) hlen (evsOf_fits s) v W (hg.only ho) hrow'.evs)
    obtain ⟨pv, cv, rfl⟩ := hrow'.evs.len
    clear hrow hlen hbB hg
    cases hok : okT (evsOf s) with
    | false =>
      have hre : readE s = 8 := by simp [readE, readOk, hok]
      have hrl : readL s = [] := by simp [readL, readOk, hok]
      have e1 : showE (evsOf s) = 4 := by simp [showE, hok]
      have e2 : shown (evsOf s) = [] := by simp [shown, hok]
      rw [e1, e2] at HSh
      go_wp2_with (go_at_call 8; refine HSh.out.mono ?_; rintro e w5 ⟨rfl, hO5⟩; have hb5 := hO5.blk hbL (by simp); have c5 : w5.cell? ⟨w.heap.size, 0, none⟩ = some (.slice pv (evsOf s).length cv) := hb5.cell 0; have f5 := hb5.frozen 0)
      have hb6 := hb5.set_ 0 (.slice none 0 0)
      have hs6 : Only [w.heap.size] w5 (w5.setCell ⟨w.heap.size, 0, none⟩ (.slice none 0 0)) := (Only.refl _ _).set1 (by simp) 0 _
      have hK6 : (w5.setCell ⟨w.heap.size, 0, none⟩ (.slice none 0 0)).heap[D]? = some (.deferred (some [])) := (Below.heap_setCell w5 _ _ _ (by show D ≠ w.heap.size; omega)).trans ((hO5.block D (Array.getElem?_eq_some_iff.1 hK).1 (by simp)).trans hK)
      have hO6 : Only [] w (w5.setCell ⟨w.heap.size, 0, none⟩ (.slice none 0 0)) := (ho.trans hO5).trans' hs6 (by intro z hz hlt; simp at hz; omega)
      have cr : ((w5.setCell ⟨w.heap.size, 0, none⟩ (.slice none 0 0)).putObj D (.deferred none)).cell? ⟨w.heap.size, 0, none⟩ = some (.slice none 0 0) := (World.cell?_of_block (World.putObj_heap_other (by show w.heap.size ≠ D; omega))).trans (hb6.cell 0)
      refine ⟨by simp, .inl ⟨_, _, rfl, run_takeDeferred hK6, ?_⟩⟩
      refine ⟨.tuple #[.slice none 0 0, .int .i64 8], by simp [results, Tryd.results9, go_sem, cr], .slice none 0 0, ?_, ?_, only_put hO6 (by omega)⟩
      · rw [hre]
      · rw [hrl]
        exact .inl ⟨none, 0, rfl, rfl⟩
    | true =>
      have e1 : showE (evsOf s) = 0 := by simp [showE, hok]
      have e2 : shown (evsOf s) = showT (evsOf s) := by simp [shown, hok]
      rw [e1, e2] at HSh
      by_cases ht : showT (evsOf s) = s
      · have hre : readE s = 0 := by simp [readE, readOk, hok, ht]
        have hrl : readL s = evsOf s := by simp [readL, readOk, hok, ht]
        rw [ht] at HSh
        clear ht e1 e2
        go_wp2_with (go_at_call 8; refine HSh.out.mono ?_; rintro e w5 ⟨rfl, hO5⟩; have hb5 := hO5.blk hbL (by simp); have c5 : w5.cell? ⟨w.heap.size, 0, none⟩ = some (.slice pv (evsOf s).length cv) := hb5.cell 0; have f5 := hb5.frozen 0)
        have hb6 := hb5.set_ 0 (.slice pv (evsOf s).length cv)
        have hs6 : Only [w.heap.size] w5 (w5.setCell ⟨w.heap.size, 0, none⟩ (.slice pv (evsOf s).length cv)) := (Only.refl _ _).set1 (by simp) 0 _
        have hK6 : (w5.setCell ⟨w.heap.size, 0, none⟩ (.slice pv (evsOf s).length cv)).heap[D]? = some (.deferred (some [])) := (Below.heap_setCell w5 _ _ _ (by show D ≠ w.heap.size; omega)).trans ((hO5.block D (Array.getElem?_eq_some_iff.1 hK).1 (by simp)).trans hK)
        have hO6 : Only [] w (w5.setCell ⟨w.heap.size, 0, none⟩ (.slice pv (evsOf s).length cv)) := (ho.trans hO5).trans' hs6 (by intro z hz hlt; simp at hz; omega)
        have cr : ((w5.setCell ⟨w.heap.size, 0, none⟩ (.slice pv (evsOf s).length cv)).putObj D (.deferred none)).cell? ⟨w.heap.size, 0, none⟩ = some (.slice pv (evsOf s).length cv) := (World.cell?_of_block (World.putObj_heap_other (by show w.heap.size ≠ D; omega))).trans (hb6.cell 0)
        refine ⟨by simp, .inl ⟨_, _, rfl, run_takeDeferred hK6, ?_⟩⟩
        refine ⟨.tuple #[.slice pv (evsOf s).length cv, .int .i64 0], by simp [results, Tryd.results9, go_sem, cr], .slice pv (evsOf s).length cv, ?_, ?_, only_put hO6 (by omega)⟩
        · rw [hre]
        · rw [hrl]
          refine ev_put ?_ hK6
          have hown5 : EvR w5 w.heap.size (.slice pv (evsOf s).length cv) (evsOf s) := own_only0 hrow' hO5
          exact EvR.evs (own_only hown5 hs6 (by intro r hr; simpa using ReadI.row_ne hown5 hb5 (by decide) r hr))
      · have hre : readE s = 8 := by simp [readE, readOk, ht]
        have hrl : readL s = [] := by simp [readL, readOk, ht]
        have hne : (showT (evsOf s) != s) = true := by simpa using ht
        have hne1 : (showT (evsOf s) == s) = false := by simpa using ht
        generalize showT (evsOf s) = T at *
        clear ht e1 e2
        go_wp2_with (go_at_call 8; refine HSh.out.mono ?_; rintro e w5 ⟨rfl, hO5⟩; have hb5 := hO5.blk hbL (by simp); have c5 : w5.cell? ⟨w.heap.size, 0, none⟩ = some (.slice pv (evsOf s).length cv) := hb5.cell 0; have f5 := hb5.frozen 0)
        have hb6 := hb5.set_ 0 (.slice none 0 0)
        have hs6 : Only [w.heap.size] w5 (w5.setCell ⟨w.heap.size, 0, none⟩ (.slice none 0 0)) := (Only.refl _ _).set1 (by simp) 0 _
        have hK6 : (w5.setCell ⟨w.heap.size, 0, none⟩ (.slice none 0 0)).heap[D]? = some (.deferred (some [])) := (Below.heap_setCell w5 _ _ _ (by show D ≠ w.heap.size; omega)).trans ((hO5.block D (Array.getElem?_eq_some_iff.1 hK).1 (by simp)).trans hK)
        have hO6 : Only [] w (w5.setCell ⟨w.heap.size, 0, none⟩ (.slice none 0 0)) := (ho.trans hO5).trans' hs6 (by intro z hz hlt; simp at hz; omega)
        have cr : ((w5.setCell ⟨w.heap.size, 0, none⟩ (.slice none 0 0)).putObj D (.deferred none)).cell? ⟨w.heap.size, 0, none⟩ = some (.slice none 0 0) := (World.cell?_of_block (World.putObj_heap_other (by show w.heap.size ≠ D; omega))).trans (hb6.cell 0)
        refine ⟨by simp, .inl ⟨_, _, rfl, run_takeDeferred hK6, ?_⟩⟩
        refine ⟨.tuple #[.slice none 0 0, .int .i64 8], by simp [results, Tryd.results9, go_sem, cr], .slice none 0 0, ?_, ?_, only_put hO6 (by omega)⟩
        · rw [hre]
        · rw [hrl]
          exact .inl ⟨none, 0, rfl, rfl⟩
end Go.Proofs.YtojleleohhaigaaDoor
