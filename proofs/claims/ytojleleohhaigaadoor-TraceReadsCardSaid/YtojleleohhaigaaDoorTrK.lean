/- pick of package trace at its three instances, and Until, Replies, Calls, walked. No condition. -/
import Derived.Test.YtojleleohhaigaaDoorTrR
namespace Go.Proofs.YtojleleohhaigaaDoor
open Go Go.RowKit

section
variable (x1 x2 x3 x4 x5 : Int)
set_option maxHeartbeats 400000 in
theorem until1_5 (cb : Nat) (n : Int) (w : World) (hb : cb < w.heap.size) (hc : w.cell? ⟨cb, 0, none⟩ = some (.int .i64 n)) : Calls Tryd.prog 40 #[.agg #[.int .i64 x1, .int .i64 x2, .int .u32 x3, .int .i64 x4, .int .i64 x5], .pointer (some ⟨cb, 0, none⟩)] w fun e w' => e = .returned (.bool (decide (x1 < n))) ∧ Only [] w w' := by
  go_enter Tryd.func40, Tryd.ntmps40
  go_wp2
  go_returns
  exact ⟨rfl, (Only.refl _ _).alloc _⟩
set_option maxHeartbeats 400000 in
theorem until2_5 (w : World) : Calls Tryd.prog 41 #[.agg #[.int .i64 x1, .int .i64 x2, .int .u32 x3, .int .i64 x4, .int .i64 x5]] w fun e w' => e = .returned (.agg #[.int .i64 x1, .int .i64 x2, .int .u32 x3, .int .i64 x4, .int .i64 x5]) ∧ Only [] w w' := by
  go_enter Tryd.func41, Tryd.ntmps41
  go_wp2
  go_returns
  exact ⟨rfl, ((Only.refl _ _).alloc _).alloc _⟩
set_option maxHeartbeats 400000 in
theorem replies1_5 (w : World) : Calls Tryd.prog 35 #[.agg #[.int .i64 x1, .int .i64 x2, .int .u32 x3, .int .i64 x4, .int .i64 x5]] w fun e w' => e = .returned (.agg #[.int .u32 x3, .int .i64 x4]) ∧ Only [] w w' := by
  go_enter Tryd.func35, Tryd.ntmps35
  go_wp2
  go_returns
  exact ⟨rfl, ((Only.refl _ _).alloc _).alloc _⟩
set_option maxHeartbeats 400000 in
theorem calls1_5 (w : World) : Calls Tryd.prog 38 #[.agg #[.int .i64 x1, .int .i64 x2, .int .u32 x3, .int .i64 x4, .int .i64 x5]] w fun e w' => e = .returned (.int .i64 x5) ∧ Only [] w w' := by
  go_enter Tryd.func38, Tryd.ntmps38
  go_wp2
  go_returns
  exact ⟨rfl, (Only.refl _ _).alloc _⟩
end
theorem filter_take {p : Ev → Bool} {l : List Ev} {k : Nat} (h : k < l.length) : (l.take (k + 1)).filter p = (l.take k).filter p ++ if p l[k] then [l[k]] else [] := by
  rw [show l.take (k + 1) = l.take k ++ [l[k]] by simp, List.filter_append]
  congr 1
  by_cases hp : p l[k] <;> simp [hp]
theorem filter_len (p : Ev → Bool) (l : List Ev) (k : Nat) : ((l.take k).filter p).length ≤ l.length := Nat.le_trans (List.length_filter_le _ _) (by simp; omega)

theorem own_mono {w : World} {base base' : Nat} {e : TypeId} {size : Nat} {v : Value} {n : Nat} {xs : List Value} (h : w.ownsRow base e size v n xs) (hb : base' ≤ base) : w.ownsRow base' e size v n xs :=
  ⟨h.1, h.2.imp id fun ⟨g, cap, cur, h1, h2, h3⟩ => ⟨g, cap, cur, h1, Nat.le_trans hb h2, h3⟩⟩
/-- What pick takes of a trace. -/
def kept (p : Ev → Bool) (l : List Ev) : List Ev := if rightL l then l.filter p else []
def flatR (l : List Ev) : List Value := l.flatMap fun x => [.int .u32 x.va, .int .i64 x.er]
def flatC (l : List Ev) : List Value := l.map fun x => .int .i64 x.ln
theorem flatR_snoc (l : List Ev) (x : Ev) : flatR (l ++ [x]) = flatR l ++ [.int .u32 x.va, .int .i64 x.er] := by simp [flatR]
theorem flatC_snoc (l : List Ev) (x : Ev) : flatC (l ++ [x]) = flatC l ++ [.int .i64 x.ln] := by simp [flatC]
/-- What Until takes. -/
def ahead (n : Int) (x : Ev) : Bool := decide (x.cy < n)
def isReply (x : Ev) : Bool := x.kd == 1
def isCall (x : Ev) : Bool := x.kd == 2

set_option maxRecDepth 100000 in
set_option maxHeartbeats 2000000 in
theorem pick_event (l : List Ev) (hl : l.length ≤ 1000000) (v : Value) (cb : Nat) (n : Int) (w : World) (hv : EvS w v l) (hcb : cb < w.heap.size) (hcc : w.cell? ⟨cb, 0, none⟩ = some (.int .i64 n)) :
    Calls Tryd.prog 39 #[v, .func (.func 40) #[] #[.pointer (some ⟨cb, 0, none⟩)], .func (.func 41) #[] #[]] w fun e w' => ∃ u, e = .returned u ∧ w'.ownsRow w.heap.size 44 5 u (kept (ahead n) l).length (flat (kept (ahead n) l)) ∧ Only [] w w' := by
  have HR := Lib.hid (right_any l hl v w hv)
  have HVS := Lib.hid hv
  clear hv
  cases hr : rightL l with
  | false =>
    rw [hr] at HR
    have HG : Hid (kept (ahead n) l = []) := Lib.hid (by simp [kept, hr])
    rw [HG.out]
    clear HG
    go_enter Tryd.func39, Tryd.ntmps39
    go_wp2_with (go_at_call 11; refine HR.out.mono ?_; rintro e w' ⟨rfl, hO⟩)
    go_returns
    exact ⟨_, rfl, ⟨rfl, .inl ⟨rfl, rfl⟩⟩, hO⟩
  | true =>
    rw [hr] at HR
    have HG : Hid (kept (ahead n) l = l.filter (ahead n)) := Lib.hid (by simp [kept, hr])
    rw [HG.out]
    clear HG
    go_enter Tryd.func39, Tryd.ntmps39
    rcases HVS.out with ⟨p0, c0, rfl, rfl⟩ | ⟨b, off, c, rfl, h0, hlc, hb, hE⟩
    · go_wp2_with (go_at_call 11; refine HR.out.mono ?_; rintro e w' ⟨rfl, hO⟩)
      go_loopw [6, 14] (fun s6 s14 wr => s6 = .slice none 0 0 ∧ s14 = .int .i64 0 ∧ Only [] w wr) (fun _ _ _ => 0)
      case atStart => exact ⟨rfl, rfl, hO⟩
      case round =>
        obtain ⟨rfl, rfl, hO1⟩ := hrel
        go_wp2
        go_returns
        exact ⟨_, rfl, ⟨rfl, .inl ⟨rfl, rfl⟩⟩, hO1⟩
    · have HE := Lib.hid hE
      clear hE HVS
      go_wp2_with (go_at_call 11; refine HR.out.mono ?_; rintro e w' ⟨rfl, hO⟩)
      clear HR
      go_loopw [6, 14] (fun s6 s14 wr => ∃ k : Nat, s14 = .int .i64 k ∧ k ≤ l.length ∧ wr.ownsRow w.heap.size 44 5 s6 ((l.take k).filter (ahead n)).length (flat ((l.take k).filter (ahead n))) ∧ Only [] w wr) (fun _ i _ => l.length - (intOf i).toNat)
      case atStart => exact ⟨0, rfl, by omega, ⟨rfl, .inl ⟨rfl, rfl⟩⟩, hO⟩
      case round =>
        clear hO
        obtain ⟨k, rfl, hk, hown, hO⟩ := hrel
        by_cases hkl : k < l.length
        · have hki : (k : Int) < (l.length : Int) := by omega
          have hft := filter_take (p := (ahead n)) hkl
          have hfl := filter_len (ahead n) l k
          have hwr : w.heap.size ≤ wr.heap.size := hO.size
          obtain ⟨d0, d1, d2, d3, d4⟩ := (HE.out k l[k] (by simp)).only hO hb (by simp)
          have hcr : wr.cell? ⟨cb, 0, none⟩ = some (.int .i64 n) := (hO.cell hcb (by simp)).trans hcc
          have hcl : cb < wr.heap.size := by omega
          generalize l[k] = x at hft d0 d1 d2 d3 d4
          generalize hcur : (l.take k).filter (ahead n) = cur at hft hown hfl
          have hlk := hkl
          clear hkl hcur
          have HF := Lib.hid hft
          have HO := Lib.hid (And.intro hown hO)
          clear hft hown hO
          cases hp : (ahead n) x with
          | false =>
            rw [hp] at HF
            have HF2 : Hid ((l.take (k + 1)).filter (ahead n) = cur) := Lib.hid (HF.out.trans (by simp))
            have hp2 : decide (x.cy < n) = false := hp
            go_wp2_with (go_at_call 40; refine (until1_5 _ _ _ _ _ cb n _ (by simp; omega) (by rw [World.cell?_alloc_lt _ _ _ (by simpa using hcl)]; exact hcr)).mono ?_; rintro e w' ⟨rfl, hO1⟩)
            have hO2 : Only [] w w' := (HO.out.2.alloc _).trans hO1
            refine ⟨⟨k + 1, by go_num, by omega, ?_, hO2⟩, ?_⟩
            · rw [HF2.out]
              exact own_only0 HO.out.1 (((Only.refl _ _).alloc _).trans hO1)
            · simp [intOf]
              omega
          | true =>
            rw [hp] at HF
            have HF2 : Hid ((l.take (k + 1)).filter (ahead n) = cur ++ [x]) := Lib.hid (HF.out.trans (by simp))
            have hp2 : decide (x.cy < n) = true := hp
            obtain ⟨i0, hi0, hz0, hz1, hz2⟩ := info_parts infoEvent
            go_wp2_with (first
              | (go_at_call 40; refine (until1_5 _ _ _ _ _ cb n _ (by simp; omega) (by rw [World.cell?_alloc_lt _ _ _ (by simpa using hcl)]; exact hcr)).mono ?_; rintro e w1 ⟨rfl, hO1⟩; obtain ⟨f0, f1, f2, f3, f4, -⟩ := Blk.ev (x := x) (hO1.blk (Blk.new' rfl rfl) (by simp)))
              | (go_at_call 41; refine (until2_5 _ _ _ _ _ _).mono ?_; rintro e w2 ⟨rfl, hO2⟩)
              | (at_builtin; refine wpList_append_own _ rfl _ _ 24 rfl w.heap.size 44 i0 (.agg #[.int .i64 0, .int .i64 0, .int .u32 0, .int .i64 0, .int .i64 0]) 5 40 Tryd.underlying24 hi0 hz0 hz1 hz2 rfl (by decide) _ cur.length _ rfl (own_only0 HO.out.1 ((((Only.refl _ _).alloc _).trans (hO1.trans hO2)).alloc _)) ⟨_, 0, none⟩ 1 1 [.int .i64 x.cy, .int .i64 x.kd, .int .u32 x.va, .int .i64 x.er, .int .i64 x.ln] rfl rfl (new_cells (Blk.new' rfl rfl) rfl) (by simp [Value.oneCell']) (by unfold maxLen; omega) (by omega) (by have q1 := hO1.size; have q2 := hO2.size; simp only [World.size_alloc] at q1 q2 ⊢; omega) ?_; intro v' w4 hown4 hgrow _))
            have hO5 : Only [] w w4 := own_step (((HO.out.2.alloc _).trans (hO1.trans hO2)).alloc _) (own_only0 HO.out.1 ((((Only.refl _ _).alloc _).trans (hO1.trans hO2)).alloc _)) hgrow
            refine ⟨⟨k + 1, by go_num, by omega, ?_, hO5⟩, ?_⟩
            · rw [HF2.out, flat_snoc, List.length_append]
              exact hown4
            · simp [intOf]
              omega
        · have hki : ¬ (k : Int) < (l.length : Int) := by omega
          rw [List.take_of_length_le (by omega)] at hown
          go_wp2
          go_returns
          exact ⟨_, rfl, hown, hO⟩

set_option maxRecDepth 100000 in
set_option maxHeartbeats 2000000 in
theorem pick_reply (l : List Ev) (hl : l.length ≤ 1000000) (v : Value) (w : World) (hv : EvS w v l) :
    Calls Tryd.prog 34 #[v, .func (.func 21) #[] #[], .func (.func 35) #[] #[]] w fun e w' => ∃ u, e = .returned u ∧ w'.ownsRow w.heap.size 46 2 u (kept isReply l).length (flatR (kept isReply l)) ∧ Only [] w w' := by
  have HR := Lib.hid (right_any l hl v w hv)
  have HVS := Lib.hid hv
  clear hv
  cases hr : rightL l with
  | false =>
    rw [hr] at HR
    have HG : Hid (kept isReply l = []) := Lib.hid (by simp [kept, hr])
    rw [HG.out]
    clear HG
    go_enter Tryd.func34, Tryd.ntmps34
    go_wp2_with (go_at_call 11; refine HR.out.mono ?_; rintro e w' ⟨rfl, hO⟩)
    go_returns
    exact ⟨_, rfl, ⟨rfl, .inl ⟨rfl, rfl⟩⟩, hO⟩
  | true =>
    rw [hr] at HR
    have HG : Hid (kept isReply l = l.filter isReply) := Lib.hid (by simp [kept, hr])
    rw [HG.out]
    clear HG
    go_enter Tryd.func34, Tryd.ntmps34
    rcases HVS.out with ⟨p0, c0, rfl, rfl⟩ | ⟨b, off, c, rfl, h0, hlc, hb, hE⟩
    · go_wp2_with (go_at_call 11; refine HR.out.mono ?_; rintro e w' ⟨rfl, hO⟩)
      go_loopw [6, 14] (fun s6 s14 wr => s6 = .slice none 0 0 ∧ s14 = .int .i64 0 ∧ Only [] w wr) (fun _ _ _ => 0)
      case atStart => exact ⟨rfl, rfl, hO⟩
      case round =>
        obtain ⟨rfl, rfl, hO1⟩ := hrel
        go_wp2
        go_returns
        exact ⟨_, rfl, ⟨rfl, .inl ⟨rfl, rfl⟩⟩, hO1⟩
    · have HE := Lib.hid hE
      clear hE HVS
      go_wp2_with (go_at_call 11; refine HR.out.mono ?_; rintro e w' ⟨rfl, hO⟩)
      clear HR
      go_loopw [6, 14] (fun s6 s14 wr => ∃ k : Nat, s14 = .int .i64 k ∧ k ≤ l.length ∧ wr.ownsRow w.heap.size 46 2 s6 ((l.take k).filter isReply).length (flatR ((l.take k).filter isReply)) ∧ Only [] w wr) (fun _ i _ => l.length - (intOf i).toNat)
      case atStart => exact ⟨0, rfl, by omega, ⟨rfl, .inl ⟨rfl, rfl⟩⟩, hO⟩
      case round =>
        clear hO
        obtain ⟨k, rfl, hk, hown, hO⟩ := hrel
        by_cases hkl : k < l.length
        · have hki : (k : Int) < (l.length : Int) := by omega
          have hft := filter_take (p := isReply) hkl
          have hfl := filter_len isReply l k
          have hwr : w.heap.size ≤ wr.heap.size := hO.size
          obtain ⟨d0, d1, d2, d3, d4⟩ := (HE.out k l[k] (by simp)).only hO hb (by simp)
          generalize l[k] = x at hft d0 d1 d2 d3 d4
          generalize hcur : (l.take k).filter isReply = cur at hft hown hfl
          have hlk := hkl
          clear hkl hcur
          have HF := Lib.hid hft
          have HO := Lib.hid (And.intro hown hO)
          clear hft hown hO
          cases hp : isReply x with
          | false =>
            rw [hp] at HF
            have HF2 : Hid ((l.take (k + 1)).filter isReply = cur) := Lib.hid (HF.out.trans (by simp))
            have hp2 : (x.kd == 1) = false := hp
            go_wp2_with (go_at_call 21; refine (reply_5 _ _ _ _ _ _).mono ?_; rintro e w' ⟨rfl, hO1⟩)
            have hO2 : Only [] w w' := (HO.out.2.alloc _).trans hO1
            refine ⟨⟨k + 1, by go_num, by omega, ?_, hO2⟩, ?_⟩
            · rw [HF2.out]
              exact own_only0 HO.out.1 (((Only.refl _ _).alloc _).trans hO1)
            · simp [intOf]
              omega
          | true =>
            rw [hp] at HF
            have HF2 : Hid ((l.take (k + 1)).filter isReply = cur ++ [x]) := Lib.hid (HF.out.trans (by simp))
            have hp2 : (x.kd == 1) = true := hp
            obtain ⟨i0, hi0, hz0, hz1, hz2⟩ := info_parts infoReply
            go_wp2_with (first
              | (go_at_call 21; refine (reply_5 _ _ _ _ _ _).mono ?_; rintro e w1 ⟨rfl, hO1⟩; obtain ⟨f0, f1, f2, f3, f4, -⟩ := Blk.ev (x := x) (hO1.blk (Blk.new' rfl rfl) (by simp)))
              | (go_at_call 35; refine (replies1_5 _ _ _ _ _ _).mono ?_; rintro e w2 ⟨rfl, hO2⟩)
              | (at_builtin; refine wpList_append_own _ rfl _ _ 35 rfl w.heap.size 46 i0 (.agg #[.int .u32 0, .int .i64 0]) 2 16 Tryd.underlying35 hi0 hz0 hz1 hz2 rfl (by decide) _ cur.length _ rfl (own_only0 HO.out.1 ((((Only.refl _ _).alloc _).trans (hO1.trans hO2)).alloc _)) ⟨_, 0, none⟩ 1 1 [.int .u32 x.va, .int .i64 x.er] rfl rfl (new_cells (Blk.new' rfl rfl) rfl) (by simp [Value.oneCell']) (by unfold maxLen; omega) (by omega) (by have q1 := hO1.size; have q2 := hO2.size; simp only [World.size_alloc] at q1 q2 ⊢; omega) ?_; intro v' w4 hown4 hgrow _))
            have hO5 : Only [] w w4 := own_step (((HO.out.2.alloc _).trans (hO1.trans hO2)).alloc _) (own_only0 HO.out.1 ((((Only.refl _ _).alloc _).trans (hO1.trans hO2)).alloc _)) hgrow
            refine ⟨⟨k + 1, by go_num, by omega, ?_, hO5⟩, ?_⟩
            · rw [HF2.out, flatR_snoc, List.length_append]
              exact hown4
            · simp [intOf]
              omega
        · have hki : ¬ (k : Int) < (l.length : Int) := by omega
          rw [List.take_of_length_le (by omega)] at hown
          go_wp2
          go_returns
          exact ⟨_, rfl, hown, hO⟩

set_option maxRecDepth 100000 in
set_option maxHeartbeats 2000000 in
theorem pick_int (l : List Ev) (hl : l.length ≤ 1000000) (v : Value) (w : World) (hv : EvS w v l) :
    Calls Tryd.prog 36 #[v, .func (.func 37) #[] #[], .func (.func 38) #[] #[]] w fun e w' => ∃ u, e = .returned u ∧ w'.ownsRow w.heap.size 3 1 u (kept isCall l).length (flatC (kept isCall l)) ∧ Only [] w w' := by
  have HR := Lib.hid (right_any l hl v w hv)
  have HVS := Lib.hid hv
  clear hv
  cases hr : rightL l with
  | false =>
    rw [hr] at HR
    have HG : Hid (kept isCall l = []) := Lib.hid (by simp [kept, hr])
    rw [HG.out]
    clear HG
    go_enter Tryd.func36, Tryd.ntmps36
    go_wp2_with (go_at_call 11; refine HR.out.mono ?_; rintro e w' ⟨rfl, hO⟩)
    go_returns
    exact ⟨_, rfl, ⟨rfl, .inl ⟨rfl, rfl⟩⟩, hO⟩
  | true =>
    rw [hr] at HR
    have HG : Hid (kept isCall l = l.filter isCall) := Lib.hid (by simp [kept, hr])
    rw [HG.out]
    clear HG
    go_enter Tryd.func36, Tryd.ntmps36
    rcases HVS.out with ⟨p0, c0, rfl, rfl⟩ | ⟨b, off, c, rfl, h0, hlc, hb, hE⟩
    · go_wp2_with (go_at_call 11; refine HR.out.mono ?_; rintro e w' ⟨rfl, hO⟩)
      go_loopw [6, 14] (fun s6 s14 wr => s6 = .slice none 0 0 ∧ s14 = .int .i64 0 ∧ Only [] w wr) (fun _ _ _ => 0)
      case atStart => exact ⟨rfl, rfl, hO⟩
      case round =>
        obtain ⟨rfl, rfl, hO1⟩ := hrel
        go_wp2
        go_returns
        exact ⟨_, rfl, ⟨rfl, .inl ⟨rfl, rfl⟩⟩, hO1⟩
    · have HE := Lib.hid hE
      clear hE HVS
      go_wp2_with (go_at_call 11; refine HR.out.mono ?_; rintro e w' ⟨rfl, hO⟩)
      clear HR
      go_loopw [6, 14] (fun s6 s14 wr => ∃ k : Nat, s14 = .int .i64 k ∧ k ≤ l.length ∧ wr.ownsRow w.heap.size 3 1 s6 ((l.take k).filter isCall).length (flatC ((l.take k).filter isCall)) ∧ Only [] w wr) (fun _ i _ => l.length - (intOf i).toNat)
      case atStart => exact ⟨0, rfl, by omega, ⟨rfl, .inl ⟨rfl, rfl⟩⟩, hO⟩
      case round =>
        clear hO
        obtain ⟨k, rfl, hk, hown, hO⟩ := hrel
        by_cases hkl : k < l.length
        · have hki : (k : Int) < (l.length : Int) := by omega
          have hft := filter_take (p := isCall) hkl
          have hfl := filter_len isCall l k
          have hwr : w.heap.size ≤ wr.heap.size := hO.size
          obtain ⟨d0, d1, d2, d3, d4⟩ := (HE.out k l[k] (by simp)).only hO hb (by simp)
          generalize l[k] = x at hft d0 d1 d2 d3 d4
          generalize hcur : (l.take k).filter isCall = cur at hft hown hfl
          have hlk := hkl
          clear hkl hcur
          have HF := Lib.hid hft
          have HO := Lib.hid (And.intro hown hO)
          clear hft hown hO
          cases hp : isCall x with
          | false =>
            rw [hp] at HF
            have HF2 : Hid ((l.take (k + 1)).filter isCall = cur) := Lib.hid (HF.out.trans (by simp))
            have hp2 : (x.kd == 2) = false := hp
            go_wp2_with (go_at_call 37; refine (call_5 _ _ _ _ _ _).mono ?_; rintro e w' ⟨rfl, hO1⟩)
            have hO2 : Only [] w w' := (HO.out.2.alloc _).trans hO1
            refine ⟨⟨k + 1, by go_num, by omega, ?_, hO2⟩, ?_⟩
            · rw [HF2.out]
              exact own_only0 HO.out.1 (((Only.refl _ _).alloc _).trans hO1)
            · simp [intOf]
              omega
          | true =>
            rw [hp] at HF
            have HF2 : Hid ((l.take (k + 1)).filter isCall = cur ++ [x]) := Lib.hid (HF.out.trans (by simp))
            have hp2 : (x.kd == 2) = true := hp
            obtain ⟨i0, hi0, hz0, hz1, hz2⟩ := info_parts infoInt
            go_wp2_with (first
              | (go_at_call 37; refine (call_5 _ _ _ _ _ _).mono ?_; rintro e w1 ⟨rfl, hO1⟩; obtain ⟨f0, f1, f2, f3, f4, -⟩ := Blk.ev (x := x) (hO1.blk (Blk.new' rfl rfl) (by simp)))
              | (go_at_call 38; refine (calls1_5 _ _ _ _ _ _).mono ?_; rintro e w2 ⟨rfl, hO2⟩)
              | (at_builtin; refine wpList_append_own _ rfl _ _ 37 rfl w.heap.size 3 i0 (.int .i64 0) 1 8 Tryd.underlying37 hi0 hz0 hz1 hz2 rfl (by decide) _ cur.length _ rfl (own_only0 HO.out.1 ((((Only.refl _ _).alloc _).trans (hO1.trans hO2)).alloc _)) ⟨_, 0, none⟩ 1 1 [.int .i64 x.ln] rfl rfl (new_cells (Blk.new' rfl rfl) rfl) (by simp [Value.oneCell']) (by unfold maxLen; omega) (by omega) (by have q1 := hO1.size; have q2 := hO2.size; simp only [World.size_alloc] at q1 q2 ⊢; omega) ?_; intro v' w4 hown4 hgrow _))
            have hO5 : Only [] w w4 := own_step (((HO.out.2.alloc _).trans (hO1.trans hO2)).alloc _) (own_only0 HO.out.1 ((((Only.refl _ _).alloc _).trans (hO1.trans hO2)).alloc _)) hgrow
            refine ⟨⟨k + 1, by go_num, by omega, ?_, hO5⟩, ?_⟩
            · rw [HF2.out, flatC_snoc, List.length_append]
              exact hown4
            · simp [intOf]
              omega
        · have hki : ¬ (k : Int) < (l.length : Int) := by omega
          rw [List.take_of_length_le (by omega)] at hown
          go_wp2
          go_returns
          exact ⟨_, rfl, hown, hO⟩

set_option maxHeartbeats 1000000 in
theorem until_any (n : Int) (l : List Ev) (hl : l.length ≤ 1000000) (v : Value) (w : World) (hv : EvS w v l) :
    Calls Tryd.prog 15 #[.int .i64 n, v] w fun e w' => ∃ u, e = .returned u ∧ EvR w' w.heap.size u (kept (ahead n) l) ∧ Only [] w w' := by
  have H := Lib.hid (pick_event l hl v w.heap.size n (w.alloc (.cells #[.int .i64 n] 3)) (hv.only0 ((Only.refl _ _).alloc _)) (by simp) ((Blk.new w _ _).cell 0))
  clear hv
  go_enter Tryd.func15, Tryd.ntmps15
  go_wp2_with (go_at_call 39; refine H.out.mono ?_; rintro e w' ⟨u, rfl, hR, hO⟩)
  go_returns
  exact ⟨u, rfl, own_mono hR (by rw [World.size_alloc]; omega), ((Only.refl _ _).alloc _).trans hO⟩
set_option maxHeartbeats 1000000 in
theorem replies_any (l : List Ev) (hl : l.length ≤ 1000000) (v : Value) (w : World) (hv : EvS w v l) :
    Calls Tryd.prog 13 #[v] w fun e w' => ∃ u, e = .returned u ∧ w'.ownsRow w.heap.size 46 2 u (kept isReply l).length (flatR (kept isReply l)) ∧ Only [] w w' := by
  have H := Lib.hid (pick_reply l hl v w hv)
  clear hv
  go_enter Tryd.func13, Tryd.ntmps13
  go_wp2_with (go_at_call 34; refine H.out.mono ?_; rintro e w' ⟨u, rfl, hR, hO⟩)
  go_returns
  exact ⟨u, rfl, hR, hO⟩
set_option maxHeartbeats 1000000 in
theorem calls_any (l : List Ev) (hl : l.length ≤ 1000000) (v : Value) (w : World) (hv : EvS w v l) :
    Calls Tryd.prog 14 #[v] w fun e w' => ∃ u, e = .returned u ∧ w'.ownsRow w.heap.size 3 1 u (kept isCall l).length (flatC (kept isCall l)) ∧ Only [] w w' := by
  have H := Lib.hid (pick_int l hl v w hv)
  clear hv
  go_enter Tryd.func14, Tryd.ntmps14
  go_wp2_with (go_at_call 36; refine H.out.mono ?_; rintro e w' ⟨u, rfl, hR, hO⟩)
  go_returns
  exact ⟨u, rfl, hR, hO⟩
end Go.Proofs.YtojleleohhaigaaDoor
