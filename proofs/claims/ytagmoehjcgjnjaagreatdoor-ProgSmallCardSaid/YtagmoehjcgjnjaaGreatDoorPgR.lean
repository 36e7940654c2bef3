/- Whether a program is right (prog.Right), walked. Condition: words fit. -/
import Derived.Test.YtagmoehjcgjnjaaGreatDoorPgI
import Derived.Test.YtagmoehjcgjnjaaGreatDoorCfGd
import Derived.LoopTactic
namespace Go.Proofs.YtagmoehjcgjnjaaGreatDoor
open Go Go.RowKit

/-- Its words fit. -/
structure In.Fits (x : In) : Prop where
  ad : 0 ≤ x.ad ∧ x.ad < 4294967296
  dt : 0 ≤ x.dt ∧ x.dt < 4294967296
  cf : x.cf.Fits

/-- A slice holds these instructions. -/
def InS (w : World) (v : Value) (l : List In) : Prop :=
  (∃ p c, v = .slice p 0 c ∧ l = []) ∨ ∃ b off c, v = .slice (some ⟨b, off, none⟩) l.length c ∧ 0 < l.length ∧ l.length ≤ c ∧ b < w.heap.size ∧ ∀ (j : Nat) x, l[j]? = some x → w.rangeAt b (off + j * 18) x.cs.toList
theorem rng_only {S : List Nat} {w w' : World} {b o : Nat} {cs : List Value} (h : w.rangeAt b o cs) (hO : Only S w w') (hb : b < w.heap.size) (hS : b ∉ S) : w'.rangeAt b o cs :=
  fun j v hj => (hO.cell (p := ⟨b, o + j, none⟩) hb hS).trans (h j v hj)
theorem InS.only {S : List Nat} {w w' : World} {v : Value} {l : List In} (h : InS w v l) (hO : Only S w w') (hS : ∀ b, v.ownBlock = some b → b ∉ S) : InS w' v l := by
  rcases h with h | ⟨b, off, c, rfl, h0, hc, hb, hE⟩
  · exact .inl h
  · exact .inr ⟨b, off, c, rfl, h0, hc, Nat.lt_of_lt_of_le hb hO.size, fun j x hj => rng_only (hE j x hj) hO hb (hS _ rfl)⟩
theorem InS.only0 {w w' : World} {v : Value} {l : List In} (h : InS w v l) (hO : Only [] w w') : InS w' v l := h.only hO (fun _ _ => by simp)
theorem InS.len {w : World} {v : Value} {l : List In} (h : InS w v l) : ∃ p c, v = .slice p l.length c := by
  rcases h with ⟨p, c, rfl, rfl⟩ | ⟨b, off, c, rfl, -⟩
  · exact ⟨p, c, rfl⟩
  · exact ⟨_, _, rfl⟩

/-- The place of the first of a kind, or -1. -/
def idxF (p : In → Bool) : List In → Int → Int
  | [], _ => -1
  | x :: r, k => if p x then k else idxF p r (k + 1)
theorem idxF_any (p : In → Bool) : ∀ (l : List In) (k : Int), 0 ≤ k → decide (0 ≤ idxF p l k) = l.any p
  | [], k, _ => rfl
  | x :: r, k, hk => by
    unfold idxF
    cases h : p x
    · simpa [h] using idxF_any p r (k + 1) (by omega)
    · simp [h, hk]

set_option maxRecDepth 100000 in
set_option maxHeartbeats 2000000 in
theorem pindex_any (p : In → Bool) (f : Nat) (cap : Value) (hcf : ∀ v W, (callFunc f #[v, cap]).run Tryz.prog W = .ok (.enter f #[v, cap]) W) (l : List In) (hl : l.length ≤ 1000000) (v : Value) (w : World) (hv : InS w v l)
    (HF : ∀ x ∈ l, ∀ W, Only [] w W → Calls Tryz.prog f #[x.agg, cap] W fun e w' => e = .returned (.bool (p x)) ∧ Only [] W w') :
    Calls Tryz.prog 33 #[v, .func (.func f) #[] #[cap]] w fun e w' => e = .returned (.int .i64 (idxF p l 0)) ∧ Only [] w w' := by
  rcases hv with ⟨q, c, rfl, rfl⟩ | ⟨b, off, c, rfl, h0, hlc, hb, hE⟩
  · clear HF
    go_enter Tryz.func33, Tryz.ntmps33
    go_wp2
    go_loopw [8] (fun s wr => s = .int .i64 0 ∧ Only [] w wr) (fun _ _ => 0)
    case atStart => exact ⟨rfl, Only.refl _ _⟩
    case round =>
      obtain ⟨rfl, hO⟩ := hrel
      go_wp2
      go_returns
      exact ⟨rfl, hO⟩
  · have HE := Lib.hid (And.intro hE HF)
    clear hE HF
    go_enter Tryz.func33, Tryz.ntmps33
    go_wp2
    go_loopw [8] (fun s wr => ∃ k : Nat, s = .int .i64 k ∧ k ≤ l.length ∧ Hid (idxF p l 0 = idxF p (l.drop k) k) ∧ Only [] w wr) (fun i _ => l.length - (intOf i).toNat)
    case atStart => exact ⟨0, rfl, by omega, rfl, Only.refl _ _⟩
    case round =>
      obtain ⟨k, rfl, hk, HR, hO⟩ := hrel
      by_cases hkl : k < l.length
      · have hki : (k : Int) < (l.length : Int) := by omega
        have hdrop : l.drop k = l[k] :: l.drop (k + 1) := List.drop_eq_getElem_cons hkl
        have HX := Lib.hid (rng_only (HE.out.1 k l[k] (by simp)) hO hb (by simp))
        have HD := Lib.hid (HE.out.2 l[k] (by simp) wr hO)
        rw [hdrop] at HR
        generalize l[k] = x at HR HX HD
        have hlk : k < l.length := hkl
        have hunf : idxF p (x :: l.drop (k + 1)) k = if p x then (k : Int) else idxF p (l.drop (k + 1)) (k + 1) := rfl
        rw [hunf] at HR
        clear hunf hdrop
        cases ho : p x with
        | true =>
          rw [ho] at HD HR
          have HV : Hid (idxF p l 0 = k) := Lib.hid (by rw [HR.out]; simp)
          clear HR HE ho
          go_wp2_with (first
            | (refine wpList_ld 33 x b (off + k * 18) _ rfl (.inl rfl) rfl rfl HX.out ?_)
            | ((with_reducible refine HD.out.mono ?_); rintro e w' ⟨rfl, hO2⟩))
          go_returns
          exact ⟨by rw [HV.out]; rfl, hO.trans hO2⟩
        | false =>
          rw [ho] at HD HR
          have HV : Hid (idxF p l 0 = idxF p (l.drop (k + 1)) ((k + 1 : Nat) : Int)) := Lib.hid (by rw [HR.out]; simp)
          clear HR HE ho
          go_wp2_with (first
            | (refine wpList_ld 33 x b (off + k * 18) _ rfl (.inl rfl) rfl rfl HX.out ?_)
            | ((with_reducible refine HD.out.mono ?_); rintro e w' ⟨rfl, hO2⟩))
          refine ⟨⟨k + 1, by go_num, by omega, HV, hO.trans hO2⟩, ?_⟩
          simp [intOf]
          omega
      · have hki : ¬ (k : Int) < (l.length : Int) := by omega
        have HV : Hid (idxF p l 0 = -1) := Lib.hid (by rw [HR.out, List.drop_eq_nil_of_le (by omega)]; rfl)
        clear HR HE hcf
        go_wp2
        go_returns
        exact ⟨by rw [HV.out]; rfl, hO⟩

set_option maxHeartbeats 1000000 in
theorem contains_any (p : In → Bool) (f : Nat) (cap : Value) (hcf : ∀ v W, (callFunc f #[v, cap]).run Tryz.prog W = .ok (.enter f #[v, cap]) W) (l : List In) (hl : l.length ≤ 1000000) (v : Value) (w : World) (hv : InS w v l)
    (HF : ∀ x ∈ l, ∀ W, Only [] w W → Calls Tryz.prog f #[x.agg, cap] W fun e w' => e = .returned (.bool (p x)) ∧ Only [] W w') :
    Calls Tryz.prog 19 #[v, .func (.func f) #[] #[cap]] w fun e w' => e = .returned (.bool (l.any p)) ∧ Only [] w w' := by
  have H := Lib.hid (pindex_any p f cap hcf l hl v w hv HF)
  have hi := idxF_any p l 0 (by omega)
  generalize idxF p l 0 = i at H hi
  have Hi := Lib.hid hi
  clear hv HF hcf hi
  go_enter Tryz.func19, Tryz.ntmps19
  go_wp2_with (go_at_call 33; refine H.out.mono ?_; rintro e w' ⟨rfl, hO⟩)
  go_returns
  exact ⟨by rw [← Hi.out]; rfl, hO⟩

/-- Is an instruction no part of a program of so many? -/
def In.odd (n : Nat) (x : In) : Bool := !x.ok || decide ((n : Int) < x.to)
set_option maxHeartbeats 1000000 in
theorem odd_any (x : In) (hx : x.Fits) (n vb : Nat) (p : Option Addr) (c : Nat) (w : World) (hB : Blk w vb 22 #[.slice p n c]) :
    Calls Tryz.prog 20 #[x.agg, .pointer (some ⟨vb, 0, none⟩)] w fun e w' => e = .returned (.bool (x.odd n)) ∧ Only [] w w' := by
  have HI := Lib.hid (fun W => instr_any x (by have := hx.dt; omega) W)
  have hN := Blk.new w 33 x.cs
  have HR := Lib.hid (Blk.rng hN)
  have HB := Lib.hid (And.intro hN (hB.alloc (.cells x.cs 33)))
  clear hN hB
  unfold In.odd
  cases ho : x.ok with
  | false =>
    rw [ho] at HI
    clear ho
    go_enter Tryz.func20, Tryz.ntmps20
    go_wp2_with (first
      | (refine wpList_ld 33 x w.heap.size 0 _ rfl (.inl rfl) rfl rfl HR.out ?_)
      | (go_at_call 10; refine (HI.out _).mono ?_; rintro e w1 ⟨rfl, hO1⟩))
    go_returns
    exact ⟨rfl, ((Only.refl _ _).alloc _).trans hO1⟩
  | true =>
    rw [ho] at HI
    clear ho
    go_enter Tryz.func20, Tryz.ntmps20
    go_wp2_with (first
      | (refine wpList_ld 33 x w.heap.size 0 _ rfl (.inl rfl) rfl rfl HR.out ?_)
      | (go_at_call 10; refine (HI.out _).mono ?_; rintro e w1 ⟨rfl, hO1⟩; have c5 := (Blk.in_ (hO1.blk HB.out.1 (by simp))).c5; have cv : w1.cell? ⟨vb, 0, none⟩ = some (.slice p n c) := (hO1.blk HB.out.2 (by simp)).cell 0))
    go_returns
    exact ⟨by simp, ((Only.refl _ _).alloc _).trans hO1⟩

/-- Is a program right? -/
def okR (l : List In) : Bool := decide (l.length ≤ 64) && !(l.any (In.odd l.length))
set_option maxHeartbeats 2000000 in
theorem pright_any (l : List In) (hl : l.length ≤ 1000000) (hf : ∀ x ∈ l, x.Fits) (v : Value) (w : World) (hv : InS w v l) :
    Calls Tryz.prog 9 #[v] w fun e w' => e = .returned (.bool (okR l)) ∧ Only [] w w' := by
  obtain ⟨p, c, rfl⟩ := hv.len
  by_cases h : l.length ≤ 64
  · have hB := Blk.new w 22 #[.slice p l.length c]
    have e : okR l = !(l.any (In.odd l.length)) := by simp [okR, h]
    rw [e]
    have HC := Lib.hid (contains_any (In.odd l.length) 20 (.pointer (some ⟨w.heap.size, 0, none⟩)) (fun _ _ => by kernel_rfl) l hl _ _ (hv.only0 ((Only.refl _ _).alloc (.cells #[.slice p l.length c] 22)))
      (fun x hx W hW => odd_any x (hf x hx) l.length w.heap.size p c W (hW.blk hB (by simp))))
    have hi : (l.length : Int) ≤ 64 := by omega
    clear e h hv hf hB
    go_enter Tryz.func9, Tryz.ntmps9
    go_wp2_with (go_at_call 19; refine HC.out.mono ?_; rintro e w1 ⟨rfl, hO1⟩)
    go_returns
    exact ⟨rfl, ((Only.refl _ _).alloc _).trans hO1⟩
  · have e : okR l = false := by simp [okR, h]
    rw [e]
    have hi : ¬ (l.length : Int) ≤ 64 := by omega
    clear e hv hf
    go_enter Tryz.func9, Tryz.ntmps9
    go_wp2_with fail
    go_returns
    exact ⟨rfl, (Only.refl _ _).alloc _⟩
end Go.Proofs.YtagmoehjcgjnjaaGreatDoor
