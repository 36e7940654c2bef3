/- Show of package trace, walked. Conditions: the listed variables are laid. -/
import Derived.Test.YtojleleohhaigaaDoorTrO
import Derived.Test.YtojleleohhaigaaDoorStageE
namespace Go.Proofs.YtojleleohhaigaaDoor
open Go Go.RowKit

def dec (n : Int) : List UInt8 := numL 10 n.toNat
def hexa (n : Int) : List UInt8 := numL 16 n.toNat
/-- The words of an event's line. -/
def Ev.words (x : Ev) : List (List UInt8) := if x.kd = 1 then [dec x.cy, [114, 101, 112, 108, 121], hexa x.va, dec x.er] else [dec x.cy, [99, 97, 108, 108], dec x.ln]
def Ev.line (x : Ev) : List UInt8 := Lib.join x.words [32]
def showT : List Ev → List UInt8
  | [] => []
  | x :: r => x.line ++ [10] ++ showT r
def okT (l : List Ev) : Bool := rightL l && !l.any Ev.odd
def shown (l : List Ev) : List UInt8 := if okT l then showT l else []
def showE (l : List Ev) : Int := if okT l then 0 else 4
theorem showT_app (l m : List Ev) : showT (l ++ m) = showT l ++ showT m := by
  induction l with
  | nil => rfl
  | cons x r ih => simp [showT, ih]
/-- Its values fit. -/
def Ev.Fits (x : Ev) : Prop := 0 ≤ x.va ∧ x.va < 4294967296
/-- The shapes that have a line. -/
inductive LineS : Ev → Prop
  | reply (a v e : Nat) (h1 : a < 4096) (h2 : v < 4294967296) (h3 : e ≤ 99) : LineS ⟨a, 1, v, e, 0⟩
  | call (a n : Nat) (h1 : a < 4096) (h2 : n < 8) : LineS ⟨a, 2, 0, 0, n⟩
theorem LineS.of {x : Ev} (hf : x.Fits) (hr : x.rng = true) (ho : x.own = true) (hd : x.odd = false) : LineS x := by
  obtain ⟨cy, kd, va, er, ln⟩ := x
  simp [Ev.rng] at hr
  simp [Ev.own] at ho
  simp [Ev.odd] at hd
  obtain ⟨hf1, hf2⟩ := hf
  simp at hf1 hf2
  obtain ⟨a, rfl⟩ : ∃ a : Nat, cy = a := ⟨cy.toNat, by omega⟩
  obtain ⟨v, rfl⟩ : ∃ a : Nat, va = a := ⟨va.toNat, by omega⟩
  obtain ⟨n, rfl⟩ : ∃ a : Nat, ln = a := ⟨ln.toNat, by omega⟩
  obtain ⟨e, rfl⟩ : ∃ a : Nat, er = a := ⟨er.toNat, by omega⟩
  rcases ho with ⟨rfl, h⟩ | ⟨⟨rfl, h1⟩, h2⟩
  · obtain rfl : n = 0 := by omega
    exact .reply a v e (by omega) (by omega) (by omega)
  · obtain rfl : v = 0 := by omega
    obtain rfl : e = 0 := by omega
    exact .call a n (by omega) (by omega)
theorem shape_of : ∀ {l : List Ev} {a : Option Ev}, (∀ x ∈ l, x.Fits) → rightF a l = true → l.any Ev.odd = false → ∀ x ∈ l, LineS x
  | [], _, _, _, _ => by simp
  | y :: r, a, hf, h, hd => by
    simp only [rightF, Bool.and_eq_true] at h
    simp only [List.any_cons, Bool.or_eq_false_iff] at hd
    intro x hx
    rcases List.mem_cons.1 hx with rfl | hx
    · have := h.1
      simp [Ev.may] at this
      exact .of (hf _ (by simp)) this.1.1 this.1.2 hd.1
    · exact shape_of (fun z hz => hf z (by simp [hz])) h.2 hd.2 x hx

theorem join_len : ∀ (xs : List (List UInt8)) (k : Nat), (∀ x ∈ xs, x.length ≤ k) → (Lib.join xs [32]).length ≤ xs.length * (k + 1)
  | [], k, _ => by simp [Lib.join]
  | [x], k, h => by rw [Lib.join_one]; have := h x (by simp); simp; omega
  | x :: y :: r, k, h => by
    rw [join_two]
    have h1 := h x (by simp)
    have h2 := join_len (y :: r) k (fun z hz => h z (by simp at hz ⊢; exact .inr hz))
    simp only [List.length_append, List.length_cons] at h2 ⊢
    have : (r.length + 1 + 1) * (k + 1) = (r.length + 1) * (k + 1) + (k + 1) := by rw [Nat.add_mul (r.length + 1) 1, Nat.one_mul]
    omega
theorem line_len {x : Ev} (h : LineS x) : x.line.length ≤ 36 := by
  have key : ∀ n, n < 4294967296 → ∀ b, b = 10 ∨ b = 16 → (numL b n).length ≤ 11 := by
    intro n hn b hb
    rcases hb with rfl | rfl
    · exact Nat.le_trans (numL_len 10 (by omega) 10 n (by omega)) (by omega)
    · exact Nat.le_trans (numL_len 16 (by omega) 7 n (by omega)) (by omega)
  cases h with
  | reply a v e h1 h2 h3 =>
    have k1 := numL_len 10 (by omega) 3 a (by omega)
    have k2 := numL_len 16 (by omega) 7 v (by omega)
    have k3 := numL_len 10 (by omega) 1 e (by omega)
    show (Lib.join [numL 10 a, [114, 101, 112, 108, 121], numL 16 v, numL 10 e] [32]).length ≤ 36
    exact Nat.le_trans (join_len _ 8 (by intro z hz; simp at hz; rcases hz with rfl | rfl | rfl | rfl <;> (try simp) <;> omega)) (by simp)
  | call a n h1 h2 =>
    have k1 := numL_len 10 (by omega) 3 a (by omega)
    have k2 := numL_len 10 (by omega) 0 n (by omega)
    show (Lib.join [numL 10 a, [99, 97, 108, 108], numL 10 n] [32]).length ≤ 36
    exact Nat.le_trans (join_len _ 8 (by intro z hz; simp at hz; rcases hz with rfl | rfl | rfl <;> (try simp) <;> omega)) (by simp)
theorem showT_len {l : List Ev} (h : ∀ x ∈ l, LineS x) : (showT l).length ≤ l.length * 37 := by
  induction l with
  | nil => simp [showT]
  | cons x r ih =>
    have h1 := line_len (h x (by simp))
    have h2 := ih (fun z hz => h z (by simp [hz]))
    simp only [showT, List.length_append, List.length_cons, List.length_nil]
    omega
end Go.Proofs.YtojleleohhaigaaDoor
