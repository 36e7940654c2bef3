/- The reader of package trace: number, walked. Conditions: the listed variables are laid; words are short. -/
import Derived.Test.YtojleleohhaigaaDoorTrP
import Derived.Test.YtojleleohhaigaaDoorTrR
import Derived.Test.YtojleleohhaigaaDoorStageE
namespace Go.Proofs.YtojleleohhaigaaDoor
open Go Go.RowKit

/-- A slice holds these words. -/
def StS (w : World) (v : Value) (ws : List (List UInt8)) : Prop :=
  (∃ p c, v = .slice p 0 c ∧ ws = []) ∨ ∃ b off c, v = .slice (some ⟨b, off, none⟩) ws.length c ∧ 0 < ws.length ∧ ws.length ≤ c ∧ b < w.heap.size ∧ ∀ (j : Nat) l, ws[j]? = some l → w.cell? ⟨b, off + j, none⟩ = some (str l)
theorem StS.only {S : List Nat} {w w' : World} {v : Value} {ws : List (List UInt8)} (h : StS w v ws) (hO : Only S w w') (hS : ∀ b, b < w.heap.size → v.ownBlock = some b → b ∉ S) : StS w' v ws := by
  rcases h with h | ⟨b, off, c, rfl, h0, hc, hb, hE⟩
  · exact .inl h
  · exact .inr ⟨b, off, c, rfl, h0, hc, Nat.lt_of_lt_of_le hb hO.size, fun j l hj => (hO.cell (p := ⟨b, off + j, none⟩) hb (hS b hb rfl)).trans (hE j l hj)⟩
theorem StS.tail {w : World} {b off n c : Nat} {l : List UInt8} {ws : List (List UInt8)} (h : StS w (.slice (some ⟨b, off, none⟩) n c) (l :: ws)) : StS w (.slice (if c = 1 then some ⟨b, off, none⟩ else some ⟨b, off + 1, none⟩) (n - 1) (c - 1)) ws := by
  rcases h with ⟨p, c', -, he⟩ | ⟨b', off', c', he, h0, hc, hb, hE⟩
  · cases he
  · simp only [Value.slice.injEq, Option.some.injEq, Addr.mk.injEq, and_true] at he
    obtain ⟨⟨rfl, rfl⟩, rfl, rfl⟩ := he
    cases ws with
    | nil => exact .inl ⟨_, _, rfl, rfl⟩
    | cons m ws =>
      rw [if_neg (by simp at hc; omega)]
      refine .inr ⟨b, off + 1, c - 1, rfl, by simp, by simp at hc ⊢; omega, hb, fun j k hj => ?_⟩
      have := hE (j + 1) k (by simpa using hj)
      rwa [show off + 1 + j = off + (j + 1) by omega]
theorem StS.at_ {w : World} {v : Value} {l : List UInt8} {ws : List (List UInt8)} (h : StS w v (l :: ws)) : ∃ b off c, v = .slice (some ⟨b, off, none⟩) (ws.length + 1) c ∧ ws.length + 1 ≤ c ∧ b < w.heap.size ∧ w.cell? ⟨b, off, none⟩ = some (str l) := by
  rcases h with ⟨p, c', -, he⟩ | ⟨b, off, c, rfl, h0, hc, hb, hE⟩
  · cases he
  · exact ⟨b, off, c, rfl, hc, hb, hE 0 l rfl⟩

/-- The reader, at these words. -/
def RdW (w : World) (rb : Nat) (ws : List (List UInt8)) : Prop := ∃ v, Blk w rb 73 #[v] ∧ StS w v ws ∧ (ws ≠ [] → ∀ b, v.ownBlock = some b → b ≠ rb)
theorem RdW.only {S : List Nat} {w w' : World} {rb : Nat} {ws : List (List UInt8)} (h : RdW w rb ws) (hO : Only S w w') (h1 : rb ∉ S) (h2 : ∀ x ∈ S, w.heap.size ≤ x) : RdW w' rb ws := by
  obtain ⟨v, hb, hs, hn⟩ := h
  exact ⟨v, hO.blk hb h1, hs.only hO (fun b hlt _ hbs => by have := h2 b hbs; omega), hn⟩
theorem RdW.lt {w : World} {rb : Nat} {ws : List (List UInt8)} (h : RdW w rb ws) : rb < w.heap.size := by
  obtain ⟨v, hb, -⟩ := h
  exact hb.lt
theorem Gl.onlyN {S : List Nat} {w0 w w' : World} (hg : Gl w0) (h0 : Only [] w0 w) (hO : Only S w w') (hS : ∀ x ∈ S, w0.heap.size ≤ x) : Gl w' :=
  hg.only (h0.trans' hO (fun x hx hlt => by have := hS x hx; omega))

theorem Gl.onlyS {S : List Nat} {w w' : World} (h : Gl w) (hO : Only S w w') (hS : ∀ x ∈ S, 8 ≤ x) : Gl w' := by
  have hl := h.lt
  have hb : ∀ g, g < 8 → w'.heap[g]? = w.heap[g]? := fun g hg => hO.block g (by omega) (fun hm => by have := hS g hm; omega)
  have hv : ∀ (n : String) (g : Nat), Tryd.prog.globalNamed n = some g → g < 8 → w'.var? Tryd.prog n = w.var? Tryd.prog n := by
    intro n g hn hg
    unfold World.var?
    simp only [hn, Option.bind_some]
    rw [hb g hg]
  have hc : ∀ (g i : Nat), g < 8 → w'.cell? ⟨g, i, none⟩ = w.cell? ⟨g, i, none⟩ := by
    intro g i hg
    unfold World.cell?
    simp only
    rw [hb g hg]
  refine ⟨?_, ?_, ?_, ?_, ?_, Nat.le_trans hl hO.size⟩
  · have := h.tab
    unfold Lib.TabIs at this ⊢
    rw [hv _ 0 (by kernel_rfl) (by omega)]
    exact this
  · obtain ⟨m, hm⟩ := h.ml
    exact ⟨m, by rw [hc _ _ (by omega)]; exact hm⟩
  · obtain ⟨tp, p, hm⟩ := h.es
    exact ⟨tp, p, by rw [hv _ 6 (by kernel_rfl) (by omega)]; exact hm⟩
  · obtain ⟨tp, p, hm⟩ := h.er
    exact ⟨tp, p, by rw [hv _ 7 (by kernel_rfl) (by omega)]; exact hm⟩
  · rw [hc _ _ (by omega)]
    exact h.db

/-- What a number reads as. -/
def numV (p : Lib.NumEnd Nat) : Nat := if endOk p then endV 4294967295 p % 4294967296 else 4294967295
theorem numV_lt (p : Lib.NumEnd Nat) : numV p < 4294967296 := by unfold numV; split <;> omega
def numW (b : Nat) (ws : List (List UInt8)) : Nat := match ws with
  | [] => 4294967295
  | l :: _ => numV (if b = 10 then parseDec l else parseHex l)
theorem numW_lt (b : Nat) (ws : List (List UInt8)) : numW b ws < 4294967296 := by
  cases ws with
  | nil => simp [numW]
  | cons l r => exact numV_lt _

theorem parse_any (b : Nat) (hb : b = 10 ∨ b = 16) (l : List UInt8) (hl : l.length ≤ 1000000) (w : World) (hg : Gl w) :
    Calls Tryd.prog 71 #[str l, .int .i64 b, .int .i64 32] w fun e w' => ∃ ev, e = .returned (.tuple #[.int .u64 (endV 4294967295 (if b = 10 then parseDec l else parseHex l)), ev]) ∧ ErrV (endOk (if b = 10 then parseDec l else parseHex l)) ev ∧ Only [] w w' := by
  rcases hb with rfl | rfl
  · exact pub10_any l hl w hg
  · exact pub16_any l hl w hg

set_option maxRecDepth 100000 in
set_option maxHeartbeats 2000000 in
theorem number_any (b : Nat) (hb : b = 10 ∨ b = 16) (rb : Nat) (ws : List (List UInt8)) (hbig : ws.length ≤ 1000000) (hw : ∀ l ∈ ws, l.length ≤ 1000000) (w : World) (hg : Gl w) (hrb : 8 ≤ rb) (hR : RdW w rb ws) :
    Calls Tryd.prog 55 #[.pointer (some ⟨rb, 0, none⟩), .int .i64 b] w fun e w' => e = .returned (.int .u32 (numW b ws)) ∧ RdW w' rb ws.tail ∧ Only [rb] w w' := by
  obtain ⟨v, hB, hS, hn⟩ := hR
  have c0 : w.cell? ⟨rb, 0, none⟩ = some v := hB.cell 0
  cases ws with
  | nil =>
    obtain ⟨p, c, rfl⟩ : ∃ p c, v = .slice p 0 c := by
      rcases hS with ⟨p, c, rfl, -⟩ | ⟨_, _, _, -, h0, -⟩
      · exact ⟨p, c, rfl⟩
      · simp at h0
    have HS := Lib.hid (And.intro hS hn)
    clear hS hn
    go_enter Tryd.func55, Tryd.ntmps55
    go_wp2
    go_returns
    exact ⟨rfl, ⟨_, hB, HS.out.1, HS.out.2⟩, Only.refl _ _⟩
  | cons l ws =>
    obtain ⟨sb, off, c, rfl, hc, hsl, hcell⟩ := hS.at_
    have hne := hn (by simp) sb rfl
    have hT := hS.tail
    have HT := Lib.hid hT
    have HP := Lib.hid (parse_any b hb l (hw l (by simp)) w hg)
    have hlen : (ws.length : Int) + 1 ≤ 1000000 := by simp at hbig; omega
    have hnv : numW b (l :: ws) = numV (if b = 10 then parseDec l else parseHex l) := rfl
    rw [hnv]
    generalize (if b = 10 then parseDec l else parseHex l) = pr at HP ⊢
    clear hS hT hn hg hw hnv hbig
    obtain ⟨n, hn⟩ : ∃ n, n = ws.length + 1 := ⟨_, rfl⟩
    rw [← hn] at hc hB c0 HT
    have hn0 : 0 < n := by omega
    have hn1 : ¬ n = 0 := by omega
    have hn2 : (1 : Int) ≤ (n : Int) := by omega
    have hn3 : (0 : Int) < (n : Int) := by omega
    have hn4 : n ≤ 1000000 := by omega
    have Hn := Lib.hid hn
    clear hn hlen
    have HQ : Hid (numV pr = if endOk pr then endV 4294967295 pr % 4294967296 else 4294967295) := rfl
    generalize numV pr = nv at HQ ⊢
    generalize endV 4294967295 pr = q at HP HQ
    cases hok : endOk pr with
    | true =>
      rw [hok] at HP HQ
      by_cases hc1 : c = 1
      · rw [if_pos hc1] at HT
        go_enter Tryd.func55, Tryd.ntmps55
        go_wp2_with (go_at_call 71; refine HP.out.mono ?_; rintro e w1 ⟨ev, rfl, hev, hO⟩; have hB1 := hO.blk hB (by simp); have c1 : w1.cell? ⟨rb, 0, none⟩ = some (.slice (some ⟨sb, off, none⟩) n c) := hB1.cell 0; have f1 := hB1.frozen 0; obtain rfl : ev = .nilIface := hev)
        go_returns
        refine ⟨?_, ⟨_, hB1.set_ 0 _, ?_, ?_⟩, (hO.mono (by simp)).trans ((Only.refl [rb] _).set1 (by simp) 0 _)⟩
        · rw [HQ.out]; simp
        · have := (HT.out.only hO (by simp)).only ((Only.refl [rb] w1).set1 (b := rb) (by simp) 0 (.slice (some ⟨sb, off, none⟩) (n - 1) (c - 1))) (by intro b _ hb; simp [Value.ownBlock] at hb; subst hb; simpa using hne)
          simpa [hc1] using this
        · intro _ b hb
          simp [Value.ownBlock] at hb
          omega
      · rw [if_neg hc1] at HT
        go_enter Tryd.func55, Tryd.ntmps55
        go_wp2_with (go_at_call 71; refine HP.out.mono ?_; rintro e w1 ⟨ev, rfl, hev, hO⟩; have hB1 := hO.blk hB (by simp); have c1 : w1.cell? ⟨rb, 0, none⟩ = some (.slice (some ⟨sb, off, none⟩) n c) := hB1.cell 0; have f1 := hB1.frozen 0; obtain rfl : ev = .nilIface := hev)
        go_returns
        refine ⟨?_, ⟨_, hB1.set_ 0 _, ?_, ?_⟩, (hO.mono (by simp)).trans ((Only.refl [rb] _).set1 (by simp) 0 _)⟩
        · rw [HQ.out]; simp
        · have := (HT.out.only hO (by simp)).only ((Only.refl [rb] w1).set1 (b := rb) (by simp) 0 (.slice (some ⟨sb, off + 1, none⟩) (n - 1) (c - 1))) (by intro b _ hb; simp [Value.ownBlock] at hb; subst hb; simpa using hne)
          simpa [hc1] using this
        · intro _ b hb
          simp [Value.ownBlock] at hb
          omega
    | false =>
      rw [hok] at HP HQ
      by_cases hc1 : c = 1
      · rw [if_pos hc1] at HT
        go_enter Tryd.func55, Tryd.ntmps55
        go_wp2_with (go_at_call 71; refine HP.out.mono ?_; rintro e w1 ⟨ev, rfl, hev, hO⟩; have hB1 := hO.blk hB (by simp); have c1 : w1.cell? ⟨rb, 0, none⟩ = some (.slice (some ⟨sb, off, none⟩) n c) := hB1.cell 0; have f1 := hB1.frozen 0; obtain ⟨N, rfl⟩ : ∃ N, ev = .iface 129 (.pointer (some ⟨N, 0, none⟩)) := hev)
        go_returns
        refine ⟨?_, ⟨_, hB1.set_ 0 _, ?_, ?_⟩, (hO.mono (by simp)).trans ((Only.refl [rb] _).set1 (by simp) 0 _)⟩
        · rw [HQ.out]; simp
        · have := (HT.out.only hO (by simp)).only ((Only.refl [rb] w1).set1 (b := rb) (by simp) 0 (.slice (some ⟨sb, off, none⟩) (n - 1) (c - 1))) (by intro b _ hb; simp [Value.ownBlock] at hb; subst hb; simpa using hne)
          simpa [hc1] using this
        · intro _ b hb
          simp [Value.ownBlock] at hb
          omega
      · rw [if_neg hc1] at HT
        go_enter Tryd.func55, Tryd.ntmps55
        go_wp2_with (go_at_call 71; refine HP.out.mono ?_; rintro e w1 ⟨ev, rfl, hev, hO⟩; have hB1 := hO.blk hB (by simp); have c1 : w1.cell? ⟨rb, 0, none⟩ = some (.slice (some ⟨sb, off, none⟩) n c) := hB1.cell 0; have f1 := hB1.frozen 0; obtain ⟨N, rfl⟩ : ∃ N, ev = .iface 129 (.pointer (some ⟨N, 0, none⟩)) := hev)
        go_returns
        refine ⟨?_, ⟨_, hB1.set_ 0 _, ?_, ?_⟩, (hO.mono (by simp)).trans ((Only.refl [rb] _).set1 (by simp) 0 _)⟩
        · rw [HQ.out]; simp
        · have := (HT.out.only hO (by simp)).only ((Only.refl [rb] w1).set1 (b := rb) (by simp) 0 (.slice (some ⟨sb, off + 1, none⟩) (n - 1) (c - 1))) (by intro b _ hb; simp [Value.ownBlock] at hb; subst hb; simpa using hne)
          simpa [hc1] using this
        · intro _ b hb
          simp [Value.ownBlock] at hb
          omega

/-- What an event's words say. -/
def evOf (ws : List (List UInt8)) : Ev :=
  if (ws.tail.head?).getD [] = [114, 101, 112, 108, 121] then ⟨numW 10 ws, 1, numW 16 ws.tail.tail, numW 10 ws.tail.tail.tail, 0⟩ else ⟨numW 10 ws, 2, 0, 0, numW 10 ws.tail.tail⟩
end Go.Proofs.YtojleleohhaigaaDoor
