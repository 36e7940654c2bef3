/- One step of DmaMoves: what a step of the engine comes to when the law's asker answers. Conditions: the law's cells hold what it puts there. -/
import Derived.Test.YtnnlnffdbdpmbaaMovesA
import Derived.Test.YtnnlnffdbdpmbaaMovesI
import Derived.Test.YtnnlnffdbdpmbaaDmaE
import Derived.Test.YtnnlnffdbdpmbaaDmaF
namespace Go.Proofs.Ytnnlnffdbdpmbaa
open Go Go.RowKit

/-- The word that is read at k. -/
def heldAt (len : Nat) (f : Nat → Int) (k : Nat) : Int := if k < len then f k else 0

/-- The engine behind i steps. -/
def mv (fr tt : Int) (words len : Nat) (f : Nat → Int) (i : Nat) : ES :=
  ⟨(fr + 4 * (((i + 1) / 2 : Nat) : Int)) % 4294967296, (tt + 4 * ((i / 2 : Nat) : Int)) % 4294967296, ((words - i / 2 : Nat) : Int), if i % 2 = 1 then heldAt len f (i / 2) else 0,
    decide (i % 2 = 1), decide (i / 2 < words), false, !decide (i / 2 < words), true⟩

/-- What was held last. -/
def heldOf (len : Nat) (f : Nat → Int) (i : Nat) : Int := if i = 0 then 0 else heldAt len f ((i - 1) / 2)

/-- The engine behind i steps, the one that is denied with it. -/
def stt (fr tt dn : Int) (words len : Nat) (f : Nat → Int) (i : Nat) : ES :=
  if 0 < i ∧ dn + 1 = i then (mv fr tt words len f (i - 1)).told 0 10 else mv fr tt words len f i

theorem mv_even (fr tt : Int) (words len : Nat) (f : Nat → Int) (i : Nat) (h : i % 2 = 0) (hw : i / 2 < words) :
    (mv fr tt words len f i).told (heldAt len f (i / 2)) 0 = mv fr tt words len f (i + 1) := by
  unfold mv ES.told
  have h1 : (i + 1) / 2 = i / 2 := by omega
  have h2 : (i + 1 + 1) / 2 = i / 2 + 1 := by omega
  have h3 : (i + 1) % 2 = 1 := by omega
  simp only [h, h1, h2, h3, hw]
  simp
  omega

theorem mv_odd (fr tt : Int) (words len : Nat) (f : Nat → Int) (i : Nat) (v : Int) (h : i % 2 = 1) (hw : i / 2 < words) (hw2 : words ≤ 100) :
    (mv fr tt words len f i).told v 0 = mv fr tt words len f (i + 1) := by
  unfold mv ES.told
  have h1 : (i + 1) / 2 = i / 2 + 1 := by omega
  have h2 : (i + 1 + 1) / 2 = i / 2 + 1 := by omega
  have h3 : (i + 1) % 2 = 0 := by omega
  have h4 : (((words - i / 2 : Nat) : Int) - 1) % 4294967296 = ((words - (i / 2 + 1) : Nat) : Int) := by omega
  have h5 : (tt + 4 * ((i / 2 : Nat) : Int)) % 4294967296 = (tt + 4 * ((i / 2 : Nat) : Int)) % 4294967296 := rfl
  have h6 : decide ((((words - (i / 2 + 1) : Nat) : Int)) > 0) = decide (i / 2 + 1 < words) := by
    apply decide_eq_decide.2; omega
  have h7 : ((tt + 4 * ((i / 2 : Nat) : Int)) % 4294967296 + 4) % 4294967296 = (tt + 4 * ((i / 2 + 1 : Nat) : Int)) % 4294967296 := by omega
  simp only [h, h1, h2, h3, hw, h4, h6, h7]
  simp

/-- The cells of the law. -/
structure MvW (w : World) (B b bn br bw bf bh bv bt bd : Nat) (fr tt wd dn : Int) (ao : Option Addr) (len cap : Nat) (f : Nat → Int) (k : Nat) (H : Int) (s : ES) : Prop where
  eng : EngB w b s
  pn : Blk w bn 3 #[.int .i64 k]
  pr : Blk w br 4 #[.bool true]
  pw : Blk w bw 3 #[.int .i64 wd]
  pf : Blk w bf 22 #[.int .u32 fr]
  ph : Blk w bh 22 #[.int .u32 H]
  pv : Blk w bv 55 #[.slice ao len cap]
  pt : Blk w bt 22 #[.int .u32 tt]
  pd : Blk w bd 3 #[.int .i64 dn]
  nw : bn ≠ bw
  nd : bn ≠ bd
  hf : bh ≠ bf
  ht : bh ≠ bt
  lb : B ≤ b
  ln : B ≤ bn
  lr : B ≤ br
  lh : B ≤ bh
  vals : ∀ k, k < len → k < 100 → ∃ bk off, ao = some ⟨bk, off, none⟩ ∧ bk < B ∧ w.cell? ⟨bk, off + k, none⟩ = some (.int .u32 (f k))

/-- What the law's asker answers, and what it leaves. -/
def MvR (bn br bh : Nat) (dn : Int) (k : Nat) (H' : Int) (val err : Int) (w w' : World) : Prop :=
  val = (if (k : Int) = dn then 0 else H') ∧ err = (if (k : Int) = dn then 10 else 0) ∧ Blk w' bn 3 #[.int .i64 ((k + 1 : Nat) : Int)] ∧ Blk w' bh 22 #[.int .u32 H'] ∧ Blk w' br 4 #[.bool true] ∧ Only [bn, br, bh] w w'

theorem MvW.only {w w' : World} {B b bn br bw bf bh bv bt bd : Nat} {fr tt wd dn : Int} {ao : Option Addr} {len cap : Nat} {f : Nat → Int} {k : Nat} {H : Int} {s : ES}
    (h : MvW w B b bn br bw bf bh bv bt bd fr tt wd dn ao len cap f k H s) (hO : Only [] w w') : MvW w' B b bn br bw bf bh bv bt bd fr tt wd dn ao len cap f k H s := by
  refine ⟨hO.blk h.eng (by simp), hO.blk h.pn (by simp), hO.blk h.pr (by simp), hO.blk h.pw (by simp), hO.blk h.pf (by simp), hO.blk h.ph (by simp), hO.blk h.pv (by simp), hO.blk h.pt (by simp), hO.blk h.pd (by simp), h.nw, h.nd, h.hf, h.ht, h.lb, h.ln, h.lr, h.lh, fun k hk hk1 => ?_⟩
  obtain ⟨bk, off, e, hb, hc⟩ := h.vals k hk hk1
  refine ⟨bk, off, e, hb, ?_⟩
  have := h.eng.lt
  have := h.lb
  rw [hO.cell (p := ⟨bk, off + k, none⟩) (by simp; omega) (by simp)]
  exact hc

theorem mv_asker (w : World) (B b bn br bw bf bh bv bt bd : Nat) (fr tt wd dn : Int) (ao : Option Addr) (words len cap : Nat) (f : Nat → Int) (k : Nat)
    (h : MvW w B b bn br bw bf bh bv bt bd fr tt wd dn ao len cap f k (heldOf len f k) (mv fr tt words len f k)) (hk : k / 2 < words) (hw : words ≤ 100) :
    Asker w [bn, br, bh] b 23 #[] #[.pointer (some ⟨bn, 0, none⟩), .pointer (some ⟨br, 0, none⟩), .pointer (some ⟨bw, 0, none⟩), .pointer (some ⟨bf, 0, none⟩), .pointer (some ⟨bh, 0, none⟩), .pointer (some ⟨bv, 0, none⟩), .pointer (some ⟨bt, 0, none⟩), .pointer (some ⟨bd, 0, none⟩)]
      ((mv fr tt words len f k).asks wd) (MvR bn br bh dn k (heldAt len f (k / 2))) where
  run := fun args w => by kernel_rfl
  ask := by
    intro w1 h1
    have g := h.only h1
    have t1 : (k : Int).tdiv 2 = ((k / 2 : Nat) : Int) := by rw [Int.tdiv_eq_ediv_of_nonneg (by omega)]; omega
    have t2 : (k : Int).tmod 2 = ((k % 2 : Nat) : Int) := by rw [Int.tmod_eq_emod_of_nonneg (by omega)]; omega
    have fin : ∀ (x : Int) (e : Ending) (w' : World), (e = .returned (if (k : Int) = dn then reply 0 10 else reply x 0) ∧ Blk w' bn 3 #[.int .i64 ((k : Int) + 1)] ∧ Blk w' bh 22 #[.int .u32 x] ∧ Blk w' br 4 #[.bool true] ∧ Only [bn, br, bh] w1 w') → x = heldAt len f (k / 2) →
        ∃ val err, e = .returned (reply val err) ∧ MvR bn br bh dn k (heldAt len f (k / 2)) val err w1 w' := by
      rintro x e w' ⟨rfl, q1, q2, q3, q4⟩ rfl
      by_cases hd : (k : Int) = dn
      · exact ⟨0, 10, by rw [if_pos hd], by rw [if_pos hd], by rw [if_pos hd], by simpa using q1, q2, q3, q4⟩
      · exact ⟨_, 0, by rw [if_neg hd], by rw [if_neg hd], by rw [if_neg hd], by simpa using q1, q2, q3, q4⟩
    rcases Nat.mod_two_eq_zero_or_one k with h2 | h2
    · have e1 : (k + 1) / 2 = k / 2 := by omega
      have ea : (mv fr tt words len f k).asks wd = .agg #[.int .i64 wd, .bool false, .int .u32 ((fr + 4 * ((k / 2 : Nat) : Int)) % 4294967296), .int .i64 4, .int .u32 0] := by
        unfold mv ES.asks
        simp [h2, e1]
      rw [ea]
      by_cases hin : k / 2 < len
      · obtain ⟨bk, off, rfl, hb, hc⟩ := g.vals (k / 2) hin (by omega)
        have := g.lb
        have := g.lr
        have := g.lh
        have := g.eng.lt
        refine (moves_in bn br bw bf bh bv bt bd k wd fr _ (heldOf len f k) dn (k / 2) bk off len cap (f (k / 2)) w1 g.pn g.pr g.pw g.pf g.ph g.pd g.nd g.pv (by omega) hc (by omega) (by omega) hin t1 (by rw [t2, h2]; rfl) (by omega) rfl (by omega) (by omega)).mono ?_
        intro e w' hh
        exact fin _ _ _ hh (by unfold heldAt; rw [if_pos hin])
      · refine (moves_out bn br bw bf bh bv bt bd k wd fr _ (heldOf len f k) dn (k / 2) ao len cap w1 g.pn g.pr g.pw g.pf g.ph g.pd g.nd g.pv (by omega) t1 (by rw [t2, h2]; rfl) (by omega) rfl (by omega) (by omega)).mono ?_
        intro e w' hh
        exact fin _ _ _ hh (by unfold heldAt; rw [if_neg hin])
    · have e1 : heldOf len f k = heldAt len f (k / 2) := by
        unfold heldOf
        rw [if_neg (by omega)]
        have : (k - 1) / 2 = k / 2 := by omega
        rw [this]
      have ea : (mv fr tt words len f k).asks wd = .agg #[.int .i64 wd, .bool true, .int .u32 ((tt + 4 * ((k / 2 : Nat) : Int)) % 4294967296), .int .i64 4, .int .u32 (heldAt len f (k / 2))] := by
        unfold mv ES.asks
        simp [h2]
      rw [ea]
      refine (moves_odd bn br bw bf bh bv bt bd k wd tt _ (heldAt len f (k / 2)) dn (k / 2) w1 g.pn g.pr g.pw g.pt (by rw [← e1]; exact g.ph) g.pd g.nd t1 (by rw [t2, h2]; rfl) (by omega) rfl (by omega) (by omega)).mono ?_
      intro e w' hh
      exact fin _ _ _ hh rfl
  only := fun _ _ _ _ h => h.2.2.2.2.2
  low := by
    intro x hx
    simp only [List.mem_cons, List.not_mem_nil, or_false] at hx
    rcases hx with rfl | rfl | rfl
    · exact h.pn.lt
    · exact h.pr.lt
    · exact h.ph.lt
  own := by
    intro hx
    simp only [List.mem_cons, List.not_mem_nil, or_false] at hx
    rcases hx with h1 | h1 | h1
    · exact Blk.ne_ h.eng h.pn (by decide) h1
    · exact Blk.ne_ h.eng h.pr (by decide) h1
    · exact Blk.ne_ h.eng h.ph (by decide) h1

theorem moves_step (w : World) (B b bn br bw bf bh bv bt bd : Nat) (fr tt wd dn : Int) (ao : Option Addr) (words len cap : Nat) (f : Nat → Int) (k : Nat)
    (h : MvW w B b bn br bw bf bh bv bt bd fr tt wd dn ao len cap f k (heldOf len f k) (mv fr tt words len f k)) (hk : k / 2 < words) (hw : words ≤ 100) :
    Calls Try.prog 12 #[.pointer (some ⟨b, 0, none⟩), .int .i64 wd, .func (.func 23) #[] #[.pointer (some ⟨bn, 0, none⟩), .pointer (some ⟨br, 0, none⟩), .pointer (some ⟨bw, 0, none⟩), .pointer (some ⟨bf, 0, none⟩), .pointer (some ⟨bh, 0, none⟩), .pointer (some ⟨bv, 0, none⟩), .pointer (some ⟨bt, 0, none⟩), .pointer (some ⟨bd, 0, none⟩)]] w fun e w' =>
      e = .returned (.bool true) ∧ MvW w' B b bn br bw bf bh bv bt bd fr tt wd dn ao len cap f (k + 1) (heldOf len f (k + 1)) (stt fr tt dn words len f (k + 1)) ∧ OnlyB B [] w w' := by
  have hA := mv_asker w B b bn br bw bf bh bv bt bd fr tt wd dn ao words len cap f k h hk hw
  have hbusy : (mv fr tt words len f k).busy = true := by unfold mv; simpa using hk
  have hend : ∀ e w', Stepped1 w b (mv fr tt words len f k) (MvR bn br bh dn k (heldAt len f (k / 2))) e w' →
      e = .returned (.bool true) ∧ MvW w' B b bn br bw bf bh bv bt bd fr tt wd dn ao len cap f (k + 1) (heldOf len f (k + 1)) (stt fr tt dn words len f (k + 1)) ∧ OnlyB B [] w w' := by
    rintro e w' ⟨val, err, w1, w2, r, cs, hO1, ⟨rfl, rfl, q1, q2, q3, q4⟩, rfl, hE, hr, hrb, hO3⟩
    have hO4 : Only [bn, br, bh, b, r] w w' := (((hO1.mono (by simp)).trans (q4.mono (by simp)) : Only [bn, br, bh, b, r] w w2)).trans (hO3.mono (by simp))
    have lb := h.eng.lt
    have ln := h.pn.lt
    have lr := h.pr.lt
    have lh := h.ph.lt
    have d1 : bn ≠ b := Blk.ne_ h.pn h.eng (by decide)
    have d2 : br ≠ b := Blk.ne_ h.pr h.eng (by decide)
    have d3 : bh ≠ b := Blk.ne_ h.ph h.eng (by decide)
    have hst : (mv fr tt words len f k).told (if (k : Int) = dn then 0 else heldAt len f (k / 2)) (if (k : Int) = dn then 10 else 0) = stt fr tt dn words len f (k + 1) := by
      unfold stt
      by_cases hd : (k : Int) = dn
      · rw [if_pos hd, if_pos hd, if_pos (by omega)]; rfl
      · rw [if_neg hd, if_neg hd, if_neg (by omega)]
        rcases Nat.mod_two_eq_zero_or_one k with h2 | h2
        · exact mv_even fr tt words len f k h2 hk
        · exact mv_odd fr tt words len f k _ h2 hk hw
    rw [hst] at hE
    have hH : heldOf len f (k + 1) = heldAt len f (k / 2) := by
      unfold heldOf
      rw [if_neg (by omega)]
      rfl
    have far : ∀ {g t cs}, Blk w g t cs → g ≠ bn → g ≠ br → g ≠ bh → g ≠ b → Blk w' g t cs := by
      intro g t cs hg n1 n2 n3 n4
      have := hg.lt
      exact hO4.blk hg (by simp; exact ⟨n1, n2, n3, n4, by omega⟩)
    refine ⟨rfl, ⟨hE, hO3.blk q1 (by simp; exact ⟨d1, by omega⟩), hO3.blk q3 (by simp; exact ⟨d2, by omega⟩), far h.pw h.nw.symm (Blk.ne_ h.pw h.pr (by decide)) (Blk.ne_ h.pw h.ph (by decide)) (Blk.ne_ h.pw h.eng (by decide)),
      far h.pf (Blk.ne_ h.pf h.pn (by decide)) (Blk.ne_ h.pf h.pr (by decide)) h.hf.symm (Blk.ne_ h.pf h.eng (by decide)), by rw [hH]; exact hO3.blk q2 (by simp; exact ⟨d3, by omega⟩),
      far h.pv (Blk.ne_ h.pv h.pn (by decide)) (Blk.ne_ h.pv h.pr (by decide)) (Blk.ne_ h.pv h.ph (by decide)) (Blk.ne_ h.pv h.eng (by decide)),
      far h.pt (Blk.ne_ h.pt h.pn (by decide)) (Blk.ne_ h.pt h.pr (by decide)) h.ht.symm (Blk.ne_ h.pt h.eng (by decide)),
      far h.pd h.nd.symm (Blk.ne_ h.pd h.pr (by decide)) (Blk.ne_ h.pd h.ph (by decide)) (Blk.ne_ h.pd h.eng (by decide)), h.nw, h.nd, h.hf, h.ht, h.lb, h.ln, h.lr, h.lh, fun j hj hj1 => ?_⟩, ?_⟩
    · obtain ⟨bk, off, e, hb, hc⟩ := h.vals j hj hj1
      refine ⟨bk, off, e, hb, ?_⟩
      have := h.lb
      have := h.ln
      have := h.lr
      have := h.lh
      rw [hO4.cell (p := ⟨bk, off + j, none⟩) (by simp; omega) (by simp; omega)]
      exact hc
    · have := h.lb
      have := h.ln
      have := h.lr
      have := h.lh
      exact (hO4.b (B := B) (by omega)).mono (Nat.le_refl _) (by simp; omega)
  rcases Nat.mod_two_eq_zero_or_one k with h2 | h2
  · exact (step_read b _ _ _ (mv fr tt words len f k) wd w h.eng hbusy (by unfold mv; simp [h2]) (by unfold mv; simp [h2]) _ _ hA).mono hend
  · exact (step_write b _ _ _ (mv fr tt words len f k) wd w h.eng hbusy (by unfold mv; simp [h2]) _ _ hA).mono hend
end Go.Proofs.Ytnnlnffdbdpmbaa
