/- The chapter's example (awake) of layer 14, walked: it answers true. No condition. -/
import Derived.Test.YtnnlnffdbdpmbaaDmaD
import Derived.OwnWalk
import Derived.Laws.AppendOwn
import Derived.Laws.OwnMore
namespace Go.Proofs.Ytnnlnffdbdpmbaa
open Go Go.RowKit

theorem ownsRow_only {S : List Nat} {w w' : World} {base : Nat} {e : TypeId} {size n : Nat} {v : Value} {xs : List Value} (h : w.ownsRow base e size v n xs) (hO : Only S w w')
    (hS : ∀ g, v.ownBlock = some g → g ∉ S) : w'.ownsRow base e size v n xs := by
  obtain ⟨h1, h2⟩ := h
  refine ⟨h1, ?_⟩
  rcases h2 with h2 | ⟨g, cap, cur, hv, hg, hh, r⟩
  · exact Or.inl h2
  · refine Or.inr ⟨g, cap, cur, hv, hg, ?_, r⟩
    have hlt : g < w.heap.size := by
      rcases Nat.lt_or_ge g w.heap.size with h' | h'
      · exact h'
      · simp [Array.getElem?_eq_none h'] at hh
    rw [hO.block g hlt (hS g (by rw [hv]; rfl))]
    exact hh
theorem own_lt {w : World} {base : Nat} {e : TypeId} {size n : Nat} {v : Value} {xs : List Value} (h : w.ownsRow base e size v n xs) : ∀ g, v.ownBlock = some g → base ≤ g ∧ g < w.heap.size := by
  intro g hg
  rcases h.2 with ⟨rfl, -⟩ | ⟨g', cap, cur, rfl, hb, hh, r⟩
  · simp [Value.ownBlock] at hg
  · have : g' = g := by simpa [Value.ownBlock] using hg
    subst this
    refine ⟨hb, ?_⟩
    rcases Nat.lt_or_ge g' w.heap.size with h' | h'
    · exact h'
    · simp [Array.getElem?_eq_none h'] at hh
theorem own_ne {w : World} {base : Nat} {e t : TypeId} {size n g : Nat} {v : Value} {xs : List Value} {cs : Array Value} (h : w.ownsRow base e size v n xs) (hg : Blk w g t cs) (hne : e ≠ t) : v.ownBlock ≠ some g := by
  rcases h.2 with ⟨rfl, _⟩ | ⟨g', cap, cur, rfl, _, hh, _⟩
  · simp [Value.ownBlock]
  · intro he
    have : g' = g := by simpa [Value.ownBlock] using he
    subst this
    exact Blk.ne_ (t := e) hh hg hne rfl

theorem infoAccess : (Try.prog.info? 30).map (fun i => (i.zero, i.size, i.bytes)) = some (some (.agg #[.int .i64 0, .bool false, .int .u32 0, .int .i64 0, .int .u32 0]), 5, 32) := by kernel_rfl

/-- What the example's asker does: it puts what is asked behind its list, and answers 7. -/
def AskR (bl base : Nat) (n : Nat) (xs : List Value) (ys : List Value) (v : Value) (val err : Int) (w1 w2 : World) : Prop :=
  val = 7 ∧ err = 0 ∧ Only (bl :: v.ownBlock.toList) w1 w2 ∧ ∃ v', Blk w2 bl 57 #[v'] ∧ w2.ownsRow base 30 5 v' (n + 1) (xs ++ ys)

set_option maxHeartbeats 1000000 in
theorem awake_ask (bl base n : Nat) (xs : List Value) (v y0 y1 y2 y3 y4 : Value) (w : World) (hb : Blk w bl 57 #[v]) (ho : w.ownsRow base 30 5 v n xs) (hn : n < 100) (hbase : base ≤ w.heap.size)
    (hy : ∀ u ∈ [y0, y1, y2, y3, y4], u.oneCell' = true) :
    Calls Try.prog 24 #[.agg #[y0, y1, y2, y3, y4], .pointer (some ⟨bl, 0, none⟩)] w fun e w2 => ∃ val err, e = .returned (reply val err) ∧ AskR bl base n xs [y0, y1, y2, y3, y4] v val err w w2 := by
  have hlt := hb.lt
  have c0 : w.cell? ⟨bl, 0, none⟩ = some v := hb.cell 0
  have f0 := hb.frozen 0
  obtain ⟨i0, hi, hz0, hz1, hz2⟩ := info_parts infoAccess
  have hne1 : ¬ bl = w.heap.size := by omega
  have hne2 : ¬ bl = w.heap.size + 1 := by omega
  have hne2' : ¬ bl = w.heap.size + 1 := by omega
  go_enter Try.func24, Try.ntmps24
  go_wp2_with (at_builtin; refine wpList_append_own _ rfl _ _ 57 rfl base 30 i0 (.agg #[.int .i64 0, .bool false, .int .u32 0, .int .i64 0, .int .u32 0]) 5 32 Try.underlying57 hi hz0 hz1 hz2 rfl (by decide) v n xs rfl (((ho.alloc _).alloc _).alloc _) ⟨w.heap.size + 1 + 1, 0, none⟩ 1 1 [y0, y1, y2, y3, y4] rfl rfl ?c1 ?c2 ?c3 ?c4 ?c5 ?_)
  case c1 =>
    intro j u hu
    have hB := Blk.new' (w := (w.alloc (.cells #[y0, y1, y2, y3, y4] 30)).alloc (.cells #[.int .u32 0, .int .i64 0] 33)) (n := w.heap.size + 1 + 1) (t := 30) (cs := #[y0, y1, y2, y3, y4]) rfl (by simp)
    have hj : (⟨w.heap.size + 1 + 1, 0, none⟩ : Addr).add j = ⟨w.heap.size + 1 + 1, j, none⟩ := by
      unfold Addr.add
      split
      · rename_i h; subst h; rfl
      · simp
    rw [hj, hB.cell j]
    simpa using hu
  case c2 => exact hy
  case c3 => unfold maxLen; omega
  case c4 => omega
  case c5 => simp; omega
  intro v' w1 hown1 hgrow _
  have ho3 := ((ho.alloc (.cells #[y0, y1, y2, y3, y4] 30)).alloc (.cells #[.int .u32 0, .int .i64 0] 33)).alloc (.cells #[y0, y1, y2, y3, y4] 30)
  have hb3 := ((hb.alloc (.cells #[y0, y1, y2, y3, y4] 30)).alloc (.cells #[.int .u32 0, .int .i64 0] 33)).alloc (.cells #[y0, y1, y2, y3, y4] 30)
  have hr3 := (Blk.new' (w := w.alloc (.cells #[y0, y1, y2, y3, y4] 30)) (n := w.heap.size + 1) (t := 33) (cs := #[.int .u32 0, .int .i64 0]) rfl (by simp)).alloc (.cells #[y0, y1, y2, y3, y4] 30)
  have hO : Only v.ownBlock.toList (((w.alloc (.cells #[y0, y1, y2, y3, y4] 30)).alloc (.cells #[.int .u32 0, .int .i64 0] 33)).alloc (.cells #[y0, y1, y2, y3, y4] 30)) w1 :=
    ⟨hgrow.os, hgrow.tape, hgrow.output, hgrow.size, fun k hk hn => hgrow.block k hk (fun e => hn (by rw [← e]; simp))⟩
  have hb1 := hO.blk hb3 (fun hm => own_ne ho3 hb3 (by decide) (by simpa using hm))
  have hr1 := hO.blk hr3 (fun hm => own_ne ho3 hr3 (by decide) (by simpa using hm))
  have hO0 : Only v.ownBlock.toList w w1 := ((((Only.refl _ w).alloc _).alloc _).alloc _).trans hO
  have d0 : w1.cell? ⟨bl, 0, none⟩ = some v := hb1.cell 0
  have g0 := hb1.frozen 0
  have r0 : w1.cell? ⟨w.heap.size + 1, 0, none⟩ = some (.int .u32 0) := hr1.cell 0
  have r1 : w1.cell? ⟨w.heap.size + 1, 1, none⟩ = some (.int .i64 0) := hr1.cell 1
  have q0 := hr1.frozen 0
  have q1 := hr1.frozen 1
  have hne3 : ¬ w.heap.size + 1 = bl := by omega
  rcases hown1.2 with ⟨-, h0⟩ | ⟨g, cap, cur, rfl, hg, hh, hr⟩
  · omega
  have hfin : (w1.setCell ⟨bl, 0, none⟩ (.slice (some ⟨g, 0, none⟩) (n + 1) cap)).ownsRow base 30 5 (.slice (some ⟨g, 0, none⟩) (n + 1) cap) (n + 1) (xs ++ [y0, y1, y2, y3, y4]) :=
    ownsRow_only (S := [bl]) hown1 ((Only.refl _ _).set1 (by simp) _ _) (fun g' hg' hm => own_ne hown1 hb1 (by decide) (by rw [hg']; simpa using hm))
  clear hown1 hgrow hh hr hO ho ho3 hb3 hr3 c0 f0
  go_wp2
  refine bodyPost_ret (v := reply 7 0) (by simp [results, Try.results24, go_sem, r0, r1]) rfl ⟨7, 0, rfl, rfl, rfl, ?_, .slice (some ⟨g, 0, none⟩) (n + 1) cap, ?_, ?_⟩
  · have h1 : Only (bl :: v.ownBlock.toList) w w1 := hO0.mono (fun x hx _ => by simp [hx])
    refine Only.setCell ?_ (.inr (by simp)) _
    refine Only.setCell ?_ (.inr (by simp)) _
    exact h1.set1 (by simp) _ _
  · exact (((hb1.set_ 0 _).far (by simpa using hne2') _).far (by simpa using hne2') _)
  · refine ownsRow_only (S := [w.heap.size + 1]) hfin ?_ (fun g' hg' hm => own_ne hfin (hr1.far (by simpa using hne3) _) (by decide) (by rw [hg']; simpa using hm))
    exact ((Only.refl _ _).set1 (by simp) _ _).set1 (by simp) _ _
end Go.Proofs.Ytnnlnffdbdpmbaa
