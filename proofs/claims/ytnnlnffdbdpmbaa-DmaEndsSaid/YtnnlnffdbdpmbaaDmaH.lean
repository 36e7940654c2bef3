/- The chapter's example (awake) of layer 14, walked: it answers true. No condition. -/
import Derived.Test.YtnnlnffdbdpmbaaDmaC
import Derived.Test.YtnnlnffdbdpmbaaDmaE
import Derived.Test.YtnnlnffdbdpmbaaDmaF
import Derived.Test.YtnnlnffdbdpmbaaDmaG
namespace Go.Proofs.Ytnnlnffdbdpmbaa
open Go Go.RowKit

theorem own_bound {w : World} {base : Nat} {e : TypeId} {size n : Nat} {v : Value} {xs : List Value} (h : w.ownsRow base e size v n xs) : ∀ x ∈ v.ownBlock.toList, x < w.heap.size := by
  intro x hx
  exact (own_lt h x (by simpa using hx)).2

/-- The example's asker is one. -/
theorem awake_asker (w : World) (b bl base n : Nat) (xs : List Value) (v : Value) (s : ES) (wd : Int) (hE : EngB w b s) (hb : Blk w bl 57 #[v]) (ho : w.ownsRow base 30 5 v n xs) (hn : n < 100) (hbase : base ≤ w.heap.size)
    (ys : List Value) (hys : s.asks wd = .agg ys.toArray) (h5 : ∃ y0 y1 y2 y3 y4, ys = [y0, y1, y2, y3, y4] ∧ ∀ u ∈ ys, u.oneCell' = true) :
    Asker w (bl :: v.ownBlock.toList) b 24 #[] #[.pointer (some ⟨bl, 0, none⟩)] (s.asks wd) (AskR bl base n xs ys v) where
  run := fun args w => by kernel_rfl
  ask := by
    intro w1 h1
    obtain ⟨y0, y1, y2, y3, y4, rfl, h6⟩ := h5
    rw [hys]
    exact awake_ask bl base n xs v y0 y1 y2 y3 y4 w1 (h1.blk hb (by simp)) (ownsRow_only ho h1 (by simp)) hn (Nat.le_trans hbase h1.size) h6
  only := fun val err w1 w2 h => h.2.2.1
  low := by
    intro x hx
    rcases List.mem_cons.1 hx with rfl | hx
    · exact hb.lt
    · exact own_bound ho x hx
  own := by
    intro hm
    rcases List.mem_cons.1 hm with h | h
    · exact Blk.ne_ hE hb (by decide) h
    · exact own_ne ho hE (by decide) (by simpa using h)

set_option maxHeartbeats 2000000 in
theorem awake_any (w : World) :
    Calls Try.prog 7 #[] w fun e w' => e = .returned (.bool true) ∧ Only [] w w' := by
  go_enter Try.func7, Try.ntmps7
  go_wp2_with fail
  refine (new_any _).mono ?_
  rintro e w1 ⟨b, rfl, hb0, hE1, hO1⟩
  go_wp2_with fail
  refine (write_any b _ 0 16 _ hE1 (by omega) (by omega)).mono ?_
  rintro e w2 ⟨rfl, hE2, hO2⟩
  go_wp2_with fail
  refine (write_any b _ 1 32 _ hE2 (by omega) (by omega)).mono ?_
  rintro e w3 ⟨rfl, hE3, hO3⟩
  go_wp2_with fail
  refine (write_any b _ 2 1 _ hE3 (by omega) (by omega)).mono ?_
  rintro e w4 ⟨rfl, hE4, hO4⟩
  go_wp2_with fail
  refine (write_any b _ 3 1 _ hE4 (by omega) (by omega)).mono ?_
  rintro e w5 ⟨rfl, hE5, hO5⟩
  have hE5' : EngB w5 b ⟨16, 32, 1, 0, false, true, false, false, false⟩ := hE5
  have hw : ∀ x, x ∈ [b] → x < w.heap.size → x ∈ ([] : List Nat) := fun x hx hl => by simp at hx; omega
  have hO : Only [] w w5 := (((hO1.trans' hO2 hw).trans' hO3 hw).trans' hO4 hw).trans' hO5 hw
  clear hE1 hE2 hE3 hE4 hE5 hO1 hO2 hO3 hO4 hO5
  have hlt5 := hE5'.lt
  have hbl0 : Blk (w5.alloc (.cells #[.slice none 0 0] 57)) w5.heap.size 57 #[.slice none 0 0] := Blk.new' rfl rfl
  have hEs : EngB _ b ⟨16, 32, 1, 0, false, true, false, false, false⟩ := hE5'.alloc (.cells #[.slice none 0 0] 57)
  have hown0 : (w5.alloc (.cells #[.slice none 0 0] 57)).ownsRow (w5.heap.size + 1) 30 5 (.slice none 0 0) 0 [] := ⟨rfl, .inl ⟨rfl, rfl⟩⟩
  have hA := awake_asker _ b w5.heap.size (w5.heap.size + 1) 0 [] (.slice none 0 0) _ 1 hEs hbl0 hown0 (by omega) (by simp) [.int .i64 1, .bool false, .int .u32 16, .int .i64 4, .int .u32 0] rfl ⟨_, _, _, _, _, rfl, by simp [Value.oneCell']⟩
  go_wp2_with fail
  refine (step_read b _ _ _ _ 1 _ hEs rfl rfl rfl _ _ hA).mono ?_
  rintro e w6 ⟨val, err, wa, wb, r, cs, hOa, ⟨rfl, rfl, hOb, v1, hbl1, hown1⟩, rfl, hE6, hr, hrb, hOc⟩
  have hE6' : EngB w6 b ⟨20, 32, 1, 7, true, true, false, false, false⟩ := hE6
  have hr' : w5.heap.size + 1 ≤ r := by simpa using hr
  have hnr : r ≠ w5.heap.size := by omega
  have hnb : b ≠ w5.heap.size := by omega
  have hbl2 := hOc.blk hbl1 (by simp [Ne.symm hnr, Ne.symm hnb])
  have hown2 := ownsRow_only hown1 hOc (fun g hg hm => by
    simp only [List.mem_cons, List.not_mem_nil, or_false] at hm
    rcases hm with rfl | rfl
    · have := (own_lt hown1 _ hg).1; omega
    · exact own_ne hown1 hrb (by decide) hg)
  have hO6 : OnlyB w5.heap.size [b] w5 w6 := by
    have h1 := (((Only.refl [] w5).alloc (.cells #[.slice none 0 0] 57)).trans hOa).b (B := w5.heap.size) (Nat.le_refl _)
    have hsz := h1.size
    have h2 := (hOb.b (B := w5.heap.size) hsz)
    have h3 := (hOc.b (B := w5.heap.size) (by have := hOb.size; omega))
    refine ((h1.mono (Nat.le_refl _) (by simp)).trans (h2.mono (Nat.le_refl _) ?_)).trans (h3.mono (Nat.le_refl _) ?_)
    · intro x hx hl
      simp [Value.ownBlock] at hx
      omega
    · intro x hx hl
      simp at hx hr ⊢
      omega
  clear hOa hOb hOc hbl1 hown1 hrb hA hEs hbl0 hown0
  have hA2 := awake_asker _ b w5.heap.size (w5.heap.size + 1) 1 _ v1 _ 1 hE6' hbl2 hown2 (by omega) hbl2.lt [.int .i64 1, .bool true, .int .u32 32, .int .i64 4, .int .u32 7] rfl ⟨_, _, _, _, _, rfl, by simp [Value.oneCell']⟩
  go_wp2_with fail
  refine (step_write b _ _ _ _ 1 _ hE6' rfl rfl _ _ hA2).mono ?_
  rintro e w7 ⟨val, err, wa, wb, r2, cs2, hOa, ⟨rfl, rfl, hOb, v2, hbl3, hown3⟩, rfl, hE7, hr2, hrb, hOc⟩
  have hE7' : EngB w7 b ⟨20, 36, 0, 0, false, false, false, true, false⟩ := hE7
  have hr2' : w5.heap.size + 1 ≤ r2 := Nat.le_trans hbl2.lt hr2
  have hbl4 := hOc.blk hbl3 (by simp; omega)
  have hown4 := ownsRow_only hown3 hOc (fun g hg hm => by
    simp only [List.mem_cons, List.not_mem_nil, or_false] at hm
    rcases hm with rfl | rfl
    · have := (own_lt hown3 _ hg).1; omega
    · exact own_ne hown3 hrb (by decide) hg)
  have hO7 : OnlyB w5.heap.size [b] w5 w7 := by
    have h1 := hOa.b (B := w5.heap.size) hO6.size
    have h2 := hOb.b (B := w5.heap.size) (by have := hOa.size; have := hO6.size; omega)
    have h3 := hOc.b (B := w5.heap.size) (by have := hOa.size; have := hO6.size; have := hOb.size; omega)
    refine ((hO6.trans (h1.mono (Nat.le_refl _) (by simp))).trans (h2.mono (Nat.le_refl _) ?_)).trans (h3.mono (Nat.le_refl _) ?_)
    · intro x hx hl
      rcases List.mem_cons.1 hx with rfl | hx
      · omega
      · have := (own_lt hown2 x (by simpa using hx)).1; omega
    · intro x hx hl
      simp at hx ⊢
      omega
  clear hOa hOb hOc hbl3 hown3 hrb hA2 hown2 hbl2 hE6 hE6' hO6
  go_wp2_with fail
  refine (step_idle b _ _ 1 _ hE7' rfl).mono ?_
  rintro e w8 ⟨rfl, hOd⟩
  have hE8 : EngB w8 b ⟨20, 36, 0, 0, false, false, false, true, false⟩ := hOd.blk hE7' (by simp)
  have hbl5 := hOd.blk hbl4 (by simp)
  have hown5 := ownsRow_only hown4 hOd (by simp)
  go_wp2_with fail
  refine (new_any _).mono ?_
  rintro e w9 ⟨c, rfl, hc0, hC1, hOe⟩
  have hE9 : EngB w9 b ⟨20, 36, 0, 0, false, false, false, true, false⟩ := hOe.blk hE8 (by simp)
  have hbl6 := hOe.blk hbl5 (by simp)
  have hown6 := ownsRow_only hown5 hOe (by simp)
  go_wp2_with fail
  refine (write_any c _ 3 1 _ hC1 (by omega) (by omega)).mono ?_
  rintro e w10 ⟨rfl, hC2, hOf⟩
  have hC2' : EngB w10 c ⟨0, 0, 0, 0, false, false, false, true, false⟩ := hC2
  have hE10 : EngB w10 b ⟨20, 36, 0, 0, false, false, false, true, false⟩ := hOf.blk hE9 (by have := hE8.lt; simp; omega)
  have hbl7 := hOf.blk hbl6 (by have := hbl5.lt; simp; omega)
  have hown7 := ownsRow_only hown6 hOf (fun g hg hm => by
    have := (own_lt hown5 g hg).2
    simp at hm
    omega)
  have hO10 : Only [] w w10 := by
    have h1 := hO.size
    have h2 := hO.b (B := w.heap.size) (Nat.le_refl _)
    have h3 := hO7.mono (B' := w.heap.size) (S' := []) h1 (fun x hx hl => by simp at hx; omega)
    have h4 := hOd.b (B := w.heap.size) (by have := hO7.size; omega)
    have h5 := hOe.b (B := w.heap.size) (by have := hO7.size; have := hOd.size; omega)
    have h6 := (hOf.b (B := w.heap.size) (by have := hO7.size; have := hOd.size; have := hOe.size; omega)).mono (S' := []) (Nat.le_refl _) (fun x hx hl => by have := hO7.size; have := hOd.size; simp at hx; omega)
    exact ((((h2.trans h3).trans h4).trans h5).trans h6).o
  clear hbl4 hown4 hbl5 hown5 hbl6 hown6 hE7 hE7' hE8 hE9 hC1 hC2 hOd hOe hOf hO7 hO
  rcases hown7.2 with ⟨-, h0⟩ | ⟨g, cap, cur, rfl, hg, hh, hcap, -, hcur, htk⟩
  · omega
  have hB : Blk w10 g 30 cur := hh
  have hz : ∀ (j : Nat) (u : Value), [Value.int .i64 1, .bool false, .int .u32 16, .int .i64 4, .int .u32 0, .int .i64 1, .bool true, .int .u32 32, .int .i64 4, .int .u32 7][j]? = some u → w10.cell? ⟨g, j, none⟩ = some u := by
    intro j u hu
    rw [hB.cell j, ← Array.getElem?_toList]
    have hj : j < 10 := by
      rcases Nat.lt_or_ge j 10 with h | h
      · exact h
      · rw [List.getElem?_eq_none (by simpa using h)] at hu; cases hu
    rw [← List.getElem?_take_of_lt (j := 10) hj]
    have : cur.toList.take 10 = [Value.int .i64 1, .bool false, .int .u32 16, .int .i64 4, .int .u32 0, .int .i64 1, .bool true, .int .u32 32, .int .i64 4, .int .u32 7] := htk
    rw [this]; exact hu
  have z0 := hz 0 _ rfl
  have z1 := hz 1 _ rfl
  have z2 := hz 2 _ rfl
  have z3 := hz 3 _ rfl
  have z4 := hz 4 _ rfl
  have z5 := hz 5 _ rfl
  have z6 := hz 6 _ rfl
  have z7 := hz 7 _ rfl
  have z8 := hz 8 _ rfl
  have z9 := hz 9 _ rfl
  have l0 : w10.cell? ⟨w5.heap.size, 0, none⟩ = some (.slice (some ⟨g, 0, none⟩) 2 cap) := hbl7.cell 0
  clear hz htk hcur hh hown7 hB
  go_wp2_with fail
  refine (read_any b _ 3 _ hE10).mono ?_
  rintro e w11 ⟨rfl, hO11⟩
  have hC3 : EngB w11 c ⟨0, 0, 0, 0, false, false, false, true, false⟩ := hO11.blk hC2' (by simp)
  have hv : (ES.mk 20 36 0 0 false false false true false).read 3 = 4 := rfl
  have hv2 : (ES.mk 0 0 0 0 false false false true false).read 3 = 4 := rfl
  rw [hv]
  go_wp2_with fail
  refine (read_any c _ 3 _ hC3).mono ?_
  rintro e w12 ⟨rfl, hO12⟩
  rw [hv2]
  go_wp2_with fail
  go_ret
  exact ⟨rfl, (hO10.trans hO11).trans hO12⟩
end Go.Proofs.Ytnnlnffdbdpmbaa
