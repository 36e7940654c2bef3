/- The asker of DmaMoves, asked a read within its list, walked. Conditions: its captured cells hold what the law puts there. -/
import Derived.Test.YtnnlnffdbdpmbaaDmaD
import Derived.Test.YtnnlnffdbdpmbaaSet
import Derived.Deep.RegionWith
import Derived.Deep.DeepCutAuto
namespace Go.Proofs.Ytnnlnffdbdpmbaa
open Go Go.RowKit

attribute [local go_sem] cell_set_map Option.map_some

theorem access_eq3 (wd a d : Int) (x : Bool) (w : World) : (binOp .eql 30 (.agg #[.int .i64 wd, .bool x, .int .u32 a, .int .i64 4, .int .u32 d]) (.agg #[.int .i64 wd, .bool x, .int .u32 a, .int .i64 4, .int .u32 d])).run Try.prog w = .ok (.bool true) w := by
  simp [go_sem]

/-- How it stands behind the asker's two ways. -/
def Mid14 (wx w : World) (bn br bh bd bz : Nat) (i x dn : Int) : Prop :=
  Blk wx bn 3 #[.int .i64 i] ∧ Blk wx br 4 #[.bool true] ∧ Blk wx bh 22 #[.int .u32 x] ∧ Blk wx bd 3 #[.int .i64 dn] ∧ Blk wx bz 33 #[.int .u32 0, .int .i64 0] ∧ Only [bn, br, bh] w wx

set_option maxHeartbeats 8000000 in
theorem moves_in (bn br bw bf bh bv bt bd : Nat) (i wd f0 a h0 dn : Int) (kn : Nat) (bk off len cap : Nat) (x : Int) (w : World)
    (hn : Blk w bn 3 #[.int .i64 i]) (hr : Blk w br 4 #[.bool true]) (hw : Blk w bw 3 #[.int .i64 wd]) (hf : Blk w bf 22 #[.int .u32 f0]) (hh : Blk w bh 22 #[.int .u32 h0])
    (hd : Blk w bd 3 #[.int .i64 dn]) (hnd : bn ≠ bd) (hv : Blk w bv 55 #[.slice (some ⟨bk, off, none⟩) len cap]) (hbk : bk < w.heap.size) (hx : w.cell? ⟨bk, off + kn, none⟩ = some (.int .u32 x)) (hbr : bk ≠ br) (hbh : bk ≠ bh) (hlen : kn < len)
    (hi2 : i.tdiv 2 = (kn : Int)) (hi3 : i.tmod 2 = 0) (hk1 : kn < 100) (ha : (f0 + 4 * (kn : Int)) % 4294967296 = a) (hi0 : 0 ≤ i) (hi1 : i < 200) :
    Calls Try.prog 23 #[.agg #[.int .i64 wd, .bool false, .int .u32 a, .int .i64 4, .int .u32 0], .pointer (some ⟨bn, 0, none⟩), .pointer (some ⟨br, 0, none⟩), .pointer (some ⟨bw, 0, none⟩), .pointer (some ⟨bf, 0, none⟩), .pointer (some ⟨bh, 0, none⟩), .pointer (some ⟨bv, 0, none⟩), .pointer (some ⟨bt, 0, none⟩), .pointer (some ⟨bd, 0, none⟩)] w fun e w' =>
      e = .returned (if i = dn then reply 0 10 else reply x 0) ∧ Blk w' bn 3 #[.int .i64 (i + 1)] ∧ Blk w' bh 22 #[.int .u32 x] ∧ Blk w' br 4 #[.bool true] ∧ Only [bn, br, bh] w w' := by
  have l1 := hn.lt
  have l2 := hr.lt
  have l3 := hw.lt
  have l4 := hf.lt
  have l5 := hh.lt
  have l8 := hd.lt
  have n0 : w.cell? ⟨bn, 0, none⟩ = some (.int .i64 i) := hn.cell 0
  have r0 : w.cell? ⟨br, 0, none⟩ = some (.bool true) := hr.cell 0
  have w0 : w.cell? ⟨bw, 0, none⟩ = some (.int .i64 wd) := hw.cell 0
  have c0 : w.cell? ⟨bf, 0, none⟩ = some (.int .u32 f0) := hf.cell 0
  have h0' : w.cell? ⟨bh, 0, none⟩ = some (.int .u32 h0) := hh.cell 0
  have d0 : w.cell? ⟨bd, 0, none⟩ = some (.int .i64 dn) := hd.cell 0
  have fn := hn.frozen 0
  have fr := hr.frozen 0
  have fh := hh.frozen 0
  have heq := fun w => access_eq3 wd a 0 false w
  have k1 : (kn : Int) % 4294967296 = (kn : Int) := by omega
  have k2 : 4 * (kn : Int) % 4294967296 = 4 * (kn : Int) := by omega
  have e1 : wrap64 (i + 1) = i + 1 := by unfold wrap64; omega
  have e2 : wrap64 (i + 1 - 1) = i := by unfold wrap64; omega
  have d3 : ¬ bn = br := Blk.ne_ hn hr (by decide)
  have d4 : ¬ bn = bh := Blk.ne_ hn hh (by decide)
  have d5 : ¬ bh = br := Blk.ne_ hh hr (by decide)
  have d6 : ¬ bd = br := Blk.ne_ hd hr (by decide)
  have d7 : ¬ bd = bh := Blk.ne_ hd hh (by decide)
  have d8 : ¬ bd = bn := fun h => hnd h.symm
  have d9 : ¬ bh = bn := fun h => d4 h.symm
  have d10 : ¬ br = bn := fun h => d3 h.symm
  have d11 : ¬ br = bh := fun h => d5 h.symm
  have hO : Only [bn, br, bh] w w := Only.refl _ _
  have l6 := hv.lt
  have d1 : ¬ bv = br := Blk.ne_ hv hr (by decide)
  have d2 : ¬ bv = bh := Blk.ne_ hv hh (by decide)
  have v0 : w.cell? ⟨bv, 0, none⟩ = some (.slice (some ⟨bk, off, none⟩) len cap) := hv.cell 0
  have hlt : (kn : Int) < (len : Int) := by omega
  have d12 : ¬ bk = br := hbr
  have d13 : ¬ bk = bh := hbh
  have hnb1 : ¬ bh = w.heap.size := by omega
  have hnb2 : ¬ bh = w.heap.size + 1 := by omega
  go_enter Try.func23, Try.ntmps23
  go_upto_if 17 with fail
  go_cut [] (fun wx => Mid14 wx w bn br bh bd (w.heap.size + 1) i x dn)
  case first =>
    go_wp2_with fail
    go_meet
    refine ⟨((((hn.far d3 _).far d4 _).far d4 _).alloc _).alloc _, ((((hr.set_ 0 _).far d11 _).far d11 _).alloc _).alloc _, ((((hh.far d5 _).set_ 0 _).set_ 0 _).alloc _).alloc _, ((((hd.far d6 _).far d7 _).far d7 _).alloc _).alloc _, ?_, ?_⟩
    · exact Blk.new' rfl (by simp)
    · exact ((((hO.set1 (by simp) _ _).set1 (by simp) _ _).set1 (by simp) _ _).alloc _).alloc _
  case rest =>
    obtain ⟨hn, hr, hh, hd, hz, hO⟩ := hcut
    have n0 : wc.cell? ⟨bn, 0, none⟩ = some (.int .i64 i) := hn.cell 0
    have h0' : wc.cell? ⟨bh, 0, none⟩ = some (.int .u32 x) := hh.cell 0
    have d0 : wc.cell? ⟨bd, 0, none⟩ = some (.int .i64 dn) := hd.cell 0
    have fn := hn.frozen 0
    have z0 : wc.cell? ⟨w.heap.size + 1, 0, none⟩ = some (.int .u32 0) := hz.cell 0
    have z1 : wc.cell? ⟨w.heap.size + 1, 1, none⟩ = some (.int .i64 0) := hz.cell 1
    have y0 := hz.frozen 0
    have y1 := hz.frozen 1
    have l1 := hn.lt
    have l5 := hh.lt
    have lz := hz.lt
    have m1 : ¬ bn = w.heap.size + 1 := by omega
    have m2 : ¬ w.heap.size + 1 = bn := by omega
    have m3 : ¬ br = w.heap.size + 1 := by omega
    clear r0 w0 c0 fr fh heq v0 hx
    by_cases hin : i = dn
    · subst hin
      go_wp2
      refine bodyPost_ret (v := reply 0 10) (by simp [results, Try.results23, go_sem, z0, z1]) rfl ?_
      refine ⟨by first | rfl | (rw [if_pos rfl]) | (rw [if_neg hin]), ((hn.set_ 0 _).far m1 _).far m1 _, ((hh.far d9 _).far hnb2 _).far hnb2 _, ((hr.far d10 _).far m3 _).far m3 _, ((hO.set1 (by simp) _ _).setCell (.inr (by simp)) _).setCell (.inr (by simp)) _⟩
    · have hin' : (i == dn) = false := by simpa using hin
      go_wp2
      refine bodyPost_ret (v := reply x 0) (by simp [results, Try.results23, go_sem, z0, z1]) rfl ?_
      refine ⟨by first | rfl | (rw [if_pos rfl]) | (rw [if_neg hin]), ((hn.set_ 0 _).far m1 _).far m1 _, ((hh.far d9 _).far hnb2 _).far hnb2 _, ((hr.far d10 _).far m3 _).far m3 _, ((hO.set1 (by simp) _ _).setCell (.inr (by simp)) _).setCell (.inr (by simp)) _⟩

end Go.Proofs.Ytnnlnffdbdpmbaa
