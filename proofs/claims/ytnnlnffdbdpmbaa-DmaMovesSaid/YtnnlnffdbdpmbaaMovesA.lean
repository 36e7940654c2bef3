/- The asker of DmaMoves, walked: at an even count it is asked a read, at an odd one a write of what was read. Conditions: its captured cells hold what the law puts there. -/
import Derived.Test.YtnnlnffdbdpmbaaDmaD
namespace Go.Proofs.Ytnnlnffdbdpmbaa
open Go Go.RowKit

theorem access_eq2 (wd a d : Int) (x : Bool) (w : World) : (binOp .eql 30 (.agg #[.int .i64 wd, .bool x, .int .u32 a, .int .i64 4, .int .u32 d]) (.agg #[.int .i64 wd, .bool x, .int .u32 a, .int .i64 4, .int .u32 d])).run Try.prog w = .ok (.bool true) w := by
  simp [go_sem]

set_option maxHeartbeats 2000000 in
theorem moves_out (bn br bw bf bh bv bt bd : Nat) (i wd f0 a h0 dn : Int) (kn : Nat) (ao : Option Addr) (len cap : Nat) (w : World)
    (hn : Blk w bn 3 #[.int .i64 i]) (hr : Blk w br 4 #[.bool true]) (hw : Blk w bw 3 #[.int .i64 wd]) (hf : Blk w bf 22 #[.int .u32 f0]) (hh : Blk w bh 22 #[.int .u32 h0])
    (hd : Blk w bd 3 #[.int .i64 dn]) (hnd : bn ≠ bd) (hv : Blk w bv 55 #[.slice ao len cap]) (hlen : len ≤ kn)
    (hi2 : i.tdiv 2 = (kn : Int)) (hi3 : i.tmod 2 = 0) (hk1 : kn < 100) (ha : (f0 + 4 * (kn : Int)) % 4294967296 = a) (hi0 : 0 ≤ i) (hi1 : i < 200) :
    Calls Try.prog 23 #[.agg #[.int .i64 wd, .bool false, .int .u32 a, .int .i64 4, .int .u32 0], .pointer (some ⟨bn, 0, none⟩), .pointer (some ⟨br, 0, none⟩), .pointer (some ⟨bw, 0, none⟩), .pointer (some ⟨bf, 0, none⟩), .pointer (some ⟨bh, 0, none⟩), .pointer (some ⟨bv, 0, none⟩), .pointer (some ⟨bt, 0, none⟩), .pointer (some ⟨bd, 0, none⟩)] w fun e w' =>
      e = .returned (if i = dn then reply 0 10 else reply 0 0) ∧ Blk w' bn 3 #[.int .i64 (i + 1)] ∧ Blk w' bh 22 #[.int .u32 0] ∧ Blk w' br 4 #[.bool true] ∧ Only [bn, br, bh] w w' := by
  have l1 := hn.lt
  have l2 := hr.lt
  have l3 := hw.lt
  have l4 := hf.lt
  have l5 := hh.lt
  have l8 := hd.lt
  have n0 : w.cell? ⟨bn, 0, none⟩ = some (.int .i64 i) := hn.cell 0
  have r0 : w.cell? ⟨br, 0, none⟩ = some (.bool true) := hr.cell 0
  have w0 : w.cell? ⟨bw, 0, none⟩ = some (.int .i64 wd) := hw.cell 0
  have c0 : w.cell? ⟨bf, 0, none⟩ = some (.int .u32 f0) := hf.cell 0
  have h0' : w.cell? ⟨bh, 0, none⟩ = some (.int .u32 h0) := hh.cell 0
  have d0 : w.cell? ⟨bd, 0, none⟩ = some (.int .i64 dn) := hd.cell 0
  have fn := hn.frozen 0
  have fr := hr.frozen 0
  have fh := hh.frozen 0
  have heq := fun w => access_eq2 wd a 0 false w
  have k1 : (kn : Int) % 4294967296 = (kn : Int) := by omega
  have k2 : 4 * (kn : Int) % 4294967296 = 4 * (kn : Int) := by omega
  have e1 : wrap64 (i + 1) = i + 1 := by unfold wrap64; omega
  have e2 : wrap64 (i + 1 - 1) = i := by unfold wrap64; omega
  have d3 : ¬ bn = br := Blk.ne_ hn hr (by decide)
  have d4 : ¬ bn = bh := Blk.ne_ hn hh (by decide)
  have d5 : ¬ bh = br := Blk.ne_ hh hr (by decide)
  have d6 : ¬ bd = br := Blk.ne_ hd hr (by decide)
  have d7 : ¬ bd = bh := Blk.ne_ hd hh (by decide)
  have d8 : ¬ bd = bn := fun h => hnd h.symm
  have d9 : ¬ bh = bn := fun h => d4 h.symm
  have d10 : ¬ br = bn := fun h => d3 h.symm
  have d11 : ¬ br = bh := fun h => d5 h.symm
  have hO : Only [bn, br, bh] w w := Only.refl _ _
  have l6 := hv.lt
  have d1 : ¬ bv = br := Blk.ne_ hv hr (by decide)
  have d2 : ¬ bv = bh := Blk.ne_ hv hh (by decide)
  have v0 : w.cell? ⟨bv, 0, none⟩ = some (.slice ao len cap) := hv.cell 0
  have hlt : ¬ (kn : Int) < (len : Int) := by omega
  by_cases hin : i = dn
  · subst hin
    go_enter Try.func23, Try.ntmps23
    go_wp2
    go_returns
    refine ⟨rfl, ((((hn.far d3 _).far d4 _).set_ 0 _).alloc _).alloc _, ((((hh.far d5 _).set_ 0 _).far d9 _).alloc _).alloc _, ((((hr.set_ 0 _).far d11 _).far d10 _).alloc _).alloc _, by repeat (first | (with_reducible refine Only.alloc ?_ _) | (with_reducible refine Only.set1 ?_ (by simp) _ _) | (with_reducible exact hO))⟩
  · have hin' : (i == dn) = false := by simpa using hin
    rw [if_neg hin]
    go_enter Try.func23, Try.ntmps23
    go_wp2
    go_returns
    refine ⟨rfl, ((((hn.far d3 _).far d4 _).set_ 0 _).alloc _).alloc _, ((((hh.far d5 _).set_ 0 _).far d9 _).alloc _).alloc _, ((((hr.set_ 0 _).far d11 _).far d10 _).alloc _).alloc _, by repeat (first | (with_reducible refine Only.alloc ?_ _) | (with_reducible refine Only.set1 ?_ (by simp) _ _) | (with_reducible exact hO))⟩

set_option maxHeartbeats 2000000 in
theorem moves_odd (bn br bw bf bh bv bt bd : Nat) (i wd f0 a h0 dn : Int) (kn : Nat)  (w : World)
    (hn : Blk w bn 3 #[.int .i64 i]) (hr : Blk w br 4 #[.bool true]) (hw : Blk w bw 3 #[.int .i64 wd]) (hf : Blk w bt 22 #[.int .u32 f0]) (hh : Blk w bh 22 #[.int .u32 h0])
    (hd : Blk w bd 3 #[.int .i64 dn]) (hnd : bn ≠ bd) 
    (hi2 : i.tdiv 2 = (kn : Int)) (hi3 : i.tmod 2 = 1) (hk1 : kn < 100) (ha : (f0 + 4 * (kn : Int)) % 4294967296 = a) (hi0 : 0 ≤ i) (hi1 : i < 200) :
    Calls Try.prog 23 #[.agg #[.int .i64 wd, .bool true, .int .u32 a, .int .i64 4, .int .u32 h0], .pointer (some ⟨bn, 0, none⟩), .pointer (some ⟨br, 0, none⟩), .pointer (some ⟨bw, 0, none⟩), .pointer (some ⟨bf, 0, none⟩), .pointer (some ⟨bh, 0, none⟩), .pointer (some ⟨bv, 0, none⟩), .pointer (some ⟨bt, 0, none⟩), .pointer (some ⟨bd, 0, none⟩)] w fun e w' =>
      e = .returned (if i = dn then reply 0 10 else reply h0 0) ∧ Blk w' bn 3 #[.int .i64 (i + 1)] ∧ Blk w' bh 22 #[.int .u32 h0] ∧ Blk w' br 4 #[.bool true] ∧ Only [bn, br, bh] w w' := by
  have l1 := hn.lt
  have l2 := hr.lt
  have l3 := hw.lt
  have l4 := hf.lt
  have l5 := hh.lt
  have l8 := hd.lt
  have n0 : w.cell? ⟨bn, 0, none⟩ = some (.int .i64 i) := hn.cell 0
  have r0 : w.cell? ⟨br, 0, none⟩ = some (.bool true) := hr.cell 0
  have w0 : w.cell? ⟨bw, 0, none⟩ = some (.int .i64 wd) := hw.cell 0
  have c0 : w.cell? ⟨bt, 0, none⟩ = some (.int .u32 f0) := hf.cell 0
  have h0' : w.cell? ⟨bh, 0, none⟩ = some (.int .u32 h0) := hh.cell 0
  have d0 : w.cell? ⟨bd, 0, none⟩ = some (.int .i64 dn) := hd.cell 0
  have fn := hn.frozen 0
  have fr := hr.frozen 0
  have fh := hh.frozen 0
  have heq := fun w => access_eq2 wd a h0 true w
  have k1 : (kn : Int) % 4294967296 = (kn : Int) := by omega
  have k2 : 4 * (kn : Int) % 4294967296 = 4 * (kn : Int) := by omega
  have e1 : wrap64 (i + 1) = i + 1 := by unfold wrap64; omega
  have e2 : wrap64 (i + 1 - 1) = i := by unfold wrap64; omega
  have d3 : ¬ bn = br := Blk.ne_ hn hr (by decide)
  have d4 : ¬ bn = bh := Blk.ne_ hn hh (by decide)
  have d5 : ¬ bh = br := Blk.ne_ hh hr (by decide)
  have d6 : ¬ bd = br := Blk.ne_ hd hr (by decide)
  have d7 : ¬ bd = bh := Blk.ne_ hd hh (by decide)
  have d8 : ¬ bd = bn := fun h => hnd h.symm
  have d9 : ¬ bh = bn := fun h => d4 h.symm
  have d10 : ¬ br = bn := fun h => d3 h.symm
  have d11 : ¬ br = bh := fun h => d5 h.symm
  have hO : Only [bn, br, bh] w w := Only.refl _ _
  by_cases hin : i = dn
  · subst hin
    go_enter Try.func23, Try.ntmps23
    go_wp2
    go_returns
    refine ⟨rfl, (((hn.far d3 _).set_ 0 _).alloc _).alloc _, (((hh.far d5 _).far d9 _).alloc _).alloc _, (((hr.set_ 0 _).far d10 _).alloc _).alloc _, by repeat (first | (with_reducible refine Only.alloc ?_ _) | (with_reducible refine Only.set1 ?_ (by simp) _ _) | (with_reducible exact hO))⟩
  · have hin' : (i == dn) = false := by simpa using hin
    rw [if_neg hin]
    go_enter Try.func23, Try.ntmps23
    go_wp2
    go_returns
    refine ⟨rfl, (((hn.far d3 _).set_ 0 _).alloc _).alloc _, (((hh.far d5 _).far d9 _).alloc _).alloc _, (((hr.set_ 0 _).far d10 _).alloc _).alloc _, by repeat (first | (with_reducible refine Only.alloc ?_ _) | (with_reducible refine Only.set1 ?_ (by simp) _ _) | (with_reducible exact hO))⟩

end Go.Proofs.Ytnnlnffdbdpmbaa
