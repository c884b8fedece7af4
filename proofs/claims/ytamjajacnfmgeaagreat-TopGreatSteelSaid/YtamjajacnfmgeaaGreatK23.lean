/-
  Contracts: boxes, steps, demands, solids, rules, schedules of the program, of what is valid.
-/
import Derived.Test.YtamjajacnfmgeaaGreatK22
set_option linter.all false
namespace Go.Proofs.YtamjajacnfmgeaaGreat
open Go Go.RowKit
set_option maxHeartbeats 1000000
theorem ok164 (x y z : Int) : Ok Tryz.prog 164 [.ag [vi x, vi y, vi z]] (.ag [vi x, vi y, vi z]) := by
 refine zz 10 Tryz.func164 rfl Tryz.call164 rfl (zR (zo rfl (zo rfl (zw (zR (zo rfl (zo rfl (zo rfl (zo rfl ?_)))))))))
 exact zo rfl (zo rfl (zo rfl (zd rfl rfl (zw (Sat.ret (ze rfl rfl))))))
theorem ok101_0 (b : Bx) : Ok Tryz.prog 101 [.ag b.c, vi 0] (.tp [vi b.lx, vi b.hx]) := by
 refine zz 16 Tryz.func101 rfl Tryz.call101 rfl (zR (zo rfl (zo rfl (zo rfl (zw (zq (Sat.dr tabOk mixed (by kernel_rfl) (zO (fun _ => rfl) (zO (fun _ => rfl) ?_)))))))))
 refine sil_call rfl rfl (fun _ => rfl) (fun _ => rfl) (ok164 _ _ _) (zO (fun _ => rfl) (zO (fun _ => rfl) (zO (fun _ => rfl) (zO (fun _ => rfl) (sil_call rfl rfl (fun _ => rfl) (fun _ => rfl) (ok164 _ _ _) (zO (fun _ => rfl) (zO (fun _ => rfl) (zO (fun _ => rfl) (zO (fun _ => rfl) ?_)))))))))
 exact sn (nq (Sat.ret (ze rfl rfl)))
theorem ok101_1 (b : Bx) : Ok Tryz.prog 101 [.ag b.c, vi 1] (.tp [vi b.ly, vi b.hy]) := by
 refine zz 16 Tryz.func101 rfl Tryz.call101 rfl (zR (zo rfl (zo rfl (zo rfl (zw (zq (Sat.dr tabOk mixed (by kernel_rfl) (zO (fun _ => rfl) (zO (fun _ => rfl) ?_)))))))))
 refine sil_call rfl rfl (fun _ => rfl) (fun _ => rfl) (ok164 _ _ _) (zO (fun _ => rfl) (zO (fun _ => rfl) (zO (fun _ => rfl) (zO (fun _ => rfl) (sil_call rfl rfl (fun _ => rfl) (fun _ => rfl) (ok164 _ _ _) (zO (fun _ => rfl) (zO (fun _ => rfl) (zO (fun _ => rfl) (zO (fun _ => rfl) ?_)))))))))
 exact sn (nq (Sat.ret (ze rfl rfl)))
theorem ok101_2 (b : Bx) : Ok Tryz.prog 101 [.ag b.c, vi 2] (.tp [vi b.lz, vi b.hz]) := by
 refine zz 16 Tryz.func101 rfl Tryz.call101 rfl (zR (zo rfl (zo rfl (zo rfl (zw (zq (Sat.dr tabOk mixed (by kernel_rfl) (zO (fun _ => rfl) (zO (fun _ => rfl) ?_)))))))))
 refine sil_call rfl rfl (fun _ => rfl) (fun _ => rfl) (ok164 _ _ _) (zO (fun _ => rfl) (zO (fun _ => rfl) (zO (fun _ => rfl) (zO (fun _ => rfl) (sil_call rfl rfl (fun _ => rfl) (fun _ => rfl) (ok164 _ _ _) (zO (fun _ => rfl) (zO (fun _ => rfl) (zO (fun _ => rfl) (zO (fun _ => rfl) ?_)))))))))
 exact sn (nq (Sat.ret (ze rfl rfl)))
def Bx.lo (b : Bx) (k : Int) : Int := ax3 b.lx b.ly b.lz k
def Bx.hi (b : Bx) (k : Int) : Int := ax3 b.hx b.hy b.hz k
theorem ok101 (b : Bx) (k : Int) (h0 : 0 ≤ k) (h1 : k < 3) : Ok Tryz.prog 101 [.ag b.c, vi k] (.tp [vi (b.lo k), vi (b.hi k)]) := by
 have : k = 0 ∨ k = 1 ∨ k = 2 := by omega
 rcases this with rfl | rfl | rfl
 · exact ok101_0 b
 · exact ok101_1 b
 · exact ok101_2 b
theorem ax_of {b : Bx} {i : Nat} (h : axOk b i = true) : (-1048576 ≤ b.lo i ∧ b.lo i ≤ 1048576) ∧ (-1048576 ≤ b.hi i ∧ b.hi i ≤ 1048576) ∧ b.lo i ≤ b.hi i := by
 simp only [axOk, Bool.and_eq_true, isLen_iff, Bool.not_eq_true', decide_eq_false_iff_not] at h
 obtain ⟨⟨h1, h2⟩, h3⟩ := h
 exact ⟨h1, h2, Int.not_lt.1 h3⟩
theorem ok48 (b : Bx) (h : boxOk b = true) : Ok Tryz.prog 48 [.ag b.c] (.bool true) := by
 have hx := allN_iff.1 h
 refine zz 27 Tryz.func48 rfl Tryz.call48 rfl (zR (zo rfl (zo rfl (zw (zq (zR (zo rfl (zw (Sat.loop' (fun _ => True) (fun i => ⟨27, lk [(1, .ptr 1 0), (6, .v (vi i))], lk [(1, ⟨.cells (b.c.map .v), false⟩)]⟩) (3) ?_ (trivial) (fun i hi hI => ?_) (fun hI => ?_))))))))))
 exact zv rfl rfl rfl rfl
 have ha := ax_of (hx i hi)
 clear hx
 refine zR (zo rfl (zw (zq (zy rfl (by simp; omega) (zk (zq (zb rfl (zR (zo rfl ?_)))))))))
 refine zo rfl (zw (zR (zo rfl (zo rfl (zc rfl (ok101 b _ (by omega) (by omega)) (zo rfl (zo rfl (zo rfl (zo rfl ?_)))))))))
 refine zo rfl (zw (zR (zo rfl (zo rfl (zo rfl (zo rfl (zF rfl (fun h1 => ?_) (fun h1 => ?_))))))))
 refine zO (fun _ => rfl) (zh rfl h1 rfl (zP rfl h1 rfl (zo rfl (zF rfl (fun h2 => ?_) (fun h2 => ?_)))))
 refine zO (fun _ => rfl) (zh rfl h2 rfl (zP rfl h2 rfl (zw (zC rfl (fun h3 => ?_) (fun h3 => ?_)))))
 exact zR (zo rfl (zw (Sat.ret (rb (rq (rs (rq (ze rfl (by first | rfl | (exfalso; simp_all; omega))))))))))
 exact Sat.skip (nb (nq (zr (za rfl (zo rfl (wn (ns trivial (zv rfl rfl rfl rfl))))))))
 refine zf rfl h2 (zp rfl h2 rfl (zw (zy rfl rfl (zR (zo rfl (zw (Sat.ret (rb (rq ?_)))))))))
 exact rs (rq (ze rfl (by first | rfl | (exfalso; simp_all; omega))))
 refine zf rfl h1 (zp rfl h1 rfl (zo rfl (zf rfl rfl (zf rfl rfl (zp rfl rfl rfl (zw (zy rfl rfl (zR (zo rfl ?_)))))))))
 exact zw (Sat.ret (rb (rq (rs (rq (ze rfl (by first | rfl | (exfalso; simp_all; omega))))))))
 refine zR (zo rfl (zw (zq (zn rfl (by simp) (Sat.exit (xq (xe (nq (zR (zo rfl ?_))))))))))
 exact zw (Sat.ret (ze rfl (by first | rfl | (exfalso; simp_all; omega))))
theorem ok142 (n : Int) : Ok Tryz.prog 142 [vi n] (.bool (isLen n)) := by
 unfold isLen
 refine zz 9 Tryz.func142 rfl Tryz.call142 rfl (zR (zo rfl (zw (zR (zo rfl (zo rfl (zo rfl (zT rfl (fun h1 => ?_) (fun h1 => ?_)))))))))
 exact zO (fun _ => rfl) (zh rfl h1 rfl (zp rfl h1 rfl (zo rfl (zw (Sat.ret (zg rfl))))))
 exact zt rfl h1 (zP rfl h1 rfl (zo rfl (zw (Sat.ret (zg rfl)))))
theorem ok90 (l : List Stp) (h : stepsOk l = true) : Ok Tryz.prog 90 [.sl (l.map Stp.c)] (.bool true) := by
 have hl : l.length ≤ 200 := by simp only [stepsOk, Bool.and_eq_true, Bool.not_eq_true', decide_eq_false_iff_not] at h; omega
 have hx : ∀ i, i < l.length → stepOk l i = true := by simp only [stepsOk, Bool.and_eq_true] at h; exact allN_iff.1 h.2
 refine zz 45 Tryz.func90 rfl Tryz.call90 rfl (zR (zo rfl (zw (zq (zR (zo rfl (zo rfl (zo rfl (zw (zn rfl (by simp; omega) ?_))))))))))
 refine zk (zq (zR (zo rfl (zo rfl (zo rfl (zw (Sat.loop' (fun _ => True) (fun i => ⟨45, lk [(0, .v (.sl (l.map Stp.c))), (8, .v (.sl (l.map Stp.c))), (9, .v (vi (l.map Stp.c).length)), (10, .v (vi i))], lk []⟩) (l.length) ?_ (trivial) (fun i hi hI => ?_) (fun hI => ?_))))))))
 exact zv rfl rfl rfl rfl
 have ha := hx i hi
 clear hx
 refine zR (zo rfl (zw (zq (zy rfl (by simp [hi]) (zk (zq (zb rfl (zR (zo rfl ?_)))))))))
 refine step_sil (sil_index rfl rfl rfl rfl (by first | omega | (simp_all []; done) | (simp_all []; omega)) (gt_idx (by first | omega | (simp_all []; done) | (simp_all []; omega)) (by omega)) rfl ?_)
 refine zo rfl (zo rfl (zo rfl (zd rfl rfl (zw (zq (Sat.dr tabOk mixed (by kernel_rfl) (zO (fun _ => rfl) (zO (fun _ => rfl) (sil_call rfl rfl (fun _ => rfl) (fun _ => rfl) (ok142 _) ?_)))))))))
 refine zO (fun _ => rfl) (zO (fun _ => rfl) (sil_splitF rfl rfl (fun h1 => ?_) (fun h1 => ?_)))
 refine zO (fun _ => rfl) (sil_on rfl h1 (zO (fun _ => rfl) ?_))
 refine sil_on rfl h1 (zO (fun _ => rfl) ?_)
 refine sil_pick (want := false) rfl rfl h1 rfl (zO (fun _ => rfl) (sil_splitF rfl rfl (fun h2 => ?_) (fun h2 => ?_)))
 refine zO (fun _ => rfl) (sil_on rfl h2 (zO (fun _ => rfl) ?_))
 refine sil_on rfl h2 (zO (fun _ => rfl) ?_)
 refine sil_pick (want := false) rfl rfl h2 rfl (zO (fun _ => rfl) (sil_splitF rfl rfl (fun h3 => ?_) (fun h3 => ?_)))
 refine zO (fun _ => rfl) (sil_on rfl h3 (zO (fun _ => rfl) ?_))
 refine sil_on rfl h3 (zO (fun _ => rfl) ?_)
 refine sil_splitT rfl rfl (fun h4 => ?_) (fun h4 => ?_)
 refine zO (fun _ => rfl) (sil_on rfl h4 (zO (fun _ => rfl) ?_))
 refine sil_on rfl h4 (zO (fun _ => rfl) ?_)
 refine sil_on rfl h4 (zO (fun _ => rfl) ?_)
 refine sil_on rfl h4 (sil_sub rfl rfl rfl (by first | (constructor <;> omega) | (simp only [decide_eq_true_eq, decide_eq_false_iff_not, Bool.not_eq_true', Bool.not_eq_false', beq_eq_false_iff_ne, beq_iff_eq, ne_eq] at *; constructor <;> omega)) ?_)
 refine sil_on rfl h4 (sil_index rfl rfl rfl rfl (by first | omega | (simp_all []; done) | (simp_all []; omega)) (gt_idx (by first | omega | (simp_all []; done) | (simp_all []; omega)) (by omega)) rfl ?_)
 refine sil_on rfl h4 (zO (fun _ => rfl) ?_)
 refine sil_on rfl h4 (zO (fun _ => rfl) ?_)
 refine sil_on rfl h4 (zO (fun _ => rfl) ?_)
 refine sil_on rfl h3 (sil_pick (want := true) rfl rfl h4 rfl ?_)
 refine sil_pick (want := false) rfl rfl h3 rfl (sn (nq (zC rfl (fun h5 => ?_) (fun h5 => ?_))))
 exact zR (zo rfl (zw (Sat.ret (rb (rq (rs (rq (ze rfl (by first | rfl | (simp_all [stepOk]; done) | (simp_all [stepOk]; omega))))))))))
 exact Sat.skip (nb (nq (zr (za rfl (zo rfl (wn (ns trivial (zv rfl rfl rfl rfl))))))))
 refine sil_offT rfl rfl h4 (sil_offT rfl rfl h4 (sil_offT rfl rfl h4 (sil_offT rfl rfl h4 (sil_offT rfl rfl h4 (sil_offT rfl rfl h4 (sil_offT rfl rfl h4 (sil_offT rfl rfl h4 (sil_on rfl h3 (sil_pick (want := false) rfl rfl h4 rfl ?_)))))))))
 refine sil_pick (want := false) rfl rfl h3 rfl (sn (nq (zn rfl rfl (Sat.skip (nb (nq (zr (za rfl (zo rfl ?_)))))))))
 exact wn (ns trivial (zv rfl rfl rfl rfl))
 refine sil_offF rfl rfl h3 (sil_offF rfl rfl h3 (sil_offu rfl rfl (sil_offu rfl rfl (sil_offu rfl rfl (sil_offu rfl rfl (sil_offu rfl rfl (sil_offu rfl rfl (sil_offu rfl rfl (sil_offu rfl rfl ?_)))))))))
 refine sil_offu rfl rfl (sil_offF rfl rfl h3 (sil_pick (want := true) rfl rfl h3 rfl (sn (nq (zy rfl rfl (zR (zo rfl (zw (Sat.ret ?_)))))))))
 exact rb (rq (rs (rq (ze rfl (by first | rfl | (simp_all [stepOk]; done) | (simp_all [stepOk]; omega))))))
 refine sil_offF rfl rfl h2 (sil_offF rfl rfl h2 (sil_pick (want := true) rfl rfl h2 rfl (zO (fun _ => rfl) (sil_offF rfl rfl rfl (sil_offF rfl rfl rfl (sil_offF rfl rfl rfl (sil_offu rfl rfl (sil_offu rfl rfl (sil_offu rfl rfl ?_)))))))))
 refine sil_offu rfl rfl (sil_offu rfl rfl (sil_offu rfl rfl (sil_offu rfl rfl (sil_offu rfl rfl (sil_offu rfl rfl (sil_offF rfl rfl rfl (sil_pick (want := true) rfl rfl rfl rfl (sn (nq ?_)))))))))
 exact zy rfl rfl (zR (zo rfl (zw (Sat.ret (rb (rq (rs (rq (ze rfl (by first | rfl | (simp_all [stepOk]; done) | (simp_all [stepOk]; omega)))))))))))
 refine sil_offF rfl rfl h1 (sil_offF rfl rfl h1 (sil_pick (want := true) rfl rfl h1 rfl (zO (fun _ => rfl) (sil_offF rfl rfl rfl (sil_offF rfl rfl rfl (sil_offF rfl rfl rfl (sil_pick (want := true) rfl rfl rfl rfl (zO (fun _ => rfl) (sil_offF rfl rfl rfl ?_)))))))))
 refine sil_offF rfl rfl rfl (sil_offF rfl rfl rfl (sil_offu rfl rfl (sil_offu rfl rfl (sil_offu rfl rfl (sil_offu rfl rfl (sil_offu rfl rfl (sil_offu rfl rfl (sil_offu rfl rfl (sil_offu rfl rfl ?_)))))))))
 refine sil_offu rfl rfl (sil_offF rfl rfl rfl (sil_pick (want := true) rfl rfl rfl rfl (sn (nq (zy rfl rfl (zR (zo rfl (zw (Sat.ret ?_)))))))))
 exact rb (rq (rs (rq (ze rfl (by first | rfl | (simp_all [stepOk]; done) | (simp_all [stepOk]; omega))))))
 refine zR (zo rfl (zw (zq (zn rfl (by simp) (Sat.exit (xq (xe (nq (zR (zo rfl ?_))))))))))
 exact zw (Sat.ret (ze rfl (by first | rfl | (simp_all [stepOk]; done) | (simp_all [stepOk]; omega))))
def demR (d : Dem) : Bool := nameOk d.name && boxOk d.zone && stepsOk d.steps
theorem ok42 (d : Dem) (h : demR d = true) : Ok Tryz.prog 42 [.ag d.c] (.bool true) := by
 simp only [demR, Bool.and_eq_true] at h
 refine zz 16 Tryz.func42 rfl Tryz.call42 rfl (zR (zo rfl (zo rfl (zw (zR (zo rfl (zo rfl (zc rfl (ok89 _ h.1.1) (zo rfl ?_)))))))))
 refine zT rfl (fun h1 => ?_) (fun h1 => ?_)
 refine zO (fun _ => rfl) (zh rfl h1 rfl (step_sil (sil_on rfl h1 (sil_call rfl rfl (fun _ => rfl) (fun _ => rfl) (ok48 d.zone h.1.2) ?_))))
 refine zp rfl h1 rfl (zo rfl (zT rfl (fun h2 => ?_) (fun h2 => ?_)))
 refine zO (fun _ => rfl) (zh rfl h2 rfl (step_sil (sil_on rfl h2 (sil_call rfl rfl (fun _ => rfl) (fun _ => rfl) (ok90 _ h.2) ?_))))
 exact zp rfl h2 rfl (zo rfl (zw (Sat.ret (ze rfl (by first | rfl | simp_all)))))
 exact zt rfl h2 (zt rfl h2 (zP rfl h2 rfl (zo rfl (zw (Sat.ret (ze rfl (by first | rfl | simp_all)))))))
 refine zt rfl h1 (zt rfl h1 (zP rfl h1 rfl (zo rfl (zt rfl rfl (zt rfl rfl (zt rfl rfl (zP rfl rfl rfl (zo rfl (zw (Sat.ret ?_))))))))))
 exact ze rfl (by first | rfl | simp_all)
theorem ok102 (a b c d : Int) : Ok Tryz.prog 102 [vi a, vi b, vi c, vi d] (.bool (decide (a ≥ c) && decide (b ≤ d))) := by
 refine zz 17 Tryz.func102 rfl Tryz.call102 rfl (zR (zo rfl (zw (zR (zo rfl (zo rfl (zo rfl (zo rfl (zT rfl (fun h1 => ?_) (fun h1 => ?_))))))))))
 exact zO (fun _ => rfl) (zh rfl h1 rfl (zh rfl h1 rfl (zp rfl h1 rfl (zo rfl (zw (Sat.ret (zg rfl)))))))
 exact zt rfl h1 (zt rfl h1 (zP rfl h1 rfl (zo rfl (zw (Sat.ret (zg rfl))))))
def inYZ (a b : Bx) : Bool := (decide (a.ly ≥ b.ly) && decide (a.hy ≤ b.hy)) && (decide (a.lz ≥ b.lz) && decide (a.hz ≤ b.hz))
theorem ok49 (a b : Bx) : Ok Tryz.prog 49 [.ag a.c, .ag b.c] (.bool (inYZ a b)) := by
 unfold inYZ
 refine zz 33 Tryz.func49 rfl Tryz.call49 rfl (zR (zo rfl (zo rfl (zo rfl (zw (zR (zo rfl (zo rfl (zo rfl ?_)))))))))
 refine zo rfl (zo rfl (zo rfl (zo rfl (zo rfl (zo rfl (zo rfl (zo rfl (zo rfl (zc rfl (ok102 _ _ _ _) ?_)))))))))
 refine zo rfl (zT rfl (fun h1 => ?_) (fun h1 => ?_))
 refine zO (fun _ => rfl) (zh rfl h1 rfl (zh rfl h1 rfl (zh rfl h1 rfl (zh rfl h1 rfl (zh rfl h1 rfl (zh rfl h1 rfl (zh rfl h1 rfl (zh rfl h1 rfl (zh rfl h1 rfl ?_)))))))))
 refine zh rfl h1 rfl (zh rfl h1 rfl (step_sil (sil_on rfl h1 (sil_call rfl rfl (fun _ => rfl) (fun _ => rfl) (ok102 _ _ _ _) ?_))))
 exact zp rfl h1 rfl (zo rfl (zw (Sat.ret (zg rfl))))
 refine zt rfl h1 (zt rfl h1 (zt rfl h1 (zt rfl h1 (zt rfl h1 (zt rfl h1 (zt rfl h1 (zt rfl h1 (zt rfl h1 (zt rfl h1 ?_)))))))))
 exact zt rfl h1 (zt rfl h1 (zP rfl h1 rfl (zo rfl (zw (Sat.ret (zg rfl))))))
def demIn (d : Dem) (a : Bx) : Bool := a.ly == a.hy && a.lz == a.hz && inYZ a d.zone
theorem ok21 (d : Dem) (a : Bx) (hd : demR d = true) (ha : boxOk a = true) : Ok Tryz.prog 21 [.ag d.c, .ag a.c] (.tp [.bool (demIn d a), vi 0]) := by
 unfold demIn
 refine zz 36 Tryz.func21 rfl Tryz.call21 rfl (zR (zo rfl (zo rfl (zo rfl (zo rfl (zw (zq (zR (zo rfl ?_)))))))))
 refine zc rfl (ok42 d hd) (zo rfl (zo rfl (zF rfl (fun h1 => ?_) (fun h1 => ?_))))
 refine zO (fun _ => rfl) (step_sil (sil_on rfl h1 (sil_call rfl rfl (fun _ => rfl) (fun _ => rfl) (ok48 a ha) ?_)))
 refine zh rfl h1 rfl (zP rfl h1 rfl (zw (zC rfl (fun h2 => ?_) (fun h2 => ?_))))
 exact zR (zo rfl (zo rfl (zw (Sat.ret (rq (ze rfl (by first | rfl | (simp_all; done))))))))
 refine zk (zR (zo rfl (zo rfl (zo rfl (zo rfl (zo rfl (zo rfl (zo rfl (zo rfl ?_)))))))))
 refine zT rfl (fun h3 => ?_) (fun h3 => ?_)
 refine zO (fun _ => rfl) (zh rfl h3 rfl (zh rfl h3 rfl (zh rfl h3 rfl (zh rfl h3 rfl (zh rfl h3 rfl (zh rfl h3 rfl (zp rfl h3 rfl (zo rfl (zT rfl (fun h4 => ?_) (fun h4 => ?_))))))))))
 refine zO (fun _ => rfl) (zh rfl h4 rfl (zh rfl h4 rfl (step_sil (sil_on rfl h4 (sil_call rfl rfl (fun _ => rfl) (fun _ => rfl) (ok49 a d.zone) ?_)))))
 exact zp rfl h4 rfl (zo rfl (zo rfl (zw (Sat.ret (ze rfl (by first | rfl | (simp_all; done)))))))
 exact zt rfl h4 (zt rfl h4 (zt rfl h4 (zP rfl h4 rfl (zo rfl (zo rfl (zw (Sat.ret (ze rfl (by first | rfl | (simp_all; done))))))))))
 refine zt rfl h3 (zt rfl h3 (zt rfl h3 (zt rfl h3 (zt rfl h3 (zt rfl h3 (zP rfl h3 rfl (zo rfl (zt rfl rfl (zt rfl rfl ?_)))))))))
 exact zt rfl rfl (zt rfl rfl (zP rfl rfl rfl (zo rfl (zo rfl (zw (Sat.ret (ze rfl (by first | rfl | (simp_all; done)))))))))
 refine zf rfl h1 (zf rfl h1 (zp rfl h1 rfl (zw (zy rfl rfl (zR (zo rfl (zo rfl (zw (Sat.ret ?_)))))))))
 exact rq (ze rfl (by first | rfl | (simp_all; done)))
theorem ok206 (d e : Dem) : Ok Tryz.prog 206 [.ag d.c, .cp e.c 0] (.bool (beqB d.name e.name)) := by
 refine zz 9 Tryz.func206 rfl Tryz.call206 rfl (zR (zo rfl (zo rfl (zw (zR (zo rfl (zo rfl (zo rfl (zo rfl ?_)))))))))
 exact zo rfl (zo rfl (zw (Sat.ret (ze rfl rfl))))
theorem ok238 (b : Bx) (h : thick b = true) : Ok Tryz.prog 238 [.ag b.c] (.bool true) := by
 simp only [thick, Bool.and_eq_true] at h
 refine zz 32 Tryz.func238 rfl Tryz.call238 rfl (zR (zo rfl (zo rfl (zw (zR (zo rfl (zc rfl (ok48 b h.1.1.1) (zo rfl (zT rfl (fun h1 => ?_) (fun h1 => ?_))))))))))
 refine zO (fun _ => rfl) (zh rfl h1 rfl (zh rfl h1 rfl (zh rfl h1 rfl (zh rfl h1 rfl (zh rfl h1 rfl (zh rfl h1 rfl (zp rfl h1 rfl (zo rfl (zT rfl (fun h2 => ?_) (fun h2 => ?_))))))))))
 refine zO (fun _ => rfl) (zh rfl h2 rfl (zh rfl h2 rfl (zh rfl h2 rfl (zh rfl h2 rfl (zh rfl h2 rfl (zh rfl h2 rfl (zp rfl h2 rfl (zo rfl (zT rfl (fun h3 => ?_) (fun h3 => ?_))))))))))
 refine zO (fun _ => rfl) (zh rfl h3 rfl (zh rfl h3 rfl (zh rfl h3 rfl (zh rfl h3 rfl (zh rfl h3 rfl (zh rfl h3 rfl (zp rfl h3 rfl (zo rfl (zw (Sat.ret ?_))))))))))
 exact ze rfl (by first | rfl | (simp_all; done) | (simp_all; omega))
 refine zt rfl h3 (zt rfl h3 (zt rfl h3 (zt rfl h3 (zt rfl h3 (zt rfl h3 (zP rfl h3 rfl (zo rfl (zw (Sat.ret ?_)))))))))
 exact ze rfl (by first | rfl | (simp_all; done) | (simp_all; omega))
 refine zt rfl h2 (zt rfl h2 (zt rfl h2 (zt rfl h2 (zt rfl h2 (zt rfl h2 (zP rfl h2 rfl (zo rfl (zt rfl rfl (zt rfl rfl ?_)))))))))
 exact zt rfl rfl (zt rfl rfl (zt rfl rfl (zt rfl rfl (zt rfl rfl (zP rfl rfl rfl (zo rfl (zw (Sat.ret (ze rfl (by first | rfl | (simp_all; done) | (simp_all; omega)))))))))))
 refine zt rfl h1 (zt rfl h1 (zt rfl h1 (zt rfl h1 (zt rfl h1 (zt rfl h1 (zP rfl h1 rfl (zo rfl (zt rfl rfl (zt rfl rfl ?_)))))))))
 refine zt rfl rfl (zt rfl rfl (zt rfl rfl (zt rfl rfl (zt rfl rfl (zP rfl rfl rfl (zo rfl (zt rfl rfl (zt rfl rfl (zt rfl rfl ?_)))))))))
 exact zt rfl rfl (zt rfl rfl (zt rfl rfl (zt rfl rfl (zP rfl rfl rfl (zo rfl (zw (Sat.ret (ze rfl (by first | rfl | (simp_all; done) | (simp_all; omega))))))))))
theorem ok237 (b : Bx) (h : thick b = true) : Ok Tryz.prog 237 [.ag b.c] (.bool false) := by
 refine zz 6 Tryz.func237 rfl Tryz.call237 rfl (zR (zo rfl (zo rfl (zw (zR (zo rfl (zc rfl (ok238 b h) (zo rfl (zo rfl ?_)))))))))
 exact zw (Sat.ret (ze rfl rfl))
theorem find_no {n : Nat} : decide (findN n (fun _ => false) ≥ 0) = false := by rw [findN_none fun _ _ => rfl]; rfl
theorem ok204 (a h : List Bx) (hs : solidOk a h = true) : Ok Tryz.prog 204 [.ag [.sl (a.map Bx.c), .sl (h.map Bx.c)]] (.bool true) := by
 simp only [solidOk, Bool.and_eq_true, Bool.not_eq_true', decide_eq_false_iff_not] at hs
 obtain ⟨⟨⟨h1, h2⟩, h3⟩, h4, h5⟩ := hs
 have h4 := allN_iff.1 h4
 have h5 := allN_iff.1 h5
 have hn : ∀ n, findN n (fun _ => false) = -1 := fun n => findN_none fun _ _ => rfl
 refine zz 34 Tryz.func204 rfl Tryz.call204 rfl (zR (zo rfl (zo rfl (zw (zR (zo rfl (zw (zR (zo rfl ?_)))))))))
 refine zo rfl (zo rfl (zo rfl (zo rfl (zT rfl (fun h1 => ?_) (fun h1 => ?_)))))
 refine zO (fun _ => rfl) (zh rfl h1 rfl (zh rfl h1 rfl (zh rfl h1 rfl (zp rfl h1 rfl (zo rfl (zT rfl (fun h2 => ?_) (fun h2 => ?_)))))))
 refine zO (fun _ => rfl) (zh rfl h2 rfl (zh rfl h2 rfl (zh rfl h2 rfl (zp rfl h2 rfl (zo rfl (zT rfl (fun h3 => ?_) (fun h3 => ?_)))))))
 refine zO (fun _ => rfl) (zh rfl h3 rfl (zh rfl h3 rfl (step_sil (sil_on rfl h3 (sil_call rfl rfl (fun _ => rfl) (fun _ => rfl) (ok223_0 a (by omega) 237 (fun _ => false) (fun i hi => ok237 _ (h4 i hi))) ?_)))))
 refine zh rfl h3 rfl (zp rfl h3 rfl (zo rfl (zT rfl (fun h4 => ?_) (fun h4 => ?_))))
 refine zO (fun _ => rfl) (zh rfl h4 rfl (zh rfl h4 rfl (step_sil (sil_on rfl h4 (sil_call rfl rfl (fun _ => rfl) (fun _ => rfl) (ok223_0 h (by omega) 237 (fun _ => false) (fun i hi => ok237 _ (h5 i hi))) ?_)))))
 exact zh rfl h4 rfl (zp rfl h4 rfl (zo rfl (zw (Sat.ret (ze rfl (by first | rfl | (simp_all; done) | (simp_all; omega)))))))
 exact zt rfl h4 (zt rfl h4 (zt rfl h4 (zt rfl h4 (zP rfl h4 rfl (zo rfl (zw (Sat.ret (ze rfl (by first | rfl | (simp_all; done) | (simp_all; omega))))))))))
 refine zt rfl h3 (zt rfl h3 (zt rfl h3 (zt rfl h3 (zP rfl h3 rfl (zo rfl (zt rfl rfl (zt rfl rfl (zt rfl rfl (zt rfl rfl ?_)))))))))
 exact zt rfl rfl (zP rfl rfl rfl (zo rfl (zw (Sat.ret (ze rfl (by first | rfl | (simp_all; done) | (simp_all; omega)))))))
 refine zt rfl h2 (zt rfl h2 (zt rfl h2 (zP rfl h2 rfl (zo rfl (zt rfl rfl (zt rfl rfl (zt rfl rfl (zt rfl rfl (zt rfl rfl ?_)))))))))
 refine zP rfl rfl rfl (zo rfl (zt rfl rfl (zt rfl rfl (zt rfl rfl (zt rfl rfl (zt rfl rfl (zP rfl rfl rfl (zo rfl (zw (Sat.ret ?_))))))))))
 exact ze rfl (by first | rfl | (simp_all; done) | (simp_all; omega))
 refine zt rfl h1 (zt rfl h1 (zt rfl h1 (zP rfl h1 rfl (zo rfl (zt rfl rfl (zt rfl rfl (zt rfl rfl (zt rfl rfl (zP rfl rfl rfl ?_)))))))))
 refine zo rfl (zt rfl rfl (zt rfl rfl (zt rfl rfl (zt rfl rfl (zt rfl rfl (zP rfl rfl rfl (zo rfl (zt rfl rfl (zt rfl rfl ?_)))))))))
 exact zt rfl rfl (zt rfl rfl (zt rfl rfl (zP rfl rfl rfl (zo rfl (zw (Sat.ret (ze rfl (by first | rfl | (simp_all; done) | (simp_all; omega)))))))))
theorem ok203 (a b c : Int) : Ok Tryz.prog 203 [vi a, vi b, vi c] (.bool (decide (a ≥ b) && decide (a ≤ c))) := by
 refine zz 15 Tryz.func203 rfl Tryz.call203 rfl (zR (zo rfl (zw (zR (zo rfl (zo rfl (zo rfl (zo rfl (zT rfl (fun h1 => ?_) (fun h1 => ?_))))))))))
 exact zO (fun _ => rfl) (zh rfl h1 rfl (zh rfl h1 rfl (zp rfl h1 rfl (zo rfl (zw (Sat.ret (zg rfl)))))))
 exact zt rfl h1 (zt rfl h1 (zP rfl h1 rfl (zo rfl (zw (Sat.ret (zg rfl))))))
theorem ok156 (m : Mem) (h : memOk m = true) : Ok Tryz.prog 156 [.ag m.c] (.bool true) := by
 simp only [memOk, Bool.and_eq_true, decide_eq_true_eq] at h
 obtain ⟨⟨⟨⟨⟨⟨⟨h1, h2⟩, h3⟩, h4⟩, h5⟩, h6⟩, h7⟩, h8⟩ := h
 refine zz 30 Tryz.func156 rfl Tryz.call156 rfl (zR (zo rfl (zo rfl (zw (zR (zo rfl (zw (zR (zo rfl ?_)))))))))
 refine zo rfl (zc rfl (ok89 _ h1) (zo rfl (zT rfl (fun h1 => ?_) (fun h1 => ?_))))
 refine zO (fun _ => rfl) (zh rfl h1 rfl (step_sil (sil_on rfl h1 (sil_call rfl rfl (fun _ => rfl) (fun _ => rfl) (ok204 _ _ h2) ?_))))
 refine zp rfl h1 rfl (zo rfl (zT rfl (fun h2 => ?_) (fun h2 => ?_)))
 refine zO (fun _ => rfl) (zh rfl h2 rfl (zh rfl h2 rfl (step_sil (sil_on rfl h2 (sil_call rfl rfl (fun _ => rfl) (fun _ => rfl) (ok203 _ _ _) ?_)))))
 refine zp rfl h2 rfl (zo rfl (zT rfl (fun h3 => ?_) (fun h3 => ?_)))
 refine zO (fun _ => rfl) (zh rfl h3 rfl (zh rfl h3 rfl (step_sil (sil_on rfl h3 (sil_call rfl rfl (fun _ => rfl) (fun _ => rfl) (ok203 _ _ _) ?_)))))
 refine zp rfl h3 rfl (zo rfl (zT rfl (fun h4 => ?_) (fun h4 => ?_)))
 refine zO (fun _ => rfl) (zh rfl h4 rfl (zh rfl h4 rfl (step_sil (sil_on rfl h4 (sil_call rfl rfl (fun _ => rfl) (fun _ => rfl) (ok203 _ _ _) ?_)))))
 exact zp rfl h4 rfl (zo rfl (zw (Sat.ret (ze rfl (by first | rfl | (simp_all; done) | (simp_all; omega))))))
 exact zt rfl h4 (zt rfl h4 (zt rfl h4 (zP rfl h4 rfl (zo rfl (zw (Sat.ret (ze rfl (by first | rfl | (simp_all; done) | (simp_all; omega)))))))))
 refine zt rfl h3 (zt rfl h3 (zt rfl h3 (zP rfl h3 rfl (zo rfl (zt rfl rfl (zt rfl rfl (zt rfl rfl (zt rfl rfl (zP rfl rfl rfl ?_)))))))))
 exact zo rfl (zw (Sat.ret (ze rfl (by first | rfl | (simp_all; done) | (simp_all; omega)))))
 refine zt rfl h2 (zt rfl h2 (zt rfl h2 (zP rfl h2 rfl (zo rfl (zt rfl rfl (zt rfl rfl (zt rfl rfl (zt rfl rfl (zP rfl rfl rfl ?_)))))))))
 exact zo rfl (zt rfl rfl (zt rfl rfl (zt rfl rfl (zt rfl rfl (zP rfl rfl rfl (zo rfl (zw (Sat.ret (ze rfl (by first | rfl | (simp_all; done) | (simp_all; omega)))))))))))
 refine zt rfl h1 (zt rfl h1 (zP rfl h1 rfl (zo rfl (zt rfl rfl (zt rfl rfl (zt rfl rfl (zt rfl rfl (zP rfl rfl rfl (zo rfl ?_)))))))))
 refine zt rfl rfl (zt rfl rfl (zt rfl rfl (zt rfl rfl (zP rfl rfl rfl (zo rfl (zt rfl rfl (zt rfl rfl (zt rfl rfl (zt rfl rfl ?_)))))))))
 exact zP rfl rfl rfl (zo rfl (zw (Sat.ret (ze rfl (by first | rfl | (simp_all; done) | (simp_all; omega))))))
theorem ok240 (n : Int) : Ok Tryz.prog 240 [vi n] (.bool (decide (n < 1) || decide (n > 1000))) := by
 refine zz 9 Tryz.func240 rfl Tryz.call240 rfl (zR (zo rfl (zw (zR (zo rfl (zo rfl (zo rfl (zF rfl (fun h1 => ?_) (fun h1 => ?_)))))))))
 exact zO (fun _ => rfl) (zh rfl h1 rfl (zP rfl h1 rfl (zo rfl (zw (Sat.ret (zg rfl))))))
 exact zf rfl h1 (zp rfl h1 rfl (zo rfl (zw (Sat.ret (zg rfl)))))
theorem ok207 (l : List Int) (hl : l.length ≤ 1000) (h : ∀ i : Nat, i < l.length → num1000 (gt l i) = true) : Ok Tryz.prog 207 [.sl (l.map ic)] (.bool true) := by
 have hf : findN l.length (fun i => decide (gt l i < 1) || decide (gt l i > 1000)) = -1 := findN_none fun i hi => by have := h i hi; simp [num1000] at this ⊢; omega
 refine zz 6 Tryz.func207 rfl Tryz.call207 rfl (zR (zo rfl (zw (zR (zo rfl (zc rfl (ok117_0 l (by omega) 240 (fun i => decide (gt l i < 1) || decide (gt l i > 1000)) (fun i _ => ok240 _)) (zo rfl (zo rfl (zw (Sat.ret ?_))))))))))
 exact ze rfl (by rw [hf]; rfl)
theorem num8 {a b c d e f g h : Int} (h1 : num1000 a = true) (h2 : num1000 b = true) (h3 : num1000 c = true) (h4 : num1000 d = true) (h5 : num1000 e = true) (h6 : num1000 f = true) (h7 : num1000 g = true) (h8 : num1000 h = true) :
    ∀ i : Nat, i < [a, b, c, d, e, f, g, h].length → num1000 (gt [a, b, c, d, e, f, g, h] i) = true := fun i hi => by
  have : i = 0 ∨ i = 1 ∨ i = 2 ∨ i = 3 ∨ i = 4 ∨ i = 5 ∨ i = 6 ∨ i = 7 := by simp at hi; omega
  rcases this with rfl | rfl | rfl | rfl | rfl | rfl | rfl | rfl <;> assumption
theorem ok158 (r : Rul) (h : ruleOk r = true) : Ok Tryz.prog 158 [.ag r.c] (.bool true) := by
 simp only [ruleOk, Bool.and_eq_true, decide_eq_true_eq] at h
 obtain ⟨⟨⟨⟨⟨⟨⟨⟨⟨⟨⟨⟨h1, h2⟩, h3⟩, h4⟩, h5⟩, h6⟩, h7⟩, h8⟩, h9⟩, h10⟩, h11⟩, h12⟩, h13⟩ := h
 refine zz 52 Tryz.func158 rfl Tryz.call158 rfl (zR (zo rfl (zo rfl (zw (zR (zo rfl (zo rfl (zo rfl (zo rfl ?_)))))))))
 refine zo rfl (zo rfl (zo rfl (zo rfl (zo rfl (zo rfl (zo rfl (zo rfl (zo rfl (zo rfl ?_)))))))))
 refine zo rfl (zo rfl (zo rfl (step_call rfl rfl rfl (ok207 [r.num, r.den, r.pn, r.pd, r.bn, r.bd, r.ln, r.ld] (by simp) (num8 h1 h2 h3 h4 h5 h6 h7 h8)) (zo rfl (zT rfl (fun h1 => ?_) (fun h1 => ?_))))))
 refine zO (fun _ => rfl) (zh rfl h1 rfl (zh rfl h1 rfl (zh rfl h1 rfl (zh rfl h1 rfl (zp rfl h1 rfl (zo rfl (zT rfl (fun h2 => ?_) (fun h2 => ?_))))))))
 refine zO (fun _ => rfl) (zh rfl h2 rfl (zh rfl h2 rfl (zh rfl h2 rfl (zh rfl h2 rfl (zp rfl h2 rfl (zo rfl (zT rfl (fun h3 => ?_) (fun h3 => ?_))))))))
 refine zO (fun _ => rfl) (zh rfl h3 rfl (zh rfl h3 rfl (zh rfl h3 rfl (zh rfl h3 rfl (zp rfl h3 rfl (zo rfl (zT rfl (fun h4 => ?_) (fun h4 => ?_))))))))
 refine zO (fun _ => rfl) (zh rfl h4 rfl (zh rfl h4 rfl (zp rfl h4 rfl (zo rfl (zT rfl (fun h5 => ?_) (fun h5 => ?_))))))
 exact zO (fun _ => rfl) (zh rfl h5 rfl (zh rfl h5 rfl (zp rfl h5 rfl (zo rfl (zw (Sat.ret (ze rfl (by first | rfl | (simp_all; done) | (simp_all; omega)))))))))
 exact zt rfl h5 (zt rfl h5 (zP rfl h5 rfl (zo rfl (zw (Sat.ret (ze rfl (by first | rfl | (simp_all; done) | (simp_all; omega))))))))
 refine zt rfl h4 (zt rfl h4 (zP rfl h4 rfl (zo rfl (zt rfl rfl (zt rfl rfl (zt rfl rfl (zP rfl rfl rfl (zo rfl (zw (Sat.ret ?_))))))))))
 exact ze rfl (by first | rfl | (simp_all; done) | (simp_all; omega))
 refine zt rfl h3 (zt rfl h3 (zt rfl h3 (zt rfl h3 (zP rfl h3 rfl (zo rfl (zt rfl rfl (zt rfl rfl (zt rfl rfl (zP rfl rfl rfl ?_)))))))))
 exact zo rfl (zt rfl rfl (zt rfl rfl (zt rfl rfl (zP rfl rfl rfl (zo rfl (zw (Sat.ret (ze rfl (by first | rfl | (simp_all; done) | (simp_all; omega))))))))))
 refine zt rfl h2 (zt rfl h2 (zt rfl h2 (zt rfl h2 (zP rfl h2 rfl (zo rfl (zt rfl rfl (zt rfl rfl (zt rfl rfl (zt rfl rfl ?_)))))))))
 refine zt rfl rfl (zP rfl rfl rfl (zo rfl (zt rfl rfl (zt rfl rfl (zt rfl rfl (zP rfl rfl rfl (zo rfl (zt rfl rfl (zt rfl rfl ?_)))))))))
 exact zt rfl rfl (zP rfl rfl rfl (zo rfl (zw (Sat.ret (ze rfl (by first | rfl | (simp_all; done) | (simp_all; omega)))))))
 refine zt rfl h1 (zt rfl h1 (zt rfl h1 (zt rfl h1 (zP rfl h1 rfl (zo rfl (zt rfl rfl (zt rfl rfl (zt rfl rfl (zt rfl rfl ?_)))))))))
 refine zt rfl rfl (zP rfl rfl rfl (zo rfl (zt rfl rfl (zt rfl rfl (zt rfl rfl (zt rfl rfl (zt rfl rfl (zP rfl rfl rfl (zo rfl ?_)))))))))
 refine zt rfl rfl (zt rfl rfl (zt rfl rfl (zP rfl rfl rfl (zo rfl (zt rfl rfl (zt rfl rfl (zt rfl rfl (zP rfl rfl rfl (zo rfl ?_)))))))))
 exact zw (Sat.ret (ze rfl (by first | rfl | (simp_all; done) | (simp_all; omega))))
end Go.Proofs.YtamjajacnfmgeaaGreat
