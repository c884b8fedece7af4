/-
  Contracts: turns and placed paths of the program. Condition: of valid turns and near points.
  Contracts: placed paths, runs of the program. Condition: of what is valid.
-/
import Derived.Test.YtamjajacnfmgeaaGreatK24
set_option linter.all false
namespace Go.Proofs.YtamjajacnfmgeaaGreat
open Go Go.RowKit
set_option maxHeartbeats 1000000
theorem ok247 (n : Int) (h : isAxis n = true) : Ok Tryz.prog 247 [vi n] (.bool true) := by
 have hc := axis_cases h
 refine zz 13 Tryz.func247 rfl Tryz.call247 rfl (zR (zo rfl (zw (zR (zo rfl (zo rfl (zo rfl (zT rfl (fun h1 => ?_) (fun h1 => ?_)))))))))
 refine zO (fun _ => rfl) (zh rfl h1 rfl (zp rfl h1 rfl (zo rfl (zT rfl (fun h2 => ?_) (fun h2 => ?_)))))
 exact zO (fun _ => rfl) (zh rfl h2 rfl (zp rfl h2 rfl (zo rfl (zw (Sat.ret (ze rfl (by first | rfl | (simp_all; done) | (simp_all; omega))))))))
 exact zt rfl h2 (zP rfl h2 rfl (zo rfl (zw (Sat.ret (ze rfl (by first | rfl | (simp_all; done) | (simp_all; omega)))))))
 exact zt rfl h1 (zP rfl h1 rfl (zo rfl (zt rfl rfl (zt rfl rfl (zP rfl rfl rfl (zo rfl (zw (Sat.ret (ze rfl (by first | rfl | (simp_all; done) | (simp_all; omega)))))))))))
theorem ok216 (x y : Int) (h : turnOk x y = true) : Ok Tryz.prog 216 [.ag [vi x, vi y]] (.bool true) := by
 have ha := turnOk_axes h
 have hx := axis_cases ha.1
 have hy := axis_cases ha.2
 simp only [turnOk, Bool.and_eq_true, bne_iff_ne, ne_eq] at h
 obtain ⟨⟨h1, h2⟩, h3⟩ := h
 refine zz 26 Tryz.func216 rfl Tryz.call216 rfl (zR (zo rfl (zo rfl (zw (zR (zo rfl (zo rfl (zc rfl (ok247 _ ha.1) (zo rfl ?_)))))))))
 refine zT rfl (fun h1 => ?_) (fun h1 => ?_)
 refine zO (fun _ => rfl) (zh rfl h1 rfl (step_sil (sil_on rfl h1 (sil_call rfl rfl (fun _ => rfl) (fun _ => rfl) (ok247 _ ha.2) ?_))))
 refine zp rfl h1 rfl (zo rfl (zT rfl (fun h2 => ?_) (fun h2 => ?_)))
 refine zO (fun _ => rfl) (zh rfl h2 rfl (zh rfl h2 rfl (zh rfl h2 rfl (zh rfl h2 rfl (zp rfl h2 rfl (zo rfl (zT rfl (fun h3 => ?_) (fun h3 => ?_))))))))
 refine zO (fun _ => rfl) (zh rfl h3 rfl (zh rfl h3 rfl (zh rfl h3 rfl (step_sil (sil_on rfl h3 (sil_neg rfl rfl (by first | (constructor <;> omega) | (simp only [decide_eq_true_eq, decide_eq_false_iff_not, Bool.not_eq_true', Bool.not_eq_false', beq_eq_false_iff_ne, beq_iff_eq, ne_eq] at *; constructor <;> omega)) ?_))))))
 exact zh rfl h3 rfl (zp rfl h3 rfl (zo rfl (zw (Sat.ret (ze rfl (by first | rfl | (simp_all; done) | (simp_all; omega)))))))
 exact zt rfl h3 (zt rfl h3 (zt rfl h3 (zt rfl h3 (zt rfl h3 (zP rfl h3 rfl (zo rfl (zw (Sat.ret (ze rfl (by first | rfl | (simp_all; done) | (simp_all; omega)))))))))))
 refine zt rfl h2 (zt rfl h2 (zt rfl h2 (zt rfl h2 (zP rfl h2 rfl (zo rfl (zt rfl rfl (zt rfl rfl (zt rfl rfl (zt rfl rfl ?_)))))))))
 exact zt rfl rfl (zt rfl rfl (zP rfl rfl rfl (zo rfl (zw (Sat.ret (ze rfl (by first | rfl | (simp_all; done) | (simp_all; omega))))))))
 refine zt rfl h1 (zt rfl h1 (zP rfl h1 rfl (zo rfl (zt rfl rfl (zt rfl rfl (zt rfl rfl (zt rfl rfl (zt rfl rfl (zP rfl rfl rfl ?_)))))))))
 refine zo rfl (zt rfl rfl (zt rfl rfl (zt rfl rfl (zt rfl rfl (zt rfl rfl (zt rfl rfl (zP rfl rfl rfl (zo rfl (zw (Sat.ret ?_))))))))))
 exact ze rfl (by first | rfl | (simp_all; done) | (simp_all; omega))
theorem ok265_1 : Ok Tryz.prog 265 [vi 1] (.ag [vi 1, vi 0, vi 0]) := by
 refine zz 14 Tryz.func265 rfl Tryz.call265 rfl (zR (zo rfl (zw (zR (zo rfl (zw (zq (zR (zo rfl ?_)))))))))
 refine zo rfl (zw (zy rfl (rfl) (zr (zo rfl (zs rfl (zo rfl (zd rfl rfl (zw (zR (zo rfl ?_))))))))))
 exact zd rfl rfl (zw (Sat.ret (ze rfl rfl)))
theorem ok265_2 : Ok Tryz.prog 265 [vi 2] (.ag [vi 0, vi 1, vi 0]) := by
 refine zz 14 Tryz.func265 rfl Tryz.call265 rfl (zR (zo rfl (zw (zR (zo rfl (zw (zq (zR (zo rfl ?_)))))))))
 refine zo rfl (zw (zy rfl (rfl) (zr (zo rfl (zs rfl (zo rfl (zd rfl rfl (zw (zR (zo rfl ?_))))))))))
 exact zd rfl rfl (zw (Sat.ret (ze rfl rfl)))
theorem ok265_3 : Ok Tryz.prog 265 [vi 3] (.ag [vi 0, vi 0, vi 1]) := by
 refine zz 14 Tryz.func265 rfl Tryz.call265 rfl (zR (zo rfl (zw (zR (zo rfl (zw (zq (zR (zo rfl ?_)))))))))
 refine zo rfl (zw (zy rfl (rfl) (zr (zo rfl (zs rfl (zo rfl (zd rfl rfl (zw (zR (zo rfl ?_))))))))))
 exact zd rfl rfl (zw (Sat.ret (ze rfl rfl)))
theorem ok265_m1 : Ok Tryz.prog 265 [vi (-1)] (.ag [vi (-1), vi 0, vi 0]) := by
 refine zz 14 Tryz.func265 rfl Tryz.call265 rfl (zR (zo rfl (zw (zR (zo rfl (zw (zq (zR (zo rfl ?_)))))))))
 refine zo rfl (zw (zn rfl (rfl) (zr (zo rfl (step_sil (sil_neg rfl rfl (by first | (constructor <;> omega) | (simp only [decide_eq_true_eq, decide_eq_false_iff_not, Bool.not_eq_true', Bool.not_eq_false', beq_eq_false_iff_ne, beq_iff_eq, ne_eq] at *; constructor <;> omega)) ?_))))))
 exact zs rfl (zo rfl (zd rfl rfl (zw (zR (zo rfl (zd rfl rfl (zw (Sat.ret (ze rfl rfl)))))))))
theorem ok265_m2 : Ok Tryz.prog 265 [vi (-2)] (.ag [vi 0, vi (-1), vi 0]) := by
 refine zz 14 Tryz.func265 rfl Tryz.call265 rfl (zR (zo rfl (zw (zR (zo rfl (zw (zq (zR (zo rfl ?_)))))))))
 refine zo rfl (zw (zn rfl (rfl) (zr (zo rfl (step_sil (sil_neg rfl rfl (by first | (constructor <;> omega) | (simp only [decide_eq_true_eq, decide_eq_false_iff_not, Bool.not_eq_true', Bool.not_eq_false', beq_eq_false_iff_ne, beq_iff_eq, ne_eq] at *; constructor <;> omega)) ?_))))))
 exact zs rfl (zo rfl (zd rfl rfl (zw (zR (zo rfl (zd rfl rfl (zw (Sat.ret (ze rfl rfl)))))))))
theorem ok265_m3 : Ok Tryz.prog 265 [vi (-3)] (.ag [vi 0, vi 0, vi (-1)]) := by
 refine zz 14 Tryz.func265 rfl Tryz.call265 rfl (zR (zo rfl (zw (zR (zo rfl (zw (zq (zR (zo rfl ?_)))))))))
 refine zo rfl (zw (zn rfl (rfl) (zr (zo rfl (step_sil (sil_neg rfl rfl (by first | (constructor <;> omega) | (simp only [decide_eq_true_eq, decide_eq_false_iff_not, Bool.not_eq_true', Bool.not_eq_false', beq_eq_false_iff_ne, beq_iff_eq, ne_eq] at *; constructor <;> omega)) ?_))))))
 exact zs rfl (zo rfl (zd rfl rfl (zw (zR (zo rfl (zd rfl rfl (zw (Sat.ret (ze rfl rfl)))))))))
theorem ok265 (n : Int) (h : isAxis n = true) : Ok Tryz.prog 265 [vi n] (.ag [vi (un1 n), vi (un2 n), vi (un3 n)]) := by
 rcases axis_cases h with rfl | rfl | rfl | rfl | rfl | rfl
 · exact ok265_1
 · exact ok265_2
 · exact ok265_3
 · exact ok265_m1
 · exact ok265_m2
 · exact ok265_m3
theorem ok266 (s t : Int) : Ok Tryz.prog 266 [.ag [vi (un1 s), vi (un2 s), vi (un3 s)], .ag [vi (un1 t), vi (un2 t), vi (un3 t)]] (.ag [vi (cr1 s t), vi (cr2 s t), vi (cr3 s t)]) := by
 obtain ⟨a1, a2, a3⟩ := un_le s
 obtain ⟨b1, b2, b3⟩ := un_le t
 have h1 := mul_in a2 b3
 have h2 := mul_in a3 b2
 have h3 := mul_in a3 b1
 have h4 := mul_in a1 b3
 have h5 := mul_in a1 b2
 have h6 := mul_in a2 b1
 refine zz 39 Tryz.func266 rfl Tryz.call266 rfl (zR (zo rfl (zo rfl (zo rfl (zw (zR (zo rfl (zo rfl (zo rfl ?_)))))))))
 refine zo rfl (zm rfl (zo rfl (zo rfl (zo rfl (zo rfl (zm rfl (zs rfl (zo rfl (zo rfl ?_)))))))))
 refine zo rfl (zo rfl (zm rfl (zo rfl (zo rfl (zo rfl (zo rfl (zm rfl (zs rfl (zo rfl ?_)))))))))
 refine zo rfl (zo rfl (zo rfl (zm rfl (zo rfl (zo rfl (zo rfl (zo rfl (zm rfl (zs rfl ?_)))))))))
 exact zo rfl (zd rfl rfl (zw (Sat.ret (ze rfl rfl))))
def cols (s t : Int) : List V := [vi (un1 s), vi (un2 s), vi (un3 s), vi (un1 t), vi (un2 t), vi (un3 t), vi (cr1 s t), vi (cr2 s t), vi (cr3 s t)]
theorem ok261 (s t : Int) (hs : isAxis s = true) (ht : isAxis t = true) : Ok Tryz.prog 261 [.ag [vi s, vi t]] (.ag (cols s t)) := by
 refine zz 17 Tryz.func261 rfl Tryz.call261 rfl (zR (zo rfl (zo rfl (zw (zq (Sat.dp tabOk mixed [1] (.sil 0 (.sil 1 (.sil 2 (.sil 3 (.sil 4 (.sil 5 (.two 6 7 (.one 7 (.one 8 (.one 9 (.done)))) (.one 6 (.one 8 (.one 9 (.done))))))))))) (⟨17, lk [(2, .ptr 2 0), (3, .ptr 3 0), (4, .ptr 4 0)], lk [(2, ⟨.cells ((List.replicate 9 (vi 0)).map .v), false⟩), (3, ⟨.cells [.v (vi (un1 s)), .v (vi (un2 s)), .v (vi (un3 s))], false⟩), (4, ⟨.cells [.v (vi (un1 t)), .v (vi (un2 t)), .v (vi (un3 t))], false⟩)]⟩) (by decide) (by kernel_rfl) ?_ ?_))))))
 refine p_sil rfl (zO (fun _ => rfl) ?_)
 refine p_sil rfl (zO (fun _ => rfl) ?_)
 refine p_sil rfl (sil_call rfl rfl (fun _ => rfl) (fun _ => rfl) (ok265 _ hs) ?_)
 refine p_sil rfl (zO (fun _ => rfl) ?_)
 refine p_sil rfl (zO (fun _ => rfl) ?_)
 refine p_sil rfl (sil_call rfl rfl (fun _ => rfl) (fun _ => rfl) (ok265 _ ht) ?_)
 refine p_two ?_ ?_
 refine p_one rfl (step_op rfl rfl rfl ⟨ovr_eq ⟨rfl, trivial⟩, ?_⟩)
 refine p_one rfl (step_op rfl rfl rfl ⟨ovr_eq ⟨rfl, trivial⟩, ?_⟩)
 refine p_one rfl (step_do rfl rfl ⟨ovr_eq ⟨rfl, trivial⟩, ?_⟩)
 refine p_one rfl (step_do rfl rfl ⟨ovr_eq ⟨rfl, trivial⟩, ?_⟩)
 exact pn (zv rfl rfl rfl rfl)
 refine p_one rfl (step_op rfl rfl rfl ⟨ovr_eq ⟨rfl, trivial⟩, ?_⟩)
 refine p_one rfl (step_op rfl rfl rfl ⟨ovr_eq ⟨rfl, trivial⟩, ?_⟩)
 refine p_one rfl (step_do rfl rfl ⟨ovr_eq ⟨rfl, trivial⟩, ?_⟩)
 refine p_one rfl (step_do rfl rfl ⟨ovr_eq ⟨rfl, trivial⟩, ?_⟩)
 exact pn (zv rfl rfl rfl rfl)
 refine nq (zq (Sat.dwN tabOk mixed [3, 4] [6] [0, 1, 2, 3, 4, 5, 6] (by decide) (by kernel_rfl) (walk_sil rfl rfl (zO (fun _ => rfl) ?_))))
 refine walk_sil rfl rfl (zO (fun _ => rfl) ?_)
 refine walk_sil rfl rfl (zO (fun _ => rfl) ?_)
 refine walk_sil rfl rfl (zO (fun _ => rfl) ?_)
 refine walk_sil rfl rfl (sil_call rfl rfl (fun _ => rfl) (fun _ => rfl) (ok266 _ _) ?_)
 refine walk_sil rfl rfl (zO (fun _ => rfl) ?_)
 refine walk_eff rfl rfl (step_do rfl rfl ⟨lastly_no (by kernel_rfl), ?_⟩)
 exact kn (nq (Sat.ret (ze rfl rfl)))
def img2 (s t : Int) (p : Pt) : Pt := ⟨un1 s * p.x + un1 t * p.y + cr1 s t * p.z, un2 s * p.x + un2 t * p.y + cr2 s t * p.z, un3 s * p.x + un3 t * p.y + cr3 s t * p.z⟩
theorem img2_eq (s t : Int) (p : Pt) : img2 s t p = img s t p := by
 simp only [img2, img, Int.mul_comm, Int.add_assoc]
def cells3 (p : Pt) : List D := [.v (vi p.x), .v (vi p.y), .v (vi p.z)]
theorem ok257' (s t : Int) (p : Pt) (hs : isAxis s = true) (ht : isAxis t = true) (hp : p.In 16777216) :
  Ok Tryz.prog 257 [.ag [vi s, vi t], .ag [vi p.x, vi p.y, vi p.z]] (.ag [vi (img2 s t p).x, vi (img2 s t p).y, vi (img2 s t p).z]) := by
 obtain ⟨hx, hy, hz⟩ := hp
 obtain ⟨a1, a2, a3⟩ := un_le s
 obtain ⟨b1, b2, b3⟩ := un_le t
 obtain ⟨c1, c2, c3⟩ := cr_le s t
 have x1 := mul_in a1 hx
 have x2 := mul_in a2 hx
 have x3 := mul_in a3 hx
 have y1 := mul_in b1 hy
 have y2 := mul_in b2 hy
 have y3 := mul_in b3 hy
 have z1 := mul_in c1 hz
 have z2 := mul_in c2 hz
 have z3 := mul_in c3 hz
 refine zz 46 Tryz.func257 rfl Tryz.call257 rfl (zR (zo rfl (zo rfl (zo rfl (zw (zR (zo rfl (zc rfl (ok261 _ _ hs ht) (zo rfl ?_)))))))))
 refine zd rfl rfl (zw (zR (zo rfl (zw (zq (zR (zo rfl (zw (Sat.loop' (fun _ => True) (fun i => ⟨46, lk [(3, .ptr 3 0), (4, .ptr 4 0), (5, .ptr 5 0), (6, .ptr 6 0), (10, .v (vi i))], lk [(3, ⟨.cells (cells3 p), false⟩), (4, ⟨.cells ((List.replicate 3 (vi 0)).map .v), false⟩), (5, ⟨.cells ((cols s t).map .v), false⟩), (6, ⟨.cells ((cells3 (img2 s t p)).take i ++ ((List.replicate 3 (vi 0)).map D.v).drop i), false⟩)]⟩) (3) ?_ (trivial) (fun i hi hI => ?_) (fun hI => ?_))))))))))
 exact zv rfl rfl rfl rfl
 have hcs : i = 0 ∨ i = 1 ∨ i = 2 := by omega
 rcases hcs with rfl | rfl | rfl
 refine zR (zo rfl (zw (zq (zy rfl (by rfl) (zk (zq (zb rfl (zR (zo rfl ?_)))))))))
 refine zo rfl (zw (Sat.dwN tabOk mixed [3, 5] [25] [0, 1, 2, 3, 4, 5, 6, 7, 8, 9, 10, 11, 12, 13, 14, 15, 16, 17, 18, 19, 20, 21, 22, 23, 24, 25] (by decide) (by kernel_rfl) (walk_sil rfl rfl (zO (fun _ => rfl) ?_))))
 refine walk_sil rfl rfl (zO (fun _ => rfl) ?_)
 refine walk_sil rfl rfl (zO (fun _ => rfl) ?_)
 refine walk_sil rfl rfl (zO (fun _ => rfl) ?_)
 refine walk_sil rfl rfl (zO (fun _ => rfl) ?_)
 refine walk_sil rfl rfl (zO (fun _ => rfl) ?_)
 refine walk_sil rfl rfl (zO (fun _ => rfl) ?_)
 refine walk_sil rfl rfl (sil_mul rfl rfl rfl (by first | (constructor <;> omega) | (simp only [decide_eq_true_eq, decide_eq_false_iff_not, Bool.not_eq_true', Bool.not_eq_false', beq_eq_false_iff_ne, beq_iff_eq, ne_eq] at *; constructor <;> omega)) ?_)
 refine walk_sil rfl rfl (zO (fun _ => rfl) ?_)
 refine walk_sil rfl rfl (zO (fun _ => rfl) ?_)
 refine walk_sil rfl rfl (zO (fun _ => rfl) ?_)
 refine walk_sil rfl rfl (zO (fun _ => rfl) ?_)
 refine walk_sil rfl rfl (zO (fun _ => rfl) ?_)
 refine walk_sil rfl rfl (zO (fun _ => rfl) ?_)
 refine walk_sil rfl rfl (sil_mul rfl rfl rfl (by first | (constructor <;> omega) | (simp only [decide_eq_true_eq, decide_eq_false_iff_not, Bool.not_eq_true', Bool.not_eq_false', beq_eq_false_iff_ne, beq_iff_eq, ne_eq] at *; constructor <;> omega)) ?_)
 refine walk_sil rfl rfl (sil_add rfl rfl rfl (by first | (constructor <;> omega) | (simp only [decide_eq_true_eq, decide_eq_false_iff_not, Bool.not_eq_true', Bool.not_eq_false', beq_eq_false_iff_ne, beq_iff_eq, ne_eq] at *; constructor <;> omega)) ?_)
 refine walk_sil rfl rfl (zO (fun _ => rfl) ?_)
 refine walk_sil rfl rfl (zO (fun _ => rfl) ?_)
 refine walk_sil rfl rfl (zO (fun _ => rfl) ?_)
 refine walk_sil rfl rfl (zO (fun _ => rfl) ?_)
 refine walk_sil rfl rfl (zO (fun _ => rfl) ?_)
 refine walk_sil rfl rfl (zO (fun _ => rfl) ?_)
 refine walk_sil rfl rfl (sil_mul rfl rfl rfl (by first | (constructor <;> omega) | (simp only [decide_eq_true_eq, decide_eq_false_iff_not, Bool.not_eq_true', Bool.not_eq_false', beq_eq_false_iff_ne, beq_iff_eq, ne_eq] at *; constructor <;> omega)) ?_)
 refine walk_sil rfl rfl (sil_add rfl rfl rfl (by first | (constructor <;> omega) | (simp only [decide_eq_true_eq, decide_eq_false_iff_not, Bool.not_eq_true', Bool.not_eq_false', beq_eq_false_iff_ne, beq_iff_eq, ne_eq] at *; constructor <;> omega)) ?_)
 refine walk_sil rfl rfl (zO (fun _ => rfl) ?_)
 refine walk_eff rfl rfl (step_do rfl rfl ⟨lastly_no (by kernel_rfl), ?_⟩)
 exact kn (nb (nq (zr (za rfl (zo rfl (wn (ns trivial (zv rfl rfl rfl rfl))))))))
 refine zR (zo rfl (zw (zq (zy rfl (by rfl) (zk (zq (zb rfl (zR (zo rfl ?_)))))))))
 refine zo rfl (zw (Sat.dwN tabOk mixed [3, 5] [25] [0, 1, 2, 3, 4, 5, 6, 7, 8, 9, 10, 11, 12, 13, 14, 15, 16, 17, 18, 19, 20, 21, 22, 23, 24, 25] (by decide) (by kernel_rfl) (walk_sil rfl rfl (zO (fun _ => rfl) ?_))))
 refine walk_sil rfl rfl (zO (fun _ => rfl) ?_)
 refine walk_sil rfl rfl (zO (fun _ => rfl) ?_)
 refine walk_sil rfl rfl (zO (fun _ => rfl) ?_)
 refine walk_sil rfl rfl (zO (fun _ => rfl) ?_)
 refine walk_sil rfl rfl (zO (fun _ => rfl) ?_)
 refine walk_sil rfl rfl (zO (fun _ => rfl) ?_)
 refine walk_sil rfl rfl (sil_mul rfl rfl rfl (by first | (constructor <;> omega) | (simp only [decide_eq_true_eq, decide_eq_false_iff_not, Bool.not_eq_true', Bool.not_eq_false', beq_eq_false_iff_ne, beq_iff_eq, ne_eq] at *; constructor <;> omega)) ?_)
 refine walk_sil rfl rfl (zO (fun _ => rfl) ?_)
 refine walk_sil rfl rfl (zO (fun _ => rfl) ?_)
 refine walk_sil rfl rfl (zO (fun _ => rfl) ?_)
 refine walk_sil rfl rfl (zO (fun _ => rfl) ?_)
 refine walk_sil rfl rfl (zO (fun _ => rfl) ?_)
 refine walk_sil rfl rfl (zO (fun _ => rfl) ?_)
 refine walk_sil rfl rfl (sil_mul rfl rfl rfl (by first | (constructor <;> omega) | (simp only [decide_eq_true_eq, decide_eq_false_iff_not, Bool.not_eq_true', Bool.not_eq_false', beq_eq_false_iff_ne, beq_iff_eq, ne_eq] at *; constructor <;> omega)) ?_)
 refine walk_sil rfl rfl (sil_add rfl rfl rfl (by first | (constructor <;> omega) | (simp only [decide_eq_true_eq, decide_eq_false_iff_not, Bool.not_eq_true', Bool.not_eq_false', beq_eq_false_iff_ne, beq_iff_eq, ne_eq] at *; constructor <;> omega)) ?_)
 refine walk_sil rfl rfl (zO (fun _ => rfl) ?_)
 refine walk_sil rfl rfl (zO (fun _ => rfl) ?_)
 refine walk_sil rfl rfl (zO (fun _ => rfl) ?_)
 refine walk_sil rfl rfl (zO (fun _ => rfl) ?_)
 refine walk_sil rfl rfl (zO (fun _ => rfl) ?_)
 refine walk_sil rfl rfl (zO (fun _ => rfl) ?_)
 refine walk_sil rfl rfl (sil_mul rfl rfl rfl (by first | (constructor <;> omega) | (simp only [decide_eq_true_eq, decide_eq_false_iff_not, Bool.not_eq_true', Bool.not_eq_false', beq_eq_false_iff_ne, beq_iff_eq, ne_eq] at *; constructor <;> omega)) ?_)
 refine walk_sil rfl rfl (sil_add rfl rfl rfl (by first | (constructor <;> omega) | (simp only [decide_eq_true_eq, decide_eq_false_iff_not, Bool.not_eq_true', Bool.not_eq_false', beq_eq_false_iff_ne, beq_iff_eq, ne_eq] at *; constructor <;> omega)) ?_)
 refine walk_sil rfl rfl (zO (fun _ => rfl) ?_)
 refine walk_eff rfl rfl (step_do rfl rfl ⟨lastly_no (by kernel_rfl), ?_⟩)
 exact kn (nb (nq (zr (za rfl (zo rfl (wn (ns trivial (zv rfl rfl rfl rfl))))))))
 refine zR (zo rfl (zw (zq (zy rfl (by rfl) (zk (zq (zb rfl (zR (zo rfl ?_)))))))))
 refine zo rfl (zw (Sat.dwN tabOk mixed [3, 5] [25] [0, 1, 2, 3, 4, 5, 6, 7, 8, 9, 10, 11, 12, 13, 14, 15, 16, 17, 18, 19, 20, 21, 22, 23, 24, 25] (by decide) (by kernel_rfl) (walk_sil rfl rfl (zO (fun _ => rfl) ?_))))
 refine walk_sil rfl rfl (zO (fun _ => rfl) ?_)
 refine walk_sil rfl rfl (zO (fun _ => rfl) ?_)
 refine walk_sil rfl rfl (zO (fun _ => rfl) ?_)
 refine walk_sil rfl rfl (zO (fun _ => rfl) ?_)
 refine walk_sil rfl rfl (zO (fun _ => rfl) ?_)
 refine walk_sil rfl rfl (zO (fun _ => rfl) ?_)
 refine walk_sil rfl rfl (sil_mul rfl rfl rfl (by first | (constructor <;> omega) | (simp only [decide_eq_true_eq, decide_eq_false_iff_not, Bool.not_eq_true', Bool.not_eq_false', beq_eq_false_iff_ne, beq_iff_eq, ne_eq] at *; constructor <;> omega)) ?_)
 refine walk_sil rfl rfl (zO (fun _ => rfl) ?_)
 refine walk_sil rfl rfl (zO (fun _ => rfl) ?_)
 refine walk_sil rfl rfl (zO (fun _ => rfl) ?_)
 refine walk_sil rfl rfl (zO (fun _ => rfl) ?_)
 refine walk_sil rfl rfl (zO (fun _ => rfl) ?_)
 refine walk_sil rfl rfl (zO (fun _ => rfl) ?_)
 refine walk_sil rfl rfl (sil_mul rfl rfl rfl (by first | (constructor <;> omega) | (simp only [decide_eq_true_eq, decide_eq_false_iff_not, Bool.not_eq_true', Bool.not_eq_false', beq_eq_false_iff_ne, beq_iff_eq, ne_eq] at *; constructor <;> omega)) ?_)
 refine walk_sil rfl rfl (sil_add rfl rfl rfl (by first | (constructor <;> omega) | (simp only [decide_eq_true_eq, decide_eq_false_iff_not, Bool.not_eq_true', Bool.not_eq_false', beq_eq_false_iff_ne, beq_iff_eq, ne_eq] at *; constructor <;> omega)) ?_)
 refine walk_sil rfl rfl (zO (fun _ => rfl) ?_)
 refine walk_sil rfl rfl (zO (fun _ => rfl) ?_)
 refine walk_sil rfl rfl (zO (fun _ => rfl) ?_)
 refine walk_sil rfl rfl (zO (fun _ => rfl) ?_)
 refine walk_sil rfl rfl (zO (fun _ => rfl) ?_)
 refine walk_sil rfl rfl (zO (fun _ => rfl) ?_)
 refine walk_sil rfl rfl (sil_mul rfl rfl rfl (by first | (constructor <;> omega) | (simp only [decide_eq_true_eq, decide_eq_false_iff_not, Bool.not_eq_true', Bool.not_eq_false', beq_eq_false_iff_ne, beq_iff_eq, ne_eq] at *; constructor <;> omega)) ?_)
 refine walk_sil rfl rfl (sil_add rfl rfl rfl (by first | (constructor <;> omega) | (simp only [decide_eq_true_eq, decide_eq_false_iff_not, Bool.not_eq_true', Bool.not_eq_false', beq_eq_false_iff_ne, beq_iff_eq, ne_eq] at *; constructor <;> omega)) ?_)
 refine walk_sil rfl rfl (zO (fun _ => rfl) ?_)
 refine walk_eff rfl rfl (step_do rfl rfl ⟨lastly_no (by kernel_rfl), ?_⟩)
 exact kn (nb (nq (zr (za rfl (zo rfl (wn (ns trivial (zv rfl rfl rfl rfl))))))))
 refine zR (zo rfl (zw (zq (zn rfl (by rfl) (Sat.exit (xq (xe (nq (zR (zo rfl ?_))))))))))
 exact zo rfl (zo rfl (zo rfl (zo rfl (zo rfl (zo rfl (zd rfl rfl (zw (Sat.ret (ze rfl rfl)))))))))
theorem ok257 (s t : Int) (p : Pt) (hs : isAxis s = true) (ht : isAxis t = true) (hp : p.In 16777216) :
    Ok Tryz.prog 257 [.ag [vi s, vi t], .ag [vi p.x, vi p.y, vi p.z]] (.ag [vi (img s t p).x, vi (img s t p).y, vi (img s t p).z]) := by
 have := ok257' s t p hs ht hp
 rwa [img2_eq] at this
theorem ok242 (s t : Int) (a p : Pt) (hs : isAxis s = true) (ht : isAxis t = true) (hp : p.In 16777216) (ha : a.In 16777216000) :
  Ok Tryz.prog 242 [.ag [vi s, vi t], .ag [vi a.x, vi a.y, vi a.z], .ag [vi p.x, vi p.y, vi p.z]] (.ag [vi (addP a (img s t p)).x, vi (addP a (img s t p)).y, vi (addP a (img s t p)).z]) := by
 obtain ⟨m1, m2, m3⟩ := img_in (s := s) (t := t) hp
 obtain ⟨g1, g2, g3⟩ := ha
 refine zz 27 Tryz.func242 rfl Tryz.call242 rfl (zR (zo rfl (zo rfl (zo rfl (zo rfl (zw (zR (zo rfl (zo rfl ?_)))))))))
 refine zc rfl (ok257 s t p hs ht hp) (zo rfl (zd rfl rfl (zw (zR (zo rfl (zo rfl (zo rfl (zo rfl (za rfl ?_)))))))))
 refine zo rfl (zo rfl (zo rfl (zo rfl (za rfl (zo rfl (zo rfl (zo rfl (zo rfl (za rfl ?_)))))))))
 exact zo rfl (zd rfl rfl (zw (Sat.ret (ze rfl rfl))))
theorem ok241 (l : List Pt) (hl : l.length ≤ 1000) (h : ∀ i : Nat, i < l.length → (gt l i).In 1048576) : Ok Tryz.prog 241 [.sl (l.map Pt.c)] (.bool true) := by
 refine zz 31 Tryz.func241 rfl Tryz.call241 rfl (zR (zo rfl (zw (zq (zR (zo rfl (zo rfl (zo rfl (zw (Sat.loop' (fun _ => True) (fun i => ⟨31, lk [(7, .v (.sl (l.map Pt.c))), (8, .v (vi (l.map Pt.c).length)), (9, .v (vi i))], lk []⟩) (l.length) ?_ (trivial) (fun i hi hI => ?_) (fun hI => ?_)))))))))))
 exact zv rfl rfl rfl rfl
 obtain ⟨q1, q2, q3⟩ := h i hi
 clear h
 refine zR (zo rfl (zw (zq (zy rfl (by simp [hi]) (zk (zq (zb rfl (zR (zi rfl rfl rfl rfl rfl ?_)))))))))
 refine zo rfl (zo rfl (zd rfl rfl (zw (zR (zo rfl (zo rfl (zo rfl (zo rfl (zo rfl ?_)))))))))
 refine zo rfl (zo rfl (zo rfl (zw (Sat.loop' (fun _ => True) (fun k => ⟨31, lk [(7, .v (.sl (l.map Pt.c))), (8, .v (vi (l.map Pt.c).length)), (9, .v (vi i)), (19, .ag [.v (vi (gt l i).x), .v (vi (gt l i).y), .v (vi (gt l i).z)]), (20, .v (vi k))], lk []⟩) (3) ?_ (trivial) (fun k hk hK => ?_) (fun hK => ?_)))))
 exact zv rfl rfl rfl rfl
 have hcs : k = 0 ∨ k = 1 ∨ k = 2 := by omega
 rcases hcs with rfl | rfl | rfl
 refine zR (zo rfl (zw (zq (zy rfl (by rfl) (zk (zq (zb rfl (zR (zo rfl ?_)))))))))
 refine zo rfl (zw (zR (zo rfl (zo rfl (zo rfl (zF rfl (fun h1 => ?_) (fun h1 => ?_)))))))
 refine zO (fun _ => rfl) (zh rfl h1 rfl (zP rfl h1 rfl (zw (zC rfl (fun h2 => ?_) (fun h2 => ?_)))))
 refine zR (zo rfl (zw (Sat.ret (rb (rq (rs (rb (rq (rs ?_)))))))))
 exact rq (ze rfl (by first | rfl | (exfalso; simp_all; omega)))
 exact Sat.skip (nb (nq (zr (za rfl (zo rfl (wn (ns trivial (zv rfl rfl rfl rfl))))))))
 refine zf rfl h1 (zp rfl h1 rfl (zw (zy rfl rfl (zR (zo rfl (zw (Sat.ret (rb (rq ?_)))))))))
 exact rs (rb (rq (rs (rq (ze rfl (by first | rfl | (exfalso; simp_all; omega)))))))
 refine zR (zo rfl (zw (zq (zy rfl (by rfl) (zk (zq (zb rfl (zR (zo rfl ?_)))))))))
 refine zo rfl (zw (zR (zo rfl (zo rfl (zo rfl (zF rfl (fun h3 => ?_) (fun h3 => ?_)))))))
 refine zO (fun _ => rfl) (zh rfl h3 rfl (zP rfl h3 rfl (zw (zC rfl (fun h4 => ?_) (fun h4 => ?_)))))
 refine zR (zo rfl (zw (Sat.ret (rb (rq (rs (rb (rq (rs ?_)))))))))
 exact rq (ze rfl (by first | rfl | (exfalso; simp_all; omega)))
 exact Sat.skip (nb (nq (zr (za rfl (zo rfl (wn (ns trivial (zv rfl rfl rfl rfl))))))))
 refine zf rfl h3 (zp rfl h3 rfl (zw (zy rfl rfl (zR (zo rfl (zw (Sat.ret (rb (rq ?_)))))))))
 exact rs (rb (rq (rs (rq (ze rfl (by first | rfl | (exfalso; simp_all; omega)))))))
 refine zR (zo rfl (zw (zq (zy rfl (by rfl) (zk (zq (zb rfl (zR (zo rfl ?_)))))))))
 refine zo rfl (zw (zR (zo rfl (zo rfl (zo rfl (zF rfl (fun h5 => ?_) (fun h5 => ?_)))))))
 refine zO (fun _ => rfl) (zh rfl h5 rfl (zP rfl h5 rfl (zw (zC rfl (fun h6 => ?_) (fun h6 => ?_)))))
 refine zR (zo rfl (zw (Sat.ret (rb (rq (rs (rb (rq (rs ?_)))))))))
 exact rq (ze rfl (by first | rfl | (exfalso; simp_all; omega)))
 exact Sat.skip (nb (nq (zr (za rfl (zo rfl (wn (ns trivial (zv rfl rfl rfl rfl))))))))
 refine zf rfl h5 (zp rfl h5 rfl (zw (zy rfl rfl (zR (zo rfl (zw (Sat.ret (rb (rq ?_)))))))))
 exact rs (rb (rq (rs (rq (ze rfl (by first | rfl | (exfalso; simp_all; omega)))))))
 refine zR (zo rfl (zw (zq (zn rfl (by rfl) (Sat.exit (xq (xe (nb (nq ?_)))))))))
 exact zr (za rfl (zo rfl (wn (ns trivial (zv rfl rfl rfl rfl)))))
 refine zR (zo rfl (zw (zq (zn rfl (by simp) (Sat.exit (xq (xe (nq (zR (zo rfl ?_))))))))))
 exact zw (Sat.ret (ze rfl (by first | rfl | (exfalso; simp_all; omega))))
end Go.Proofs.YtamjajacnfmgeaaGreat
namespace Go.Proofs.YtamjajacnfmgeaaGreat
open Go Go.RowKit
set_option maxHeartbeats 1000000
def placeL (s t : Int) (a : Pt) (l : List Pt) : List Pt := (List.range l.length).map fun i : Nat => addP a (img s t (gt l i))
theorem ok210 (s t : Int) (a : Pt) (l : List Pt) (hst : turnOk s t = true) (ha : a.In 1048576) (hl : l.length ≤ 1000) (hp : ∀ i : Nat, i < l.length → (gt l i).In 1048576) :
  Ok Tryz.prog 210 [.ag [vi s, vi t], .ag [vi a.x, vi a.y, vi a.z], .sl (l.map Pt.c)] (.tp [.sl ((placeL s t a l).map Pt.c), vi 0]) := by
 have hax := turnOk_axes hst
 have h1 : ∀ i : Nat, i < [a].length → (gt [a] i).In 1048576 := fun i hi => by
   have : i = 0 := by simp at hi; omega
   subst this; exact ha
 refine zz 44 Tryz.func210 rfl Tryz.call210 rfl (zR (zo rfl (zo rfl (zo rfl (zo rfl (zw (zq (zb rfl (zR (zo rfl ?_))))))))))
 refine zc rfl (ok216 _ _ hst) (zo rfl (zo rfl (zw (zn rfl (by first | rfl | (simp; omega)) (zR (zo rfl (zo rfl (zo rfl (zo rfl ?_)))))))))
 refine zw (zn rfl (by first | rfl | (simp; omega)) (zq (Sat.to tabOk (⟨44, lk [(2, .v (.sl (l.map Pt.c))), (3, .ptr 3 0), (4, .ptr 4 0), (19, .v (.bool false))], lk [(3, ⟨.cells [.v (vi s), .v (vi t)], false⟩), (4, ⟨.cells [.v (vi a.x), .v (vi a.y), .v (vi a.z)], false⟩)]⟩) ?_ ?_)))
 refine zo rfl (zo rfl (step_call rfl rfl rfl (ok241 [a] (by simp) h1) (zo rfl (zo rfl (zF rfl (fun h1 => ?_) (fun h1 => ?_))))))
 refine zO (fun _ => rfl) (step_sil (sil_on rfl h1 (sil_call rfl rfl (fun _ => rfl) (fun _ => rfl) (ok241 l hl hp) ?_)))
 exact zh rfl h1 rfl (zP rfl h1 rfl (zo rfl (wn (weak_of ⟨rfl, rfl, rfl, bool_eq rfl (by first | rfl | simp_all), trivial⟩ ⟨rfl, rfl, trivial⟩ rfl rfl))))
 exact zf rfl h1 (zf rfl h1 (zp rfl h1 rfl (zo rfl (wn (weak_of ⟨rfl, rfl, rfl, bool_eq rfl (by first | rfl | simp_all), trivial⟩ ⟨rfl, rfl, trivial⟩ rfl rfl)))))
 refine nq (zn rfl (by first | rfl | (simp; omega)) (Sat.skip (nb (nq (zR (zo rfl (zw (zq (zR (zo rfl ?_))))))))))
 refine zo rfl (zo rfl (zw (Sat.loop' (fun _ => True) (fun i => ⟨44, lk [(3, .ptr 3 0), (4, .ptr 4 0), (8, slD 41 3 ((List.range i).map fun j : Nat => (addP a (img s t (gt l j))).c)), (29, .v (.sl (l.map Pt.c))), (30, .v (vi (l.map Pt.c).length)), (31, .v (vi i))], lkO [(3, some ⟨.cells [.v (vi s), .v (vi t)], false⟩), (4, some ⟨.cells [.v (vi a.x), .v (vi a.y), .v (vi a.z)], false⟩), (41, slS 3 ((List.range i).map fun j : Nat => (addP a (img s t (gt l j))).c))]⟩) (l.length) ?_ (trivial) (fun i hi hI => ?_) (fun hI => ?_))))
 exact weakO ⟨rfl, rfl, rfl, rfl, rfl, rfl, trivial⟩ ⟨so rfl, so rfl, soS rfl, trivial⟩ (by repeat' (first | exact trivial | exact rfl | exact slD_ment rfl | exact moS | exact mo rfl | refine ⟨?_, ?_⟩)) (by repeat' (first | exact trivial | exact rfl | exact slD_ment rfl | exact moS | exact mo rfl | refine ⟨?_, ?_⟩))
 refine zR (zo rfl (zw (zq (zy rfl (by simp [hi]) (zk (zq (zb rfl (zR (zi rfl rfl rfl rfl rfl ?_)))))))))
 refine zo rfl (zo rfl (zd rfl rfl (zw (zr (zo rfl (zo rfl (zo rfl (zo rfl (zc rfl (ok242 s t a _ hax.1 hax.2 ((hp i hi).mono (by omega)) (ha.mono (by omega))) ?_)))))))))
 refine zo rfl ?_
 first | (refine step_app1 rfl (by first | exact .inl rfl | (right; simp)) rfl rfl rfl rfl rfl rfl (by simp; omega) rfl ?_) | (refine step_op rfl rfl rfl ?_)
 exact zo rfl (wn (nb (nq (zr (za rfl (zo rfl (wn (ns trivial (weakO ⟨rfl, rfl, slD_eq rfl (rangeM_snoc _ _).symm, rfl, rfl, rfl, trivial⟩ ⟨so rfl, so rfl, soA rfl (rangeM_snoc _ _).symm, trivial⟩ (by repeat' (first | exact trivial | exact rfl | exact slD_ment rfl | exact moS | exact mo rfl | refine ⟨?_, ?_⟩)) (by repeat' (first | exact trivial | exact rfl | exact slD_ment rfl | exact moS | exact mo rfl | refine ⟨?_, ?_⟩)))))))))))
 refine zR (zo rfl (zw (zq (zn rfl (by simp) (Sat.exit (xq (xe (nq (Sat.pubS 8 rfl rfl ?_)))))))))
 exact zR (zo rfl (zo rfl (zo rfl (zw (Sat.ret (ze rfl (by simp only [placeL, List.map_map]; rfl)))))))
theorem posAt_in2 {b : Bar} (hb : BarP b) {k : Nat} (hk : k ≤ (movesOf b).length) : (posAt (movesOf b) k).In 524288 := by
 have hs := hb.sum
 have hl := hb.len
 have d0 := hb.all 0
 have d1 := hb.all 1
 have d2 := hb.all 2
 have d3 := hb.all 3
 have d4 := hb.all 4
 rcases codes hb.pos with e | e | e | e | e | e | e | e
 all_goals
   rw [e] at hl
   simp only [dimsOf] at hl
   have hm : movesOf b = movesOf b := rfl
   conv at hm => rhs; unfold movesOf; rw [e]
   rw [hm] at hk ⊢
   have hn : b.dims.length = 1 ∨ b.dims.length = 2 ∨ b.dims.length = 3 ∨ b.dims.length = 5 := by simp at hl; omega
   rcases hn with hn | hn | hn | hn <;> rw [hn] at hs hl <;> simp at hl <;> simp [sumI] at hs <;> simp at hk <;>
     (have hkk : k = 0 ∨ k = 1 ∨ k = 2 ∨ k = 3 ∨ k = 4 ∨ k = 5 ∨ k = 6 := by omega
      rcases hkk with rfl | rfl | rfl | rfl | rfl | rfl | rfl <;> (try omega) <;> refine ⟨?_, ?_, ?_⟩ <;> simp [posAt, sumI, gt] at * <;> omega)
def placeB (x y z m : Int) : Bool := decide (mn (mn x y) z ≥ -m) && decide (mx (mx x y) z ≤ m)
theorem placeB_iff {x y z m : Int} : placeB x y z m = true ↔ (Pt.mk x y z).In m := by
 have h1 := mn_le x y
 have h2 := mn_le (mn x y) z
 have h3 := le_mx x y
 have h4 := le_mx (mx x y) z
 simp only [placeB, Bool.and_eq_true, decide_eq_true_eq, Pt.In]
 omega
theorem ok217 (x y z m : Int) (hm : i64R (-m)) : Ok Tryz.prog 217 [.ag [vi x, vi y, vi z], vi m] (.bool (placeB x y z m)) := by
 unfold placeB
 refine zz 26 Tryz.func217 rfl Tryz.call217 rfl (zR (zo rfl (zo rfl (zw (zR (zo rfl (zo rfl (zo rfl (zo rfl ?_)))))))))
 refine zo rfl (zo rfl (zo rfl (zo rfl (step_sil (sil_neg rfl rfl (by assumption) ?_)))))
 refine zo rfl (zo rfl (zT rfl (fun h1 => ?_) (fun h1 => ?_)))
 refine zO (fun _ => rfl) (zh rfl h1 rfl (zh rfl h1 rfl (zh rfl h1 rfl (zh rfl h1 rfl (zh rfl h1 rfl (zh rfl h1 rfl (zh rfl h1 rfl (zh rfl h1 rfl (zp rfl h1 rfl ?_)))))))))
 exact zo rfl (zw (Sat.ret (ze rfl (by first | rfl | (refine vb ?_; have := ‹decide _ = false›; change decide (mn (mn x y) z ≥ -m) = false at this; rw [this]; rfl) | (refine vb ?_; have := ‹decide _ = true›; change decide (mn (mn x y) z ≥ -m) = true at this; rw [this]; rfl)))))
 refine zt rfl h1 (zt rfl h1 (zt rfl h1 (zt rfl h1 (zt rfl h1 (zt rfl h1 (zt rfl h1 (zt rfl h1 (zP rfl h1 rfl (zo rfl ?_)))))))))
 exact zw (Sat.ret (ze rfl (by first | rfl | (refine vb ?_; have := ‹decide _ = false›; change decide (mn (mn x y) z ≥ -m) = false at this; rw [this]; rfl) | (refine vb ?_; have := ‹decide _ = true›; change decide (mn (mn x y) z ≥ -m) = true at this; rw [this]; rfl))))
def plusP (p s : Pt) (k : Int) : Pt := ⟨p.x + k * s.x, p.y + k * s.y, p.z + k * s.z⟩
theorem ok219 (p s : Pt) (k : Int) (hp : p.In 8388608000) (hs : s.In 8388608) (hk : -1000 ≤ k ∧ k ≤ 1000) : Ok Tryz.prog 219 [.ag [vi p.x, vi p.y, vi p.z], .ag [vi s.x, vi s.y, vi s.z], vi k] (.ag (plusP p s k).c) := by
 obtain ⟨p1, p2, p3⟩ := hp
 obtain ⟨s1, s2, s3⟩ := hs
 have x1 := mul_in hk s1
 have x2 := mul_in hk s2
 have x3 := mul_in hk s3
 refine zz 29 Tryz.func219 rfl Tryz.call219 rfl (zR (zo rfl (zo rfl (zo rfl (zw (zR (zo rfl (zo rfl (zo rfl ?_)))))))))
 refine zo rfl (zo rfl (zm rfl (za rfl (zo rfl (zo rfl (zo rfl (zo rfl (zo rfl (zm rfl ?_)))))))))
 refine za rfl (zo rfl (zo rfl (zo rfl (zo rfl (zo rfl (zm rfl (za rfl (zo rfl (zd rfl rfl ?_)))))))))
 exact zw (Sat.ret (ze rfl rfl))
theorem runOk_turn {bars : List Bar} {r : Run} (h : runOk bars r = true) : turnOk r.tx r.ty = true := by
 simp only [runOk, Bool.and_eq_true] at h
 exact h.1.1.1.1.1.2
theorem bar_ok {bars : List Bar} {r : Run} (hb : barsOk bars = true) (hr : 0 ≤ markIx bars r.mark) : barOk (barOf bars r) = true := by
 have hm := (findN_lt bars.length fun i => beqB (gt bars i).mark r.mark).2
 simp only [barsOk, Bool.and_eq_true] at hb
 have := allN_iff.1 hb.2 (markIx bars r.mark).toNat (by have : markIx bars r.mark < bars.length := hm; omega)
 simp only [Bool.and_eq_true] at this
 have e : (((markIx bars r.mark).toNat : Nat) : Int) = markIx bars r.mark := by omega
 rw [e] at this
 exact this.1
def turnL (b : Bar) (r : Run) : List Pt := (List.range ((movesOf b).length + 1)).map fun i => r.img (posAt (movesOf b) i)
theorem place_turn (b : Bar) (r : Run) : placeL r.tx r.ty ⟨0, 0, 0⟩ (pathOf (movesOf b)) = turnL b r := by
 unfold placeL turnL
 rw [show (pathOf (movesOf b)).length = (movesOf b).length + 1 by simp [pathOf]]
 refine List.map_congr_left fun i hi => ?_
 have hi := List.mem_range.1 hi
 rw [pathOf, rangeM_gt (by omega) (by omega)]
 simp [addP, Run.img]
theorem ok218 (bars : List Bar) (r : Run) (hb : barsOk bars = true) (hr : runOk bars r = true) : Ok Tryz.prog 218 [.sl (bars.map Bar.c), .ag r.c] (.sl ((turnL (barOf bars r) r).map Pt.c)) := by
 have hl := (barsP hb).1
 have hv := runV hr
 have hm := (findN_lt bars.length fun i => beqB (gt bars i).mark r.mark).2
 change markIx bars r.mark < bars.length at hm
 have hbo := bar_ok hb hv.ix
 have hbp := barP hbo
 have hpl : (pathOf (movesOf (barOf bars r))).length = (movesOf (barOf bars r)).length + 1 := by simp [pathOf]
 have hml := moves_len (barOf bars r)
 have hz := hv.ix
 have hp : ∀ i : Nat, i < (pathOf (movesOf (barOf bars r))).length → (gt (pathOf (movesOf (barOf bars r))) i).In 1048576 := fun i hi => by
   rw [pathOf, rangeM_gt (by omega) (by omega)]
   exact (posAt_in2 hbp (by omega)).mono (by omega)
 rw [← place_turn]
 refine zz 29 Tryz.func218 rfl Tryz.call218 rfl (zR (zo rfl (zo rfl (zw (zR (zo rfl (zo rfl (zo rfl (zo rfl ?_)))))))))
 refine zc rfl (ok215 bars (by omega) _) (zi rfl rfl rfl rfl rfl (zo rfl (zc rfl (ok209 (barOf bars r) hbo) (zo rfl (zo rfl (zo rfl (zo rfl (zo rfl (zw (zR (zo rfl ?_)))))))))))
 refine zo rfl (zo rfl (zo rfl (zc rfl (ok210 _ _ ⟨0, 0, 0⟩ _ (runOk_turn hr) ⟨by simp, by simp, by simp⟩ (by omega) hp) (zo rfl (zo rfl (zo rfl (zo rfl (zo rfl (zw (zR (zo rfl ?_)))))))))))
 exact zo rfl (zw (Sat.ret (ze rfl rfl)))
end Go.Proofs.YtamjajacnfmgeaaGreat
