/-
  Contracts: laid bars in the references. Condition: of valid bars and runs.
-/
import Derived.Test.YtamjajacnfmgeaaGreatK19
set_option linter.all false
namespace Go.Proofs.YtamjajacnfmgeaaGreat
open Go Go.RowKit
set_option maxHeartbeats 1000000
theorem img_in {s t : Int} {p : Pt} {B : Int} (hp : p.In B) : (img s t p).In (4 * B) := by
 obtain ⟨hx, hy, hz⟩ := hp
 obtain ⟨a1, a2, a3⟩ := un_le s
 obtain ⟨b1, b2, b3⟩ := un_le t
 obtain ⟨c1, c2, c3⟩ := cr_le s t
 have x1 := mul_in hx a1
 have x2 := mul_in hx a2
 have x3 := mul_in hx a3
 have y1 := mul_in hy b1
 have y2 := mul_in hy b2
 have y3 := mul_in hy b3
 have z1 := mul_in hz c1
 have z2 := mul_in hz c2
 have z3 := mul_in hz c3
 refine ⟨?_, ?_, ?_⟩ <;> simp only [img] <;> omega
def Run.at (r : Run) (k : Int) : Pt := if k > 0 then ⟨r.ax + r.sx * k, r.ay + r.sy * k, r.az + r.sz * k⟩ else ⟨r.ax, r.ay, r.az⟩
def Run.img (r : Run) (p : Pt) : Pt := Go.Proofs.YtamjajacnfmgeaaGreat.img r.tx r.ty p
def addP (p q : Pt) : Pt := ⟨p.x + q.x, p.y + q.y, p.z + q.z⟩
def ptOf (b : Bar) (r : Run) (k : Int) (i : Nat) : Pt := addP (r.at k) (r.img (posAt (movesOf b) i))
def ptsOf (b : Bar) (r : Run) (k : Int) : List Pt := (List.range ((movesOf b).length + 1)).map (ptOf b r k)
structure RunP (r : Run) : Prop where
  tx : isAxis r.tx = true
  ty : isAxis r.ty = true
  at' : (Pt.mk r.ax r.ay r.az).In 1048576
theorem Pt.In.mono {p : Pt} {B C : Int} (h : p.In B) (hc : B ≤ C) : p.In C := by
 obtain ⟨h1, h2, h3⟩ := h
 refine ⟨?_, ?_, ?_⟩ <;> omega
theorem isLen_iff {n : Int} : isLen n = true ↔ -1048576 ≤ n ∧ n ≤ 1048576 := by simp [isLen]
theorem isLen2_iff {n : Int} : isLen2 n = true ↔ -2097152 ≤ n ∧ n ≤ 2097152 := by simp [isLen2]
theorem near3_iff {x y z : Int} : near3 x y z = true ↔ (Pt.mk x y z).In 1048576 := by
 simp only [near3, Bool.and_eq_true, isLen_iff, Pt.In, and_assoc]
theorem twice3_iff {x y z : Int} : twice3 x y z = true ↔ (Pt.mk x y z).In 2097152 := by
 simp only [twice3, Bool.and_eq_true, isLen2_iff, Pt.In, and_assoc]
theorem ok82z (b : Bar) (r : Run) (k : Int) (hk : k ≤ 0) (hb : BarP b) (hr : RunP r) : Ok Tryz.prog 82 [.ag b.c, .ag r.c, vi k] (.sl ((ptsOf b r k).map Pt.c)) := by
 have hl := moves_len b
 have ht := hr.tx
 have hu := hr.ty
 obtain ⟨g1, g2, g3⟩ := hr.at'
 simp only at g1 g2 g3
 have hat : r.at k = ⟨r.ax, r.ay, r.az⟩ := by unfold Run.at; rw [if_neg (by omega)]
 have hpt : ∀ i, (ptOf b r k i) = ⟨r.ax + (r.img (posAt (movesOf b) i)).x, r.ay + (r.img (posAt (movesOf b) i)).y, r.az + (r.img (posAt (movesOf b) i)).z⟩ := fun i => by simp only [ptOf, hat, addP]
 have hpl : (pathOf (movesOf b)).length = (movesOf b).length + 1 := by simp [pathOf]
 refine zz 42 Tryz.func82 rfl Tryz.call82 rfl (zR (zo rfl (zo rfl (zo rfl (zw (zR (zo rfl (zc rfl (ok133 _ hb) (zo rfl ?_)))))))))
 refine zw (zR (zo rfl (zo rfl (zo rfl (zd rfl rfl (zw (zq (zR (zo rfl ?_)))))))))
 refine zo rfl (zw (zn rfl (by simp; omega) (zk (zR (zo rfl (zw (zq (zR (zo rfl ?_)))))))))
 refine zw (Sat.loop' (fun _ => True) (fun i => ⟨42, lk [(4, .ptr 4 0), (7, .v (.sl ((pathOf (movesOf b)).map Pt.c))), (8, .ptr 8 0), (9, slD 40 3 ((List.range i).map fun j => (ptOf b r k j).c)), (10, .v (vi i))], lkO [(4, some ⟨.cells (r.c.map .v), false⟩), (8, some ⟨.cells [.v (vi r.ax), .v (vi r.ay), .v (vi r.az)], false⟩), (40, slS 3 ((List.range i).map fun j => (ptOf b r k j).c))]⟩) ((movesOf b).length + 1) ?_ (trivial) (fun i hi hI => ?_) (fun hI => ?_))
 exact weakO ⟨rfl, rfl, rfl, rfl, rfl, trivial⟩ ⟨so rfl, so rfl, soS rfl, trivial⟩ (by repeat' (first | exact trivial | exact rfl | exact slD_ment rfl | exact moS | exact mo rfl | refine ⟨?_, ?_⟩)) (by repeat' (first | exact trivial | exact rfl | exact slD_ment rfl | exact moS | exact mo rfl | refine ⟨?_, ?_⟩))
 have hgt : gt (pathOf (movesOf b)) (i : Int) = posAt (movesOf b) i := rangeM_gt (by omega) (by omega)
 have hq := posAt_in hb (show i ≤ (movesOf b).length by omega)
 rw [← hgt] at hq
 have hq2 := hq.mono (show (1572864 : Int) ≤ 16777216 by omega)
 obtain ⟨m1, m2, m3⟩ := img_in (s := r.tx) (t := r.ty) (p := ⟨(gt (pathOf (movesOf b)) (i : Int)).x, (gt (pathOf (movesOf b)) (i : Int)).y, (gt (pathOf (movesOf b)) (i : Int)).z⟩) hq
 obtain ⟨q1, q2, q3⟩ := hq
 refine zq (zR (zo rfl (zo rfl (zo rfl (zo rfl (zw (zy rfl (by simp [hpl]; omega) (zk (zq (zb rfl ?_))))))))))
 refine Sat.dwN tabOk mixed [8, 4] [10, 11] [0, 1, 2, 3, 4, 5, 6, 7, 8, 9, 10, 11, 12] (by decide) (by kernel_rfl) (walk_sil rfl rfl (zO (fun _ => rfl) ?_))
 refine walk_sil rfl rfl (zO (fun _ => rfl) ?_)
 refine walk_sil rfl rfl (zO (fun _ => rfl) ?_)
 refine walk_sil rfl rfl (zO (fun _ => rfl) ?_)
 refine walk_sil rfl rfl (zO (fun _ => rfl) ?_)
 refine walk_sil rfl rfl (zO (fun _ => rfl) ?_)
 refine walk_sil rfl rfl (sil_index rfl rfl rfl rfl (by omega) (gt_idx (by omega) (by omega)) rfl ?_)
 refine walk_sil rfl rfl (zO (fun _ => rfl) ?_)
 refine walk_sil rfl rfl (sil_call rfl rfl (fun _ => rfl) (fun _ => rfl) (ok136 _ _ _ _ _ ht hu hq2) ?_)
 refine walk_sil rfl rfl (sil_call rfl rfl (fun _ => rfl) (fun _ => rfl) (ok134 _ _ _ _ _ _ (by constructor <;> omega) (by constructor <;> omega) (by constructor <;> omega)) ?_)
 refine walk_eff rfl rfl (step_op rfl rfl rfl ⟨fun _ => ovr_eq ⟨rfl, rfl, trivial⟩, ?_⟩)
 first | (refine walk_eff rfl rfl (step_app1 rfl (by first | exact .inl rfl | (right; simp)) rfl rfl rfl rfl rfl rfl (by simp; omega) rfl ⟨fun _ => ovr_eq ⟨rfl, rfl, trivial⟩, ?_⟩)) | (refine walk_eff rfl rfl (step_op rfl rfl rfl ⟨fun _ => ovr_eq ⟨rfl, rfl, trivial⟩, ?_⟩))
 refine walk_sil rfl rfl (zO (fun _ => rfl) ?_)
 exact kn (nb (nq (zr (zo rfl (za rfl (zo rfl (wn (ns trivial (weakO ⟨rfl, rfl, rfl, slD_eq rfl (by rw [rangeM_snoc, hpt, ← hgt]; rfl), rfl, trivial⟩ ⟨so rfl, so rfl, soA rfl (by rw [rangeM_snoc, hpt, ← hgt]; rfl), trivial⟩ (by repeat' (first | exact trivial | exact rfl | exact slD_ment rfl | exact moS | exact mo rfl | refine ⟨?_, ?_⟩)) (by repeat' (first | exact trivial | exact rfl | exact slD_ment rfl | exact moS | exact mo rfl | refine ⟨?_, ?_⟩)))))))))))
 refine zq (zR (zo rfl (zo rfl (zo rfl (zo rfl (zw (zn rfl (by simp [hpl]) (Sat.exit (xq ?_)))))))))
 exact xe (nq (Sat.pubS 9 rfl rfl (zR (zo rfl (zo rfl (zw (Sat.ret (ze rfl (by simp only [ptsOf, List.map_map]; rfl)))))))))
theorem ok82p (b : Bar) (r : Run) (k : Int) (hk : 0 < k) (hk2 : k ≤ 1000) (hb : BarP b) (hr : RunP r) (hs : (Pt.mk r.sx r.sy r.sz).In 2097152) : Ok Tryz.prog 82 [.ag b.c, .ag r.c, vi k] (.sl ((ptsOf b r k).map Pt.c)) := by
 have hl := moves_len b
 have ht := hr.tx
 have hu := hr.ty
 obtain ⟨g1, g2, g3⟩ := hr.at'
 simp only at g1 g2 g3
 have s1 := mul_in hs.1 (show -1000 ≤ k ∧ k ≤ 1000 by omega)
 have s2 := mul_in hs.2.1 (show -1000 ≤ k ∧ k ≤ 1000 by omega)
 have s3 := mul_in hs.2.2 (show -1000 ≤ k ∧ k ≤ 1000 by omega)
 simp only at s1 s2 s3
 have hat : r.at k = ⟨r.ax + r.sx * k, r.ay + r.sy * k, r.az + r.sz * k⟩ := by unfold Run.at; rw [if_pos hk]
 have hpt : ∀ i, (ptOf b r k i) = ⟨r.ax + r.sx * k + (r.img (posAt (movesOf b) i)).x, r.ay + r.sy * k + (r.img (posAt (movesOf b) i)).y, r.az + r.sz * k + (r.img (posAt (movesOf b) i)).z⟩ := fun i => by simp only [ptOf, hat, addP]
 have hpl : (pathOf (movesOf b)).length = (movesOf b).length + 1 := by simp [pathOf]
 refine zz 42 Tryz.func82 rfl Tryz.call82 rfl (zR (zo rfl (zo rfl (zo rfl (zw (zR (zo rfl (zc rfl (ok133 _ hb) (zo rfl ?_)))))))))
 refine zw (zR (zo rfl (zo rfl (zo rfl (zd rfl rfl (zw (zq (zR (zo rfl ?_)))))))))
 refine zo rfl (zw (zy rfl (by simp; omega) (Sat.dwN tabOk mixed [8, 4] [6] [0, 1, 2, 3, 4, 5, 6] (by decide) (by kernel_rfl) (walk_sil rfl rfl (zO (fun _ => rfl) ?_)))))
 refine walk_sil rfl rfl (zO (fun _ => rfl) ?_)
 refine walk_sil rfl rfl (zO (fun _ => rfl) ?_)
 refine walk_sil rfl rfl (zO (fun _ => rfl) ?_)
 refine walk_sil rfl rfl (sil_call rfl rfl (fun _ => rfl) (fun _ => rfl) (ok135 _ _ _ _ (by constructor <;> omega) (by constructor <;> omega) (by constructor <;> omega)) ?_)
 refine walk_sil rfl rfl (sil_call rfl rfl (fun _ => rfl) (fun _ => rfl) (ok134 _ _ _ _ _ _ (by constructor <;> omega) (by constructor <;> omega) (by constructor <;> omega)) ?_)
 refine walk_eff rfl rfl (step_do rfl rfl ⟨lastly_no (by kernel_rfl), ?_⟩)
 refine kn (nq (zR (zo rfl (zw (zq (zR (zo rfl (zw (Sat.loop' (fun _ => True) (fun i => ⟨42, lk [(4, .ptr 4 0), (7, .v (.sl ((pathOf (movesOf b)).map Pt.c))), (8, .ptr 8 0), (9, slD 40 3 ((List.range i).map fun j => (ptOf b r k j).c)), (10, .v (vi i))], lkO [(4, some ⟨.cells (r.c.map .v), false⟩), (8, some ⟨.cells [.v (vi (r.ax + r.sx * k)), .v (vi (r.ay + r.sy * k)), .v (vi (r.az + r.sz * k))], false⟩), (40, slS 3 ((List.range i).map fun j => (ptOf b r k j).c))]⟩) ((movesOf b).length + 1) ?_ (trivial) (fun i hi hI => ?_) (fun hI => ?_))))))))))
 exact weakO ⟨rfl, rfl, rfl, rfl, rfl, trivial⟩ ⟨so rfl, so rfl, soS rfl, trivial⟩ (by repeat' (first | exact trivial | exact rfl | exact slD_ment rfl | exact moS | exact mo rfl | refine ⟨?_, ?_⟩)) (by repeat' (first | exact trivial | exact rfl | exact slD_ment rfl | exact moS | exact mo rfl | refine ⟨?_, ?_⟩))
 have hgt : gt (pathOf (movesOf b)) (i : Int) = posAt (movesOf b) i := rangeM_gt (by omega) (by omega)
 have hq := posAt_in hb (show i ≤ (movesOf b).length by omega)
 rw [← hgt] at hq
 have hq2 := hq.mono (show (1572864 : Int) ≤ 16777216 by omega)
 obtain ⟨m1, m2, m3⟩ := img_in (s := r.tx) (t := r.ty) (p := ⟨(gt (pathOf (movesOf b)) (i : Int)).x, (gt (pathOf (movesOf b)) (i : Int)).y, (gt (pathOf (movesOf b)) (i : Int)).z⟩) hq
 obtain ⟨q1, q2, q3⟩ := hq
 refine zq (zR (zo rfl (zo rfl (zo rfl (zo rfl (zw (zy rfl (by simp [hpl]; omega) (zk (zq (zb rfl ?_))))))))))
 refine Sat.dwN tabOk mixed [8, 4] [10, 11] [0, 1, 2, 3, 4, 5, 6, 7, 8, 9, 10, 11, 12] (by decide) (by kernel_rfl) (walk_sil rfl rfl (zO (fun _ => rfl) ?_))
 refine walk_sil rfl rfl (zO (fun _ => rfl) ?_)
 refine walk_sil rfl rfl (zO (fun _ => rfl) ?_)
 refine walk_sil rfl rfl (zO (fun _ => rfl) ?_)
 refine walk_sil rfl rfl (zO (fun _ => rfl) ?_)
 refine walk_sil rfl rfl (zO (fun _ => rfl) ?_)
 refine walk_sil rfl rfl (sil_index rfl rfl rfl rfl (by omega) (gt_idx (by omega) (by omega)) rfl ?_)
 refine walk_sil rfl rfl (zO (fun _ => rfl) ?_)
 refine walk_sil rfl rfl (sil_call rfl rfl (fun _ => rfl) (fun _ => rfl) (ok136 _ _ _ _ _ ht hu hq2) ?_)
 refine walk_sil rfl rfl (sil_call rfl rfl (fun _ => rfl) (fun _ => rfl) (ok134 _ _ _ _ _ _ (by constructor <;> omega) (by constructor <;> omega) (by constructor <;> omega)) ?_)
 refine walk_eff rfl rfl (step_op rfl rfl rfl ⟨fun _ => ovr_eq ⟨rfl, rfl, trivial⟩, ?_⟩)
 first | (refine walk_eff rfl rfl (step_app1 rfl (by first | exact .inl rfl | (right; simp)) rfl rfl rfl rfl rfl rfl (by simp; omega) rfl ⟨fun _ => ovr_eq ⟨rfl, rfl, trivial⟩, ?_⟩)) | (refine walk_eff rfl rfl (step_op rfl rfl rfl ⟨fun _ => ovr_eq ⟨rfl, rfl, trivial⟩, ?_⟩))
 refine walk_sil rfl rfl (zO (fun _ => rfl) ?_)
 exact kn (nb (nq (zr (zo rfl (za rfl (zo rfl (wn (ns trivial (weakO ⟨rfl, rfl, rfl, slD_eq rfl (by rw [rangeM_snoc, hpt, ← hgt]; rfl), rfl, trivial⟩ ⟨so rfl, so rfl, soA rfl (by rw [rangeM_snoc, hpt, ← hgt]; rfl), trivial⟩ (by repeat' (first | exact trivial | exact rfl | exact slD_ment rfl | exact moS | exact mo rfl | refine ⟨?_, ?_⟩)) (by repeat' (first | exact trivial | exact rfl | exact slD_ment rfl | exact moS | exact mo rfl | refine ⟨?_, ?_⟩)))))))))))
 refine zq (zR (zo rfl (zo rfl (zo rfl (zo rfl (zw (zn rfl (by simp [hpl]) (Sat.exit (xq ?_)))))))))
 exact xe (nq (Sat.pubS 9 rfl rfl (zR (zo rfl (zo rfl (zw (Sat.ret (ze rfl (by simp only [ptsOf, List.map_map]; rfl)))))))))
theorem ok82 (b : Bar) (r : Run) (k : Int) (hk : 0 ≤ k ∧ k ≤ 1000) (hb : BarP b) (hr : RunP r) (hs : 0 < k → (Pt.mk r.sx r.sy r.sz).In 2097152) : Ok Tryz.prog 82 [.ag b.c, .ag r.c, vi k] (.sl ((ptsOf b r k).map Pt.c)) := by
 by_cases h : 0 < k
 · exact ok82p b r k h hk.2 hb hr (hs h)
 · exact ok82z b r k (by omega) hb hr
end Go.Proofs.YtamjajacnfmgeaaGreat
