/-
  Contracts: validity of laid bars in the program. Condition: valid in the reference.
  Contracts: counts and marks of laid bars in the program. Condition: valid in the reference.
  Contracts: demands of the program. Condition: valid in the reference.
  Contracts: points as boxes, main legs. Condition: short lists.
  Contracts: hulls of boxes. Condition: valid boxes.
  Contracts: gaps of boxes, containment. Condition: valid boxes.
-/
import Derived.Test.YtamjajacnfmgeaaGreatK25
set_option linter.all false
namespace Go.Proofs.YtamjajacnfmgeaaGreat
open Go Go.RowKit
set_option maxHeartbeats 1000000
theorem turn_gt {b : Bar} {r : Run} {i : Nat} (h : i < (movesOf b).length + 1) : gt (turnL b r) (i : Int) = r.img (posAt (movesOf b) i) := by
 rw [turnL, rangeM_gt (by omega) (by omega)]
 rfl
theorem pts_gt {b : Bar} {r : Run} {k : Int} {i : Nat} (h : i < (movesOf b).length + 1) : gt (ptsOf b r k) (i : Int) = ptOf b r k i := by
 rw [ptsOf, rangeM_gt (by omega) (by omega)]
 rfl
theorem near_pts {b : Bar} {r : Run} {k : Int} (h : nearAll (ptsOf b r k) = true) {i : Nat} (hi : i < (movesOf b).length + 1) : (ptOf b r k i).In 1048576 := by
 have := allN_iff.1 h i (by rw [pts_len]; exact hi)
 rw [pts_gt hi, near3_iff] at this
 exact this
theorem plus_at (b : Bar) (r : Run) (i : Nat) : plusP (r.img (posAt (movesOf b) i)) ⟨r.ax, r.ay, r.az⟩ 1 = ptOf b r 0 i := by
 have h0 : r.at 0 = ⟨r.ax, r.ay, r.az⟩ := rfl
 simp only [plusP, ptOf, h0, addP, Int.one_mul, Pt.mk.injEq]
 omega
theorem plus_step (b : Bar) (r : Run) {k : Int} (hk : 0 < k) (i : Nat) : plusP (ptOf b r 0 i) ⟨r.sx, r.sy, r.sz⟩ k = ptOf b r k i := by
 have h0 : r.at 0 = ⟨r.ax, r.ay, r.az⟩ := rfl
 have h1 : r.at k = ⟨r.ax + r.sx * k, r.ay + r.sy * k, r.az + r.sz * k⟩ := by unfold Run.at; rw [if_pos hk]
 simp only [plusP, ptOf, h0, h1, addP, Pt.mk.injEq]
 rw [Int.mul_comm k r.sx, Int.mul_comm k r.sy, Int.mul_comm k r.sz]
 omega
theorem runOk_near {bars : List Bar} {r : Run} (h : runOk bars r = true) : nearAll (ptsOf (barOf bars r) r 0) = true ∧ nearAll (ptsOf (barOf bars r) r (r.count - 1)) = true := by
 simp only [runOk, Bool.and_eq_true] at h
 exact h.2
theorem runOk_step {bars : List Bar} {r : Run} (h : runOk bars r = true) (hc : 1 < r.count) : ([r.sx, r.sy, r.sz] == [0, 0, 0]) = false ∧ placeB r.sx r.sy r.sz 2097152 = true := by
 have hv := (runV h).st hc
 simp only [runOk, Bool.and_eq_true, Bool.not_eq_true', Bool.and_eq_false_iff, Bool.or_eq_false_iff, decide_eq_false_iff_not] at h
 refine ⟨?_, placeB_iff.2 hv⟩
 rcases h.1.2 with h6 | ⟨h6, _⟩
 · exact (h6 hc).elim
 · exact h6
theorem placeB_pt {p : Pt} {m : Int} (h : p.In m) : placeB p.x p.y p.z m = true := placeB_iff.2 h
theorem ok171 (bars : List Bar) (r : Run) (hb : barsOk bars = true) (hr : runOk bars r = true) : Ok Tryz.prog 171 [.sl (bars.map Bar.c), .ag r.c] (.bool true) := by
 have hl := (barsP hb).1
 have hv := runV hr
 have hz := hv.ix
 have hcnt := hv.cnt
 have hnr := runOk_near hr
 have hAt := hv.p.at'
 have hat := placeB_iff.2 hAt
 have hstp := runOk_step hr
 have hbp := barP (bar_ok hb hz)
 have htl : (turnL (barOf bars r) r).length = (movesOf (barOf bars r)).length + 1 := by simp [turnL]
 generalize hbb : barOf bars r = b at *
 refine zz 87 Tryz.func171 rfl Tryz.call171 rfl (zR (zo rfl (zo rfl (zw (zq (zq (Sat.to tabOk (⟨87, lk [(0, .v (.sl (bars.map Bar.c))), (3, .ptr 3 0), (37, .v (.bool false))], lk [(3, ⟨.cells (r.c.map .v), false⟩)]⟩) ?_ ?_)))))))
 refine zo rfl (zo rfl (zo rfl (zc rfl (ok215 bars (by omega) _) (zo rfl (zo rfl (zF rfl (fun h1 => ?_) (fun h1 => ?_)))))))
 refine zO (fun _ => rfl) (zh rfl h1 rfl (step_sil (sil_on rfl h1 (sil_call rfl rfl (fun _ => rfl) (fun _ => rfl) (ok216 _ _ (runOk_turn hr)) ?_))))
 refine zh rfl h1 rfl (zP rfl h1 rfl (zo rfl (zF rfl (fun h2 => ?_) (fun h2 => ?_))))
 refine zO (fun _ => rfl) (zh rfl h2 rfl (zh rfl h2 rfl (zP rfl h2 rfl (zo rfl (zF rfl (fun h3 => ?_) (fun h3 => ?_))))))
 refine zO (fun _ => rfl) (zh rfl h3 rfl (zh rfl h3 rfl (zP rfl h3 rfl (zo rfl (zF rfl (fun h4 => ?_) (fun h4 => ?_))))))
 refine zO (fun _ => rfl) (zh rfl h4 rfl (step_sil (sil_on rfl h4 (sil_call rfl rfl (fun _ => rfl) (fun _ => rfl) (ok217 _ _ _ _ (by constructor <;> omega)) ?_))))
 exact zh rfl h4 rfl (zP rfl h4 rfl (wn (weak_of ⟨rfl, rfl, bool_eq rfl (by first | rfl | (simp_all; done) | (simp_all; omega)), trivial⟩ ⟨rfl, trivial⟩ rfl rfl)))
 exact zf rfl h4 (zf rfl h4 (zf rfl h4 (zp rfl h4 rfl (wn (weak_of ⟨rfl, rfl, bool_eq rfl (by first | rfl | (simp_all; done) | (simp_all; omega)), trivial⟩ ⟨rfl, trivial⟩ rfl rfl)))))
 exact zf rfl h3 (zf rfl h3 (zp rfl h3 rfl (zo rfl (zf rfl rfl (zf rfl rfl (zf rfl rfl (zf rfl rfl (zp rfl rfl rfl (wn (weak_of ⟨rfl, rfl, bool_eq rfl (by first | rfl | (simp_all; done) | (simp_all; omega)), trivial⟩ ⟨rfl, trivial⟩ rfl rfl))))))))))
 refine zf rfl h2 (zf rfl h2 (zp rfl h2 rfl (zo rfl (zf rfl rfl (zf rfl rfl (zf rfl rfl (zp rfl rfl rfl (zo rfl (zf rfl rfl ?_)))))))))
 exact zf rfl rfl (zf rfl rfl (zf rfl rfl (zp rfl rfl rfl (wn (weak_of ⟨rfl, rfl, bool_eq rfl (by first | rfl | (simp_all; done) | (simp_all; omega)), trivial⟩ ⟨rfl, trivial⟩ rfl rfl)))))
 refine zf rfl h1 (zf rfl h1 (zf rfl h1 (zp rfl h1 rfl (zo rfl (zf rfl rfl (zf rfl rfl (zf rfl rfl (zp rfl rfl rfl (zo rfl ?_)))))))))
 refine zf rfl rfl (zf rfl rfl (zf rfl rfl (zp rfl rfl rfl (zo rfl (zf rfl rfl (zf rfl rfl (zf rfl rfl (zf rfl rfl (zp rfl rfl rfl ?_)))))))))
 exact wn (weak_of ⟨rfl, rfl, bool_eq rfl (by first | rfl | (simp_all; done) | (simp_all; omega)), trivial⟩ ⟨rfl, trivial⟩ rfl rfl)
 refine nq (zn rfl (by first | rfl | exact hpl0 | exact hpl1 (by first | (simp_all; done) | (simp_all; omega))) (zk (zq (zq (Sat.to tabOk (⟨87, lk [(0, .v (.sl (bars.map Bar.c))), (3, .ptr 3 0), (52, .v (.bool false))], lk [(3, ⟨.cells (r.c.map .v), false⟩)]⟩) ?_ ?_)))))
 refine zo rfl (zo rfl (zo rfl (zo rfl (zT rfl (fun h5 => ?_) (fun h5 => ?_)))))
 refine zO (fun _ => rfl) (zh rfl h5 rfl (zh rfl h5 rfl (zh rfl h5 rfl (zh rfl h5 rfl (zF rfl (fun h6 => ?_) (fun h6 => ?_))))))
 refine zO (fun _ => rfl) (zh rfl h6 rfl (step_sil (sil_on rfl h6 (sil_call rfl rfl (fun _ => rfl) (fun _ => rfl) (ok217 _ _ _ _ (by constructor <;> omega)) ?_))))
 refine zh rfl h6 rfl (step_sil (sil_on rfl h5 (sil_pick (want := false) rfl rfl h6 rfl ?_)))
 exact zp rfl h5 rfl (wn (weak_of ⟨rfl, rfl, bool_eq rfl (by first | rfl | (have := hstp (by simp_all); simp_all; done)), trivial⟩ ⟨rfl, trivial⟩ rfl rfl))
 refine zf rfl h6 (zf rfl h6 (zf rfl h6 (step_sil (sil_on rfl h5 (sil_pick (want := true) rfl rfl h6 rfl ?_)))))
 exact zp rfl h5 rfl (wn (weak_of ⟨rfl, rfl, bool_eq rfl (by first | rfl | (have := hstp (by simp_all); simp_all; done)), trivial⟩ ⟨rfl, trivial⟩ rfl rfl))
 refine zt rfl h5 (zt rfl h5 (zt rfl h5 (zt rfl h5 (zu rfl (zu rfl (zu rfl (zu rfl (zt rfl h5 (zP rfl h5 rfl ?_)))))))))
 exact wn (weak_of ⟨rfl, rfl, bool_eq rfl (by first | rfl | (have := hstp (by simp_all); simp_all; done)), trivial⟩ ⟨rfl, trivial⟩ rfl rfl)
 refine nq (zn rfl (by first | rfl | exact hpl0 | exact hpl1 (by first | (simp_all; done) | (simp_all; omega))) (zk (zR (zo rfl (zo rfl (zc rfl ((hbb ▸ ok218 bars r hb hr)) (zo rfl (zw (zq (zR (zo rfl ?_)))))))))))
 refine zo rfl (zs rfl (zo rfl (zo rfl (zo rfl (zw (Sat.loop' (fun _ => True) (fun i => ⟨87, lk [(3, .ptr 3 0), (5, .v (.sl ((turnL b r).map Pt.c))), (59, .osl 59 1 2 0 2), (60, .v (vi 2)), (61, .v (vi i))], lk [(3, ⟨.cells (r.c.map .v), false⟩), (59, ⟨.sl 1 [[vi 0], [vi (r.count - 1)]], false⟩)]⟩) (2) ?_ (trivial) (fun i hi hI => ?_) (fun hI => ?_)))))))
 exact zv rfl rfl rfl rfl
 have hcs : i = 0 ∨ i = 1 := by omega
 rcases hcs with rfl | rfl
 refine zR (zo rfl (zw (zq (zy rfl (by rfl) (zk (zq (zb rfl (zR (zo rfl ?_)))))))))
 refine zo rfl (zo rfl (zw (zR (zo rfl (zo rfl (zo rfl (zw (Sat.loop' (fun _ => True) (fun j => ⟨87, lk [(3, .ptr 3 0), (5, .v (.sl ((turnL b r).map Pt.c))), (7, .v (vi (if 0 = 0 then 0 else r.count - 1))), (59, .osl 59 1 2 0 2), (60, .v (vi 2)), (61, .v (vi 0)), (65, .v (.sl ((turnL b r).map Pt.c))), (66, .v (vi ((turnL b r).map Pt.c).length)), (67, .v (vi j))], lk [(3, ⟨.cells (r.c.map .v), false⟩), (59, ⟨.sl 1 [[vi 0], [vi (r.count - 1)]], false⟩)]⟩) ((turnL b r).length) ?_ (trivial) (fun j hj hJ => ?_) (fun hJ => ?_)))))))))
 exact zv rfl rfl rfl rfl
 have hml := moves_len b
 have hj2 : j < (movesOf b).length + 1 := by omega
 have e0 : plusP (gt (turnL b r) (j : Int)) ⟨r.ax, r.ay, r.az⟩ 1 = ptOf b r 0 j := by rw [turn_gt hj2, plus_at]
 have hq : (gt (turnL b r) (j : Int)).In 2097152 := by rw [turn_gt hj2]; exact img_in (posAt_in2 hbp (by omega))
 have hq0 : (plusP (gt (turnL b r) (j : Int)) ⟨r.ax, r.ay, r.az⟩ 1).In 1048576 := by rw [e0]; exact near_pts hnr.1 hj2
 have hpl0 : (!placeB (plusP (gt (turnL b r) (j : Int)) ⟨r.ax, r.ay, r.az⟩ 1).x (plusP (gt (turnL b r) (j : Int)) ⟨r.ax, r.ay, r.az⟩ 1).y (plusP (gt (turnL b r) (j : Int)) ⟨r.ax, r.ay, r.az⟩ 1).z 1048576) = false := by rw [placeB_pt hq0]; rfl
 have hpl1 : 0 < r.count - 1 → (!placeB (plusP (plusP (gt (turnL b r) (j : Int)) ⟨r.ax, r.ay, r.az⟩ 1) ⟨r.sx, r.sy, r.sz⟩ (r.count - 1)).x (plusP (plusP (gt (turnL b r) (j : Int)) ⟨r.ax, r.ay, r.az⟩ 1) ⟨r.sx, r.sy, r.sz⟩ (r.count - 1)).y (plusP (plusP (gt (turnL b r) (j : Int)) ⟨r.ax, r.ay, r.az⟩ 1) ⟨r.sx, r.sy, r.sz⟩ (r.count - 1)).z 1048576) = false := fun hk => by have := near_pts hnr.2 hj2; rw [← plus_step b r hk j, ← e0] at this; rw [placeB_pt this]; rfl
 refine zR (zo rfl (zw (zq (zy rfl (by simp [hj]) (zk (zq (zb rfl (zR (zi rfl rfl rfl rfl rfl ?_)))))))))
 refine zo rfl (zo rfl (zd rfl rfl (zw (zR (zo rfl (zo rfl (zo rfl (zc rfl (ok219 _ ⟨r.ax, r.ay, r.az⟩ 1 (hq.mono (by omega)) (hAt.mono (by omega)) (by omega)) (zo rfl ?_)))))))))
 refine zd rfl rfl (zw (zq (zR (zo rfl (zo rfl (zw (zn rfl (by first | rfl | exact hpl0 | exact hpl1 (by first | (simp_all; done) | (simp_all; omega))) (zk (zR (zo rfl ?_))))))))))
 refine zc rfl (ok217 _ _ _ _ (by constructor <;> omega)) (zo rfl (zw (zn rfl (by first | rfl | exact hpl0 | exact hpl1 (by first | (simp_all; done) | (simp_all; omega))) (Sat.skip (nb (nq (zr (za rfl (zo rfl ?_)))))))))
 exact wn (ns trivial (zv rfl rfl rfl rfl))
 refine zR (zo rfl (zw (zq (zn rfl (by simp) (Sat.exit (xq (xe (nb (nq ?_)))))))))
 exact zr (za rfl (zo rfl (wn (ns trivial (zv rfl rfl rfl rfl)))))
 refine zR (zo rfl (zw (zq (zy rfl (by rfl) (zk (zq (zb rfl (zR (zo rfl ?_)))))))))
 refine zo rfl (zo rfl (zw (zR (zo rfl (zo rfl (zo rfl (zw (Sat.loop' (fun _ => True) (fun j => ⟨87, lk [(3, .ptr 3 0), (5, .v (.sl ((turnL b r).map Pt.c))), (7, .v (vi (if 1 = 0 then 0 else r.count - 1))), (59, .osl 59 1 2 0 2), (60, .v (vi 2)), (61, .v (vi 1)), (65, .v (.sl ((turnL b r).map Pt.c))), (66, .v (vi ((turnL b r).map Pt.c).length)), (67, .v (vi j))], lk [(3, ⟨.cells (r.c.map .v), false⟩), (59, ⟨.sl 1 [[vi 0], [vi (r.count - 1)]], false⟩)]⟩) ((turnL b r).length) ?_ (trivial) (fun j hj hJ => ?_) (fun hJ => ?_)))))))))
 exact zv rfl rfl rfl rfl
 have hml := moves_len b
 have hj2 : j < (movesOf b).length + 1 := by omega
 have e0 : plusP (gt (turnL b r) (j : Int)) ⟨r.ax, r.ay, r.az⟩ 1 = ptOf b r 0 j := by rw [turn_gt hj2, plus_at]
 have hq : (gt (turnL b r) (j : Int)).In 2097152 := by rw [turn_gt hj2]; exact img_in (posAt_in2 hbp (by omega))
 have hq0 : (plusP (gt (turnL b r) (j : Int)) ⟨r.ax, r.ay, r.az⟩ 1).In 1048576 := by rw [e0]; exact near_pts hnr.1 hj2
 have hpl0 : (!placeB (plusP (gt (turnL b r) (j : Int)) ⟨r.ax, r.ay, r.az⟩ 1).x (plusP (gt (turnL b r) (j : Int)) ⟨r.ax, r.ay, r.az⟩ 1).y (plusP (gt (turnL b r) (j : Int)) ⟨r.ax, r.ay, r.az⟩ 1).z 1048576) = false := by rw [placeB_pt hq0]; rfl
 have hpl1 : 0 < r.count - 1 → (!placeB (plusP (plusP (gt (turnL b r) (j : Int)) ⟨r.ax, r.ay, r.az⟩ 1) ⟨r.sx, r.sy, r.sz⟩ (r.count - 1)).x (plusP (plusP (gt (turnL b r) (j : Int)) ⟨r.ax, r.ay, r.az⟩ 1) ⟨r.sx, r.sy, r.sz⟩ (r.count - 1)).y (plusP (plusP (gt (turnL b r) (j : Int)) ⟨r.ax, r.ay, r.az⟩ 1) ⟨r.sx, r.sy, r.sz⟩ (r.count - 1)).z 1048576) = false := fun hk => by have := near_pts hnr.2 hj2; rw [← plus_step b r hk j, ← e0] at this; rw [placeB_pt this]; rfl
 refine zR (zo rfl (zw (zq (zy rfl (by simp [hj]) (zk (zq (zb rfl (zR (zi rfl rfl rfl rfl rfl ?_)))))))))
 refine zo rfl (zo rfl (zd rfl rfl (zw (zR (zo rfl (zo rfl (zo rfl (zc rfl (ok219 _ ⟨r.ax, r.ay, r.az⟩ 1 (hq.mono (by omega)) (hAt.mono (by omega)) (by omega)) (zo rfl ?_)))))))))
 refine zd rfl rfl (zw (zq (zR (zo rfl (zo rfl (zw (zC rfl (fun h7 => ?_) (fun h7 => ?_))))))))
 refine zr (zo rfl (zo rfl (zo rfl (zo rfl (zc rfl (ok219 _ ⟨r.sx, r.sy, r.sz⟩ _ (hq0.mono (by omega)) ((hv.st (by first | (simp_all; done) | (simp_all; omega))).mono (by omega)) (by simp; omega)) (zd rfl rfl (zw (zR (zo rfl ?_)))))))))
 refine zc rfl (ok217 _ _ _ _ (by constructor <;> omega)) (zo rfl (zw (zn rfl (by first | rfl | exact hpl0 | exact hpl1 (by first | (simp_all; done) | (simp_all; omega))) (Sat.skip (nb (nq (zr (za rfl (zo rfl ?_)))))))))
 exact wn (ns trivial (zv rfl rfl rfl rfl))
 refine zk (zR (zo rfl (zc rfl (ok217 _ _ _ _ (by constructor <;> omega)) (zo rfl (zw (zn rfl (by first | rfl | exact hpl0 | exact hpl1 (by first | (simp_all; done) | (simp_all; omega))) (Sat.skip (nb (nq ?_)))))))))
 exact zr (za rfl (zo rfl (wn (ns trivial (zv rfl rfl rfl rfl)))))
 refine zR (zo rfl (zw (zq (zn rfl (by simp) (Sat.exit (xq (xe (nb (nq ?_)))))))))
 exact zr (za rfl (zo rfl (wn (ns trivial (zv rfl rfl rfl rfl)))))
 refine zR (zo rfl (zw (zq (zn rfl (by rfl) (Sat.exit (xq (xe (nq (zR (zo rfl ?_))))))))))
 exact zw (Sat.ret (zg rfl))
end Go.Proofs.YtamjajacnfmgeaaGreat
namespace Go.Proofs.YtamjajacnfmgeaaGreat
open Go Go.RowKit
set_option maxHeartbeats 1000000
theorem runsOk_parts {bars : List Bar} {runs : List Run} (h : runsOk bars runs = true) : barsOk bars = true ∧ ∀ i : Nat, i < runs.length → runOk bars (gt runs i) = true := by
 simp only [runsOk, Bool.and_eq_true] at h
 exact ⟨h.1.1, allN_iff.1 h.2.1⟩
theorem preC_tot {bars : List Bar} {runs : List Run} (hp : RunsP bars runs) {i : Nat} (hi : i < runs.length) : preC runs i + (gt runs i).count ≤ 2000 := by
 have h1 := preC_mono hp (show i + 1 ≤ runs.length from hi) (Nat.le_refl _)
 have h2 := hp.tot
 have e : preC runs (i + 1) = preC runs i + (gt runs i).count := rfl
 unfold total at h2
 omega
theorem ok115 (bars : List Bar) (runs : List Run) (h : runsOk bars runs = true) : Ok Tryz.prog 115 [.sl (bars.map Bar.c), .sl (runs.map Run.c)] (.bool true) := by
 obtain ⟨hb, hr⟩ := runsOk_parts h
 have hp := runsP h
 have hrl := hp.rl
 refine zz 37 Tryz.func115 rfl Tryz.call115 rfl (zR (zo rfl (zw (zq (zq (Sat.to tabOk (⟨37, lk [(0, .v (.sl (bars.map Bar.c))), (1, .v (.sl (runs.map Run.c))), (15, .v (.bool false))], lk []⟩) ?_ ?_))))))
 refine zo rfl (zc rfl (ok170 bars hb) (zo rfl (zo rfl (zF rfl (fun h1 => ?_) (fun h1 => ?_)))))
 exact zO (fun _ => rfl) (zh rfl h1 rfl (zh rfl h1 rfl (zP rfl h1 rfl (wn (weak_of ⟨rfl, rfl, bool_eq rfl (by first | rfl | (simp_all; done) | (simp_all; omega)), trivial⟩ trivial rfl rfl)))))
 exact zf rfl h1 (zf rfl h1 (zp rfl h1 rfl (wn (weak_of ⟨rfl, rfl, bool_eq rfl (by first | rfl | (simp_all; done) | (simp_all; omega)), trivial⟩ trivial rfl rfl))))
 refine nq (zn rfl (by first | rfl | (simp; omega)) (zk (zR (zo rfl (zw (zq (zR (zo rfl (zo rfl ?_)))))))))
 refine zo rfl (zw (Sat.loop' (fun _ => True) (fun i => ⟨37, lk [(0, .v (.sl (bars.map Bar.c))), (5, .v (vi (2000 - preC runs i))), (16, .v (.sl (runs.map Run.c))), (17, .v (vi (runs.map Run.c).length)), (18, .v (vi i))], lk []⟩) (runs.length) ?_ (trivial) (fun i hi hI => ?_) (fun hI => ?_)))
 exact zv rfl rfl rfl rfl
 have ht := preC_tot hp hi
 have hq := hp.pre (k := i) (by omega)
 have hc := hp.cnt i hi
 refine zR (zo rfl (zw (zq (zy rfl (by simp [hi]) (zk (zq (zb rfl (zR (zi rfl rfl rfl rfl rfl ?_)))))))))
 refine zo rfl (zo rfl (zd rfl rfl (zw (zq (zR (zo rfl (zo rfl (zc rfl (ok171 bars _ hb (hr i hi)) (zo rfl ?_)))))))))
 refine zo rfl (zF rfl (fun h2 => ?_) (fun h2 => ?_))
 refine zO (fun _ => rfl) (zh rfl h2 rfl (zh rfl h2 rfl (zh rfl h2 rfl (zP rfl h2 rfl (zw (zC rfl (fun h3 => ?_) (fun h3 => ?_)))))))
 exact zR (zo rfl (zw (Sat.ret (rq (rb (rq (rs (rq (ze rfl (by first | rfl | (exfalso; simp_all; done) | (exfalso; simp_all; omega)))))))))))
 refine zk (zr (zo rfl (zo rfl (zo rfl (zs rfl (zo rfl (wn (nb (nq ?_)))))))))
 exact zr (za rfl (zo rfl (wn (ns trivial (weak_of ⟨rfl, int_eq rfl (show 2000 - preC runs i - (gt runs i).count = 2000 - (preC runs i + (gt runs i).count) by omega), rfl, rfl, rfl, trivial⟩ trivial rfl rfl)))))
 refine zf rfl h2 (zf rfl h2 (zf rfl h2 (zp rfl h2 rfl (zw (zy rfl rfl (zR (zo rfl (zw (Sat.ret ?_)))))))))
 exact rq (rb (rq (rs (rq (ze rfl (by first | rfl | (exfalso; simp_all; done) | (exfalso; simp_all; omega)))))))
 refine zR (zo rfl (zw (zq (zn rfl (by simp) (Sat.exit (xq (xe (nq (zR (zo rfl ?_))))))))))
 exact zw (Sat.ret (ze rfl (by first | rfl | (exfalso; simp_all; done) | (exfalso; simp_all; omega))))
theorem ok62 (bars : List Bar) (runs : List Run) (h : runsOk bars runs = true) : Ok Tryz.prog 62 [.sl (bars.map Bar.c), .sl (runs.map Run.c)] (.tp [vi (total runs), vi 0]) := by
 have hp := runsP h
 have hrl := hp.rl
 refine zz 25 Tryz.func62 rfl Tryz.call62 rfl (zR (zo rfl (zo rfl (zw (zq (zR (zo rfl (zo rfl (zc rfl (ok115 bars runs h) ?_)))))))))
 refine zo rfl (zw (zn rfl (rfl) (zk (zR (zo rfl (zw (zq (zR (zo rfl ?_)))))))))
 refine zo rfl (zo rfl (zw (Sat.loop' (fun _ => True) (fun i => ⟨25, lk [(6, .v (vi (preC runs i))), (13, .v (.sl (runs.map Run.c))), (14, .v (vi (runs.map Run.c).length)), (15, .v (vi i))], lk []⟩) (runs.length) ?_ (trivial) (fun i hi hI => ?_) (fun hI => ?_))))
 exact zv rfl rfl rfl rfl
 have ht := preC_tot hp hi
 have hq := hp.pre (k := i) (by omega)
 have hc := hp.cnt i hi
 refine zR (zo rfl (zw (zq (zy rfl (by simp [hi]) (zk (zq (zb rfl (zR (zi rfl rfl rfl rfl rfl ?_)))))))))
 refine zo rfl (zo rfl (zd rfl rfl (zw (zr (zo rfl (zo rfl (zo rfl (za rfl (zo rfl ?_)))))))))
 exact wn (nb (nq (zr (za rfl (zo rfl (wn (ns trivial (zv rfl rfl rfl rfl))))))))
 refine zR (zo rfl (zw (zq (zn rfl (by simp) (Sat.exit (xq (xe (nq (zR (zo rfl ?_))))))))))
 exact zo rfl (zo rfl (zw (Sat.ret (ze rfl rfl))))
theorem plK_eq {bars : List Bar} {runs : List Run} (hp : RunsP bars runs) {n : Int} {i : Nat} (hi : i < runs.length) (h0 : preC runs i ≤ n) (h1 : n < preC runs (i + 1)) : plK runs n = i := by
 unfold plK
 rw [findN_eq hi (by simpa using h1) (fun j hj => by have := preC_mono hp (show j + 1 ≤ i from hj) (by omega); simp; omega)]
 rfl
theorem ok95 (bars : List Bar) (runs : List Run) (h : runsOk bars runs = true) (n : Int) (h0 : 0 ≤ n) (hn : n < total runs) : Ok Tryz.prog 95 [.sl (bars.map Bar.c), .sl (runs.map Run.c), vi n] (.tp [.str (runAt runs n).mark, vi 0]) := by
 have hp := runsP h
 have hrl := hp.rl
 have htt := hp.tot
 unfold runAt
 refine zz 33 Tryz.func95 rfl Tryz.call95 rfl (zR (zo rfl (zo rfl (zw (zq (zR (zo rfl (zo rfl (zc rfl (ok115 bars runs h) ?_)))))))))
 refine zo rfl (zw (zn rfl (by first | rfl | (simp; omega)) (zk (zq (zR (zo rfl (zo rfl (zw (zn rfl (by first | rfl | (simp; omega)) ?_)))))))))
 refine zk (zq (zR (zo rfl (zo rfl (zo rfl (zw (Sat.loop' (fun i => preC runs i ≤ n) (fun i => ⟨33, lk [(2, .v (vi (n - preC runs i))), (16, .v (.sl (runs.map Run.c))), (17, .v (vi (runs.map Run.c).length)), (18, .v (vi i))], lk []⟩) (runs.length) ?_ (h0) (fun i hi hI => ?_) (fun hI => ?_))))))))
 exact weak_of ⟨int_eq rfl (show n = n - 0 by omega), rfl, rfl, rfl, trivial⟩ trivial rfl rfl
 have hq := hp.pre (k := i) (by omega)
 have hc := hp.cnt i hi
 refine zR (zo rfl (zw (zq (zy rfl (by simp [hi]) (zk (zq (zb rfl (zR (zi rfl rfl rfl rfl rfl ?_)))))))))
 refine zo rfl (zo rfl (zd rfl rfl (zw (zq (zR (zo rfl (zo rfl (zo rfl (zo rfl ?_)))))))))
 refine zw (zC rfl (fun h1 => ?_) (fun h1 => ?_))
 refine zR (zo rfl (zo rfl (zo rfl (zo rfl (zw (Sat.ret (rq (rb (rq ?_)))))))))
 exact rs (rq (ze rfl (by first | (rw [plK_eq hp hi hI (show n < preC runs i + (gt runs i).count by have := of_decide_eq_true h1; omega)]; done) | (exfalso; unfold total at hn; omega))))
 refine zk (zr (zo rfl (zo rfl (zo rfl (zs rfl (zo rfl (wn (nb (nq ?_)))))))))
 exact zr (za rfl (zo rfl (wn (ns ((show preC runs i + (gt runs i).count ≤ n by have := of_decide_eq_false ‹decide _ = false›; omega)) (weak_of ⟨int_eq rfl (show n - preC runs i - (gt runs i).count = n - (preC runs i + (gt runs i).count) by omega), rfl, rfl, rfl, trivial⟩ trivial rfl rfl)))))
 refine zR (zo rfl (zw (zq (zn rfl (by simp) (Sat.exit (xq (xe (nq (zR (zo rfl ?_))))))))))
 exact zo rfl (zw (Sat.ret (ze rfl (by first | (rw [plK_eq hp hi hI (show n < preC runs i + (gt runs i).count by have := of_decide_eq_true h1; omega)]; done) | (exfalso; unfold total at hn; omega)))))
end Go.Proofs.YtamjajacnfmgeaaGreat
namespace Go.Proofs.YtamjajacnfmgeaaGreat
open Go Go.RowKit
set_option maxHeartbeats 1000000
theorem gt_take {α : Type} [Inhabited α] {l : List α} {i j : Nat} (h : j < i) (hi : i ≤ l.length) : gt (l.take i) (j : Int) = gt l (j : Int) := by
 rw [gt_get (by simp; omega), gt_get (by omega)]; simp
theorem demsOk_parts {l : List Dem} (h : demsOk l = true) : l.length ≤ 20 ∧ ∀ i : Nat, i < l.length → demR (gt l i) = true ∧ ∀ j : Nat, j < i → beqB (gt l j).name (gt l i).name = false := by
 simp only [demsOk, Bool.and_eq_true, Bool.not_eq_true', decide_eq_false_iff_not] at h
 refine ⟨by omega, fun i hi => ?_⟩
 have := allN_iff.1 h.2 i hi
 simp only [demOk, Bool.and_eq_true, beq_iff_eq] at this
 obtain ⟨⟨⟨h1, h2⟩, h3⟩, h4⟩ := this
 refine ⟨by simp [demR, h1, h3, h4], fun j hj => ?_⟩
 unfold nameIx at h2
 rcases findN_cases l.length fun k => beqB (gt l k).name (gt l i).name with ⟨e, h5⟩ | ⟨k, e, h5, h6, h7⟩
 · exact h5 j (by omega)
 · rw [e] at h2
   have : k = i := by omega
   subst this
   exact h7 j hj
theorem ok157 (l : List Dem) (h : demsOk l = true) : Ok Tryz.prog 157 [.sl (l.map Dem.c)] (.bool true) := by
 obtain ⟨hl, hx⟩ := demsOk_parts h
 refine zz 26 Tryz.func157 rfl Tryz.call157 rfl (zR (zo rfl (zw (zq (zR (zo rfl (zo rfl (zo rfl (zw (zn rfl (by simp; omega) ?_))))))))))
 refine zk (zq (zR (zo rfl (zo rfl (zo rfl (zw (Sat.loop' (fun _ => True) (fun i => ⟨26, lk [(0, .v (.sl (l.map Dem.c))), (8, .v (.sl (l.map Dem.c))), (9, .v (vi (l.map Dem.c).length)), (10, .v (vi i))], lk []⟩) (l.length) ?_ (trivial) (fun i hi hI => ?_) (fun hI => ?_))))))))
 exact zv rfl rfl rfl rfl
 have ha := hx i hi
 have hf : findN (l.take i).length (fun j => beqB (gt (l.take i) j).name (gt l i).name) = -1 := findN_none fun j hj => by rw [gt_take (by simp at hj; omega) (by omega)]; exact ha.2 j (by simp at hj; omega)
 clear hx
 refine zR (zo rfl (zw (zq (zy rfl (by simp [hi]) (zk (zq (zb rfl (zR (zo rfl ?_)))))))))
 refine zi rfl rfl rfl rfl rfl (zo rfl (zo rfl (zo rfl (zd rfl rfl (zw (zR (zo rfl (zc rfl (ok42 (gt l i) ha.1) (zo rfl ?_)))))))))
 refine zo rfl (zF rfl (fun h1 => ?_) (fun h1 => ?_))
 refine zO (fun _ => rfl) (zh rfl h1 rfl (step_sil (sil_on rfl h1 (sil_take rfl rfl rfl rfl (by omega) (by omega) (fun _ => rfl) ?_))))
 refine zh rfl h1 rfl (step_on rfl h1 (step_call rfl rfl rfl (ok205_1 (l.take i) (by simp; omega) 206 (.cp (gt l i).c 0) (fun j => beqB (gt (l.take i) j).name (gt l i).name) (fun j _ => ok206 _ _)) (zP rfl h1 rfl (zw (zC rfl (fun h2 => ?_) (fun h2 => ?_))))))
 exact zR (zo rfl (zw (Sat.ret (rb (rq (rs (rq (ze rfl (by first | rfl | (exfalso; simp_all; done) | (exfalso; rw [hf] at *; simp_all; done))))))))))
 exact Sat.skip (nb (nq (zr (za rfl (zo rfl (wn (ns trivial (zv rfl rfl rfl rfl))))))))
 refine zf rfl h1 (zf rfl h1 (zf rfl h1 (zf rfl h1 (zp rfl h1 rfl (zw (zy rfl rfl (zR (zo rfl (zw (Sat.ret ?_))))))))))
 exact rb (rq (rs (rq (ze rfl (by first | rfl | (exfalso; simp_all; done) | (exfalso; rw [hf] at *; simp_all; done))))))
 refine zR (zo rfl (zw (zq (zn rfl (by simp) (Sat.exit (xq (xe (nq (zR (zo rfl ?_))))))))))
 exact zw (Sat.ret (ze rfl (by first | rfl | (exfalso; simp_all; done) | (exfalso; rw [hf] at *; simp_all; done))))
end Go.Proofs.YtamjajacnfmgeaaGreat
namespace Go.Proofs.YtamjajacnfmgeaaGreat
open Go Go.RowKit
set_option maxHeartbeats 1000000
def ptBx (p : Pt) : Bx := ⟨p.x, p.y, p.z, p.x, p.y, p.z⟩
def ptBxs (l : List Pt) : List Bx := (List.range l.length).map fun i : Nat => ptBx (gt l i)
theorem ok163 (l : List Pt) (hl : l.length ≤ 1000) : Ok Tryz.prog 163 [.sl (l.map Pt.c)] (.sl ((ptBxs l).map Bx.c)) := by
 refine zz 20 Tryz.func163 rfl Tryz.call163 rfl (zR (zo rfl (zw (zR (zo rfl (zw (zq (zR (zo rfl ?_)))))))))
 refine zo rfl (zo rfl (zw (Sat.loop' (fun _ => True) (fun i => ⟨20, lk [(3, slD 17 6 ((List.range i).map fun j : Nat => (ptBx (gt l j)).c)), (6, .v (.sl (l.map Pt.c))), (7, .v (vi (l.map Pt.c).length)), (8, .v (vi i))], lkO [(17, slS 6 ((List.range i).map fun j : Nat => (ptBx (gt l j)).c))]⟩) (l.length) ?_ (trivial) (fun i hi hI => ?_) (fun hI => ?_))))
 exact weakO ⟨rfl, rfl, rfl, rfl, trivial⟩ ⟨soS rfl, trivial⟩ (by repeat' (first | exact trivial | exact rfl | exact slD_ment rfl | exact moS | exact mo rfl | refine ⟨?_, ?_⟩)) (by repeat' (first | exact trivial | exact rfl | exact slD_ment rfl | exact moS | exact mo rfl | refine ⟨?_, ?_⟩))
 refine zR (zo rfl (zw (zq (zy rfl (by simp [hi]) (zk (zq (zb rfl (zR (zi rfl rfl rfl rfl rfl ?_)))))))))
 refine zo rfl (zo rfl (zd rfl rfl (zw (zr (zo rfl (zo rfl (zo rfl (zo rfl (zo rfl ?_)))))))))
 first | (refine step_app1 rfl (by first | exact .inl rfl | (right; simp)) rfl rfl rfl rfl rfl rfl (by simp; omega) rfl ?_) | (refine step_op rfl rfl rfl ?_)
 exact zo rfl (wn (nb (nq (zr (za rfl (zo rfl (wn (ns trivial (weakO ⟨slD_eq rfl (rangeM_snoc _ _).symm, rfl, rfl, rfl, trivial⟩ ⟨soA rfl (rangeM_snoc _ _).symm, trivial⟩ (by repeat' (first | exact trivial | exact rfl | exact slD_ment rfl | exact moS | exact mo rfl | refine ⟨?_, ?_⟩)) (by repeat' (first | exact trivial | exact rfl | exact slD_ment rfl | exact moS | exact mo rfl | refine ⟨?_, ?_⟩)))))))))))
 refine zR (zo rfl (zw (zq (zn rfl (by simp) (Sat.exit (xq (xe (nq (Sat.pubS 3 rfl rfl ?_)))))))))
 exact zR (zo rfl (zo rfl (zw (Sat.ret (ze rfl (by simp only [ptBxs, List.map_map]; rfl))))))
theorem ok225 (b : Bx) : Ok Tryz.prog 225 [.ag b.c] (.bool (isMain b)) := by
 unfold isMain
 refine zz 28 Tryz.func225 rfl Tryz.call225 rfl (zR (zo rfl (zo rfl (zw (zR (zo rfl (zo rfl (zo rfl (zo rfl ?_)))))))))
 refine zo rfl (zo rfl (zo rfl (zo rfl (zT rfl (fun h1 => ?_) (fun h1 => ?_)))))
 refine zO (fun _ => rfl) (zh rfl h1 rfl (zh rfl h1 rfl (zh rfl h1 rfl (zh rfl h1 rfl (zh rfl h1 rfl (zh rfl h1 rfl (zp rfl h1 rfl (zo rfl (zT rfl (fun h2 => ?_) (fun h2 => ?_))))))))))
 refine zO (fun _ => rfl) (zh rfl h2 rfl (zh rfl h2 rfl (zh rfl h2 rfl (zh rfl h2 rfl (zh rfl h2 rfl (zh rfl h2 rfl (zp rfl h2 rfl (zo rfl (zw (Sat.ret ?_))))))))))
 exact zg rfl
 refine zt rfl h2 (zt rfl h2 (zt rfl h2 (zt rfl h2 (zt rfl h2 (zt rfl h2 (zP rfl h2 rfl (zo rfl (zw (Sat.ret ?_)))))))))
 exact zg rfl
 refine zt rfl h1 (zt rfl h1 (zt rfl h1 (zt rfl h1 (zt rfl h1 (zt rfl h1 (zP rfl h1 rfl (zo rfl (zt rfl rfl (zt rfl rfl ?_)))))))))
 exact zt rfl rfl (zt rfl rfl (zt rfl rfl (zt rfl rfl (zt rfl rfl (zP rfl rfl rfl (zo rfl (zw (Sat.ret (zg rfl)))))))))
end Go.Proofs.YtamjajacnfmgeaaGreat
namespace Go.Proofs.YtamjajacnfmgeaaGreat
open Go Go.RowKit
set_option maxHeartbeats 1000000
theorem ok244 (b : Bx) (h : boxOk b = true) : Ok Tryz.prog 244 [.ag b.c] (.bool false) := by
 refine zz 6 Tryz.func244 rfl Tryz.call244 rfl (zR (zo rfl (zo rfl (zw (zR (zo rfl (zc rfl (ok48 b h) (zo rfl (zo rfl ?_)))))))))
 exact zw (Sat.ret (ze rfl rfl))
theorem ok212 (l : List Bx) (hl : l.length ≤ 1000) (h : ∀ i : Nat, i < l.length → boxOk (gt l i) = true) : Ok Tryz.prog 212 [.sl (l.map Bx.c)] (.bool true) := by
 have hf : findN l.length (fun _ => false) = -1 := findN_none fun _ _ => rfl
 refine zz 6 Tryz.func212 rfl Tryz.call212 rfl (zR (zo rfl (zw (zR (zo rfl (zc rfl (ok223_0 l (by omega) 244 (fun _ => false) (fun i hi => ok244 _ (h i hi))) (zo rfl (zo rfl (zw (Sat.ret ?_))))))))))
 exact ze rfl (by rw [hf]; rfl)
def joinB (a b : Bx) : Bx := ⟨mn a.lx b.lx, mn a.ly b.ly, mn a.lz b.lz, mx a.hx b.hx, mx a.hy b.hy, mx a.hz b.hz⟩
def hullI (l : List Bx) : Nat → Bx
  | 0 => gt l 0
  | n + 1 => joinB (hullI l n) (gt l n)
theorem ok162 (l : List Bx) (h1 : 1 ≤ l.length) (hl : l.length ≤ 1000) (h : ∀ i : Nat, i < l.length → boxOk (gt l i) = true) : Ok Tryz.prog 162 [.sl (l.map Bx.c)] (.tp [.ag (hullI l l.length).c, vi 0]) := by
 refine zz 74 Tryz.func162 rfl Tryz.call162 rfl (zR (zo rfl (zo rfl (zw (zq (zb rfl (zR (zo rfl (zc rfl (ok212 l hl h) ?_)))))))))
 refine zo rfl (zo rfl (zw (zn rfl (by first | rfl | (simp; omega) | (simp; intro hz; simp [hz] at h1)) (zR (zo rfl (zo rfl (zo rfl (zo rfl (zw (zn rfl (by first | rfl | (simp; omega) | (simp; intro hz; simp [hz] at h1)) ?_))))))))))
 refine Sat.skip (nb (nq (zR (zo rfl (zi rfl rfl rfl rfl rfl (zo rfl (zo rfl (zd rfl rfl (zw (zq (zR (zo rfl ?_))))))))))))
 refine zo rfl (zo rfl (zw (Sat.loop' (fun _ => True) (fun i => ⟨74, lk [(2, .ptr 2 0), (4, .ptr 4 0), (20, .v (.sl (l.map Bx.c))), (21, .v (vi (l.map Bx.c).length)), (22, .v (vi i))], lk [(2, ⟨.cells ((Bx.mk 0 0 0 0 0 0).c.map .v), false⟩), (4, ⟨.cells ((hullI l i).c.map .v), false⟩)]⟩) (l.length) ?_ (trivial) (fun i hi hI => ?_) (fun hI => ?_))))
 exact zv rfl rfl rfl rfl
 refine zR (zo rfl (zw (zq (zy rfl (by simp [hi]) (zk (zq (zb rfl (zR (zi rfl rfl rfl rfl rfl ?_)))))))))
 refine zo rfl (zo rfl (zd rfl rfl (zw (zR (zo rfl (zo rfl (zo rfl (zo rfl (zo rfl ?_)))))))))
 refine zo rfl (zo rfl (zo rfl (zo rfl (zo rfl (zo rfl (zo rfl (zo rfl (zo rfl (zo rfl ?_)))))))))
 refine zo rfl (zo rfl (zo rfl (zo rfl (zo rfl (zo rfl (zo rfl (zo rfl (zd rfl rfl (zw (zr ?_))))))))))
 refine zo rfl (zo rfl (zo rfl (zo rfl (zo rfl (zo rfl (zo rfl (zo rfl (zo rfl (zo rfl ?_)))))))))
 refine zo rfl (zo rfl (zo rfl (zo rfl (zo rfl (zo rfl (zo rfl (zo rfl (zo rfl (zo rfl ?_)))))))))
 refine zo rfl (zo rfl (zo rfl (zd rfl rfl (wn (nb (nq (zr (za rfl (zo rfl ?_)))))))))
 exact wn (ns trivial (zv rfl rfl rfl rfl))
 refine zR (zo rfl (zw (zq (zn rfl (by simp) (Sat.exit (xq (xe (nq (zR (zo rfl ?_))))))))))
 exact zd rfl rfl (zo rfl (zw (Sat.ret (ze rfl rfl))))
end Go.Proofs.YtamjajacnfmgeaaGreat
namespace Go.Proofs.YtamjajacnfmgeaaGreat
open Go Go.RowKit
set_option maxHeartbeats 1000000
def Bx.has (a b : Bx) (k : Nat) : Bool := !decide (b.lo k < a.lo k) && !decide (b.hi k > a.hi k)
def Bx.contains (a b : Bx) : Bool := allN 3 (a.has b)
theorem ok248 (a b : Bx) : Ok Tryz.prog 248 [.ag a.c, .ag b.c] (.bool (a.contains b)) := by
 refine zz 34 Tryz.func248 rfl Tryz.call248 rfl (zR (zo rfl (zo rfl (zo rfl (zw (zq (zR (zo rfl (zw (Sat.loop' (fun z => ∀ j : Nat, j < z → a.has b j = true) (fun i => ⟨34, lk [(2, .ptr 2 0), (3, .ptr 3 0), (10, .v (vi i))], lk [(2, ⟨.cells (a.c.map .v), false⟩), (3, ⟨.cells (b.c.map .v), false⟩)]⟩) (3) ?_ (all_zero) (fun i hi hI => ?_) (fun hI => ?_)))))))))))
 exact zv rfl rfl rfl rfl
 refine zR (zo rfl (zw (zq (zy rfl (by simp; omega) (zk (zq (zb rfl (zR (zo rfl ?_)))))))))
 refine zo rfl (zw (zR (zo rfl (zo rfl (zc rfl (ok101 _ _ (by omega) (by omega)) (zo rfl (zo rfl (zo rfl (zo rfl ?_)))))))))
 refine zo rfl (zw (zR (zo rfl (zo rfl (zc rfl (ok101 _ _ (by omega) (by omega)) (zo rfl (zo rfl (zo rfl (zo rfl ?_)))))))))
 refine zo rfl (zw (zR (zo rfl (zo rfl (zo rfl (zo rfl (zF rfl (fun h1 => ?_) (fun h1 => ?_))))))))
 refine zO (fun _ => rfl) (zh rfl h1 rfl (zh rfl h1 rfl (zP rfl h1 rfl (zw (zC rfl (fun h2 => ?_) (fun h2 => ?_))))))
 exact zR (zo rfl (zw (Sat.ret (rb (rq (rs (rq (ze rfl (by first | (refine vb ?_; exact (allN_false hi (by simp_all [Bx.has])).symm) | exact vb (allN_iff.2 hI).symm)))))))))
 exact Sat.skip (nb (nq (zr (za rfl (zo rfl (wn (ns (all_step hI (by first | omega | (simp_all [Bx.has]; done) | (simp_all [Bx.has]; omega))) (zv rfl rfl rfl rfl))))))))
 refine zf rfl h1 (zf rfl h1 (zp rfl h1 rfl (zw (zy rfl rfl (zR (zo rfl (zw (Sat.ret (rb ?_)))))))))
 exact rq (rs (rq (ze rfl (by first | (refine vb ?_; exact (allN_false hi (by simp_all [Bx.has])).symm) | exact vb (allN_iff.2 hI).symm))))
 refine zR (zo rfl (zw (zq (zn rfl (by simp) (Sat.exit (xq (xe (nq (zR (zo rfl ?_))))))))))
 exact zw (Sat.ret (ze rfl (by first | (refine vb ?_; exact (allN_false hi (by simp_all [Bx.has])).symm) | exact vb (allN_iff.2 hI).symm)))
theorem ok226 (a b : Bx) (ha : boxOk a = true) (hb : boxOk b = true) : Ok Tryz.prog 226 [.ag a.c, .ag b.c] (.tp [.bool (a.contains b), vi 0]) := by
 refine zz 17 Tryz.func226 rfl Tryz.call226 rfl (zR (zo rfl (zo rfl (zo rfl (zo rfl (zw (zq (zR (zo rfl ?_)))))))))
 refine zc rfl (ok48 a ha) (zo rfl (zo rfl (zF rfl (fun h1 => ?_) (fun h1 => ?_))))
 refine zO (fun _ => rfl) (step_sil (sil_on rfl h1 (sil_call rfl rfl (fun _ => rfl) (fun _ => rfl) (ok48 b hb) ?_)))
 refine zh rfl h1 rfl (zP rfl h1 rfl (zw (zC rfl (fun h2 => ?_) (fun h2 => ?_))))
 exact zR (zo rfl (zo rfl (zw (Sat.ret (rq (ze rfl (by first | rfl | (exfalso; simp_all; done))))))))
 exact zk (zR (zo rfl (zo rfl (zc rfl (ok248 a b) (zo rfl (zo rfl (zw (Sat.ret (ze rfl (by first | rfl | (exfalso; simp_all; done)))))))))))
 refine zf rfl h1 (zf rfl h1 (zp rfl h1 rfl (zw (zy rfl rfl (zR (zo rfl (zo rfl (zw (Sat.ret ?_)))))))))
 exact rq (ze rfl (by first | rfl | (exfalso; simp_all; done)))
theorem ax_at {b : Bx} (h : boxOk b = true) {k : Int} (h0 : 0 ≤ k) (h1 : k < 3) : (-1048576 ≤ b.lo k ∧ b.lo k ≤ 1048576) ∧ (-1048576 ≤ b.hi k ∧ b.hi k ≤ 1048576) ∧ b.lo k ≤ b.hi k := by
 have := ax_of (allN_iff.1 h k.toNat (by omega))
 have e : ((k.toNat : Nat) : Int) = k := by omega
 rwa [e] at this
def gapB (a b : Bx) (k : Int) : Int := mx (b.lo k - a.hi k) (a.lo k - b.hi k)
theorem ok188 (a b : Bx) (ha : boxOk a = true) (hb : boxOk b = true) (k : Int) (h0 : 0 ≤ k) (h1 : k < 3) : Ok Tryz.prog 188 [.ag a.c, .ag b.c, vi k] (vi (gapB a b k)) := by
 have hx := ax_at ha h0 h1
 have hy := ax_at hb h0 h1
 refine zz 30 Tryz.func188 rfl Tryz.call188 rfl (zR (zo rfl (zo rfl (zo rfl (zw (zR (zo rfl (zo rfl (zc rfl (ok101 _ _ h0 h1) ?_)))))))))
 refine zo rfl (zo rfl (zo rfl (zo rfl (zo rfl (zw (zR (zo rfl (zo rfl (zc rfl (ok101 _ _ h0 h1) ?_)))))))))
 refine zo rfl (zo rfl (zo rfl (zo rfl (zo rfl (zw (zR (zo rfl (zo rfl (zs rfl ?_)))))))))
 exact zo rfl (zo rfl (zs rfl (zo rfl (zo rfl (zw (Sat.ret (ze rfl rfl)))))))
def sqAt (a b : Bx) (k : Nat) : Int := mx 0 (gapB a b k) * mx 0 (gapB a b k)
def sqB (a b : Bx) : Int := sumI 3 (sqAt a b)
theorem gap_in {a b : Bx} (ha : boxOk a = true) (hb : boxOk b = true) {k : Nat} (h : k < 3) : 0 ≤ mx 0 (gapB a b k) ∧ mx 0 (gapB a b k) ≤ 2097152 := by
 have hx := ax_at ha (k := (k : Int)) (by omega) (by omega)
 have hy := ax_at hb (k := (k : Int)) (by omega) (by omega)
 have h1 := le_mx (b.lo k - a.hi k) (a.lo k - b.hi k)
 have h2 := le_mx 0 (gapB a b k)
 unfold gapB at *
 omega
theorem sq_in {a b : Bx} (ha : boxOk a = true) (hb : boxOk b = true) {k : Nat} (h : k < 3) : 0 ≤ sqAt a b k ∧ sqAt a b k ≤ 4398046511104 := by
 have h1 := gap_in ha hb h
 have h2 := mul_in (a := mx 0 (gapB a b k)) (b := mx 0 (gapB a b k)) (A := 2097152) (B := 2097152) (by omega) (by omega)
 have h3 := Int.mul_nonneg h1.1 h1.1
 unfold sqAt
 omega
theorem ok127 (a b : Bx) (ha : boxOk a = true) (hb : boxOk b = true) : Ok Tryz.prog 127 [.ag a.c, .ag b.c] (.tp [vi (sqB a b), vi 0]) := by
 refine zz 32 Tryz.func127 rfl Tryz.call127 rfl (zR (zo rfl (zo rfl (zo rfl (zo rfl (zw (zq (zR (zo rfl ?_)))))))))
 refine zc rfl (ok48 a ha) (zo rfl (zo rfl (zF rfl (fun h1 => ?_) (fun h1 => ?_))))
 refine zO (fun _ => rfl) (step_sil (sil_on rfl h1 (sil_call rfl rfl (fun _ => rfl) (fun _ => rfl) (ok48 b hb) ?_)))
 refine zh rfl h1 rfl (zP rfl h1 rfl (zw (zC rfl (fun h2 => ?_) (fun h2 => ?_))))
 exact zR (zo rfl (zo rfl (zw (Sat.ret (rq (ze rfl (by first | rfl | (exfalso; simp_all; done))))))))
 refine zk (zR (zo rfl (zw (zq (zR (zo rfl (zw (Sat.loop' (fun _ => True) (fun i => ⟨32, lk [(2, .ptr 2 0), (3, .ptr 3 0), (6, .v (vi (sumI i (sqAt a b)))), (17, .v (vi i))], lk [(2, ⟨.cells (a.c.map .v), false⟩), (3, ⟨.cells (b.c.map .v), false⟩)]⟩) (3) ?_ (trivial) (fun i hi hI => ?_) (fun hI => ?_)))))))))
 exact zv rfl rfl rfl rfl
 have hs := sq_in ha hb hi
 have hp := sumI_le (n := i) (f := sqAt a b) (fun j hj => sq_in ha hb (by omega))
 unfold sqAt at hs
 refine zR (zo rfl (zw (zq (zy rfl (by simp; omega) (zk (zq (zb rfl (zR (zo rfl ?_)))))))))
 refine zo rfl (zw (zR (zo rfl (zo rfl (zo rfl (zc rfl (ok188 a b ha hb _ (by omega) (by omega)) (zo rfl (zo rfl (zw (zr ?_))))))))))
 refine zo rfl (zo rfl (zo rfl (zM rfl (by first | exact (show i64R (mx 0 (gapB a b i) * mx 0 (gapB a b i)) from ⟨by omega, by omega⟩) | exact (show i64R (sumI i (sqAt a b) + mx 0 (gapB a b i) * mx 0 (gapB a b i)) from ⟨by omega, by omega⟩) | (constructor <;> omega)) (zA rfl (by first | exact (show i64R (mx 0 (gapB a b i) * mx 0 (gapB a b i)) from ⟨by omega, by omega⟩) | exact (show i64R (sumI i (sqAt a b) + mx 0 (gapB a b i) * mx 0 (gapB a b i)) from ⟨by omega, by omega⟩) | (constructor <;> omega)) (zo rfl (wn (nb (nq (zr ?_)))))))))
 exact zA rfl (by first | exact (show i64R (mx 0 (gapB a b i) * mx 0 (gapB a b i)) from ⟨by omega, by omega⟩) | exact (show i64R (sumI i (sqAt a b) + mx 0 (gapB a b i) * mx 0 (gapB a b i)) from ⟨by omega, by omega⟩) | (constructor <;> omega)) (zo rfl (wn (ns trivial (zv rfl rfl rfl rfl))))
 refine zR (zo rfl (zw (zq (zn rfl (by simp) (Sat.exit (xq (xe (nq (zR (zo rfl ?_))))))))))
 exact zo rfl (zo rfl (zw (Sat.ret (ze rfl (by first | rfl | (exfalso; simp_all; done))))))
 refine zf rfl h1 (zf rfl h1 (zp rfl h1 rfl (zw (zy rfl rfl (zR (zo rfl (zo rfl (zw (Sat.ret ?_)))))))))
 exact rq (ze rfl (by first | rfl | (exfalso; simp_all; done)))
end Go.Proofs.YtamjajacnfmgeaaGreat
