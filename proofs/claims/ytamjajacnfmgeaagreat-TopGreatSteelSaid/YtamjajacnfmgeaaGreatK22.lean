/-
  Contract: the law's size guard. No condition.
  Contracts: names, boxes, steps, rules of the program. No condition.
  Contracts: slices.IndexFunc and slices.ContainsFunc. Condition: that of the closure's contract.
-/
import Derived.Test.YtamjajacnfmgeaaGreatK21
set_option linter.all false
namespace Go.Proofs.YtamjajacnfmgeaaGreat
open Go Go.RowKit
set_option maxHeartbeats 1000000
def smallRun (r : Run) : Bool := !decide ((r.mark.size : Int) > 60) && !(decide (r.count > 150) && decide (r.count ≤ 2000))
def cnt1 (r : Run) : Int := if (decide (r.count > 0) && decide (r.count ≤ 150)) = true then r.count else 0
def smallHead (a b : Int) : Bool := ((decide (a > 60) && decide (a ≤ 60)) || decide (a > 63)) || (decide (b > 60) && decide (b ≤ 60)) || decide (b > 63)
def smallB (bars : List Bar) (runs : List Run) : Bool := !smallHead bars.length runs.length && (allN bars.length (fun i => shortBar (gt bars i)) && (allN runs.length (fun i => smallRun (gt runs i)) && (decide (sumI runs.length (fun i => cnt1 (gt runs i)) ≤ 150) || decide ((runs.length : Int) > 60))))
theorem cnt1_le (r : Run) : 0 ≤ cnt1 r ∧ cnt1 r ≤ 150 := by
 unfold cnt1
 split
 · rename_i h; simp at h; omega
 · omega
theorem cnt1_eq (r : Run) : cnt1 r = if 0 < r.count ∧ r.count ≤ 150 then r.count else 0 := by simp [cnt1]
theorem smallHead_le {a b : Nat} (h : smallHead a b = false) : a ≤ 63 ∧ b ≤ 63 := by
 simp [smallHead] at h
 omega
theorem ok5 (bars : List Bar) (runs : List Run) : Ok Tryz.prog 5 [.sl (bars.map Bar.c), .sl (runs.map Run.c), vi 60, vi 150] (.bool (smallB bars runs)) := by
 unfold smallB
 refine zz 113 Tryz.func5 rfl Tryz.call5 rfl (zR (zo rfl (zw (zq (zq (Sat.to tabOk (⟨113, lk [(41, .v (.bool (smallHead bars.length runs.length))), (0, .v (.sl (bars.map Bar.c))), (1, .v (.sl (runs.map Run.c))), (2, .v (vi 60)), (3, .v (vi 150))], lk []⟩) ?_ ?_))))))
 refine zo rfl (zo rfl (zo rfl (zo rfl (zo rfl (zT rfl (fun h1 => ?_) (fun h1 => ?_))))))
 refine zO (fun _ => rfl) (zh rfl h1 rfl (zh rfl h1 rfl (zp rfl h1 rfl (zo rfl (zF rfl (fun h2 => ?_) (fun h2 => ?_))))))
 refine zO (fun _ => rfl) (zh rfl h2 rfl (zh rfl h2 rfl (zP rfl h2 rfl (zo rfl (zF rfl (fun h3 => ?_) (fun h3 => ?_))))))
 refine zO (fun _ => rfl) (zh rfl h3 rfl (zh rfl h3 rfl (zh rfl h3 rfl (zh rfl h3 rfl (zT rfl (fun h4 => ?_) (fun h4 => ?_))))))
 refine zO (fun _ => rfl) (zh rfl h4 rfl (zh rfl h4 rfl (step_sil (sil_on rfl h3 (sil_pick (want := true) rfl rfl h4 rfl ?_)))))
 refine zP rfl h3 rfl (zo rfl (zF rfl (fun h5 => ?_) (fun h5 => ?_)))
 exact zO (fun _ => rfl) (zh rfl h5 rfl (zh rfl h5 rfl (zP rfl h5 rfl (wn (weak_of ⟨bool_eq rfl (by first | (simp_all [smallHead]; done) | (simp_all [smallHead]; omega)), rfl, rfl, rfl, rfl, trivial⟩ trivial rfl rfl)))))
 exact zf rfl h5 (zf rfl h5 (zp rfl h5 rfl (wn (weak_of ⟨bool_eq rfl (by first | (simp_all [smallHead]; done) | (simp_all [smallHead]; omega)), rfl, rfl, rfl, rfl, trivial⟩ trivial rfl rfl))))
 refine zt rfl h4 (zt rfl h4 (step_sil (sil_on rfl h3 (sil_pick (want := false) rfl rfl h4 rfl ?_))))
 exact zP rfl h3 rfl (zo rfl (zh rfl rfl rfl (zh rfl rfl rfl (zh rfl rfl rfl (zP rfl rfl rfl (wn (weak_of ⟨bool_eq rfl (by first | (simp_all [smallHead]; done) | (simp_all [smallHead]; omega)), rfl, rfl, rfl, rfl, trivial⟩ trivial rfl rfl)))))))
 refine zf rfl h3 (zf rfl h3 (zf rfl h3 (zf rfl h3 (zu rfl (zu rfl (zu rfl (zf rfl h3 (zp rfl h3 rfl (zo rfl ?_)))))))))
 exact zf rfl rfl (zf rfl rfl (zf rfl rfl (zp rfl rfl rfl (wn (weak_of ⟨bool_eq rfl (by first | (simp_all [smallHead]; done) | (simp_all [smallHead]; omega)), rfl, rfl, rfl, rfl, trivial⟩ trivial rfl rfl)))))
 refine zf rfl h2 (zf rfl h2 (zp rfl h2 rfl (zo rfl (zf rfl rfl (zf rfl rfl (zf rfl rfl (zf rfl rfl (zf rfl rfl (zu rfl ?_)))))))))
 exact zu rfl (zu rfl (zf rfl rfl (zp rfl rfl rfl (zo rfl (zf rfl rfl (zf rfl rfl (zf rfl rfl (zp rfl rfl rfl (wn (weak_of ⟨bool_eq rfl (by first | (simp_all [smallHead]; done) | (simp_all [smallHead]; omega)), rfl, rfl, rfl, rfl, trivial⟩ trivial rfl rfl))))))))))
 refine zt rfl h1 (zt rfl h1 (zP rfl h1 rfl (zo rfl (zh rfl rfl rfl (zh rfl rfl rfl (zh rfl rfl rfl (zP rfl rfl rfl (zo rfl (zF rfl (fun h6 => ?_) (fun h6 => ?_))))))))))
 refine zO (fun _ => rfl) (zh rfl h6 rfl (zh rfl h6 rfl (zh rfl h6 rfl (zh rfl h6 rfl (zT rfl (fun h7 => ?_) (fun h7 => ?_))))))
 refine zO (fun _ => rfl) (zh rfl h7 rfl (zh rfl h7 rfl (step_sil (sil_on rfl h6 (sil_pick (want := true) rfl rfl h7 rfl ?_)))))
 refine zP rfl h6 rfl (zo rfl (zF rfl (fun h8 => ?_) (fun h8 => ?_)))
 exact zO (fun _ => rfl) (zh rfl h8 rfl (zh rfl h8 rfl (zP rfl h8 rfl (wn (weak_of ⟨bool_eq rfl (by first | (simp_all [smallHead]; done) | (simp_all [smallHead]; omega)), rfl, rfl, rfl, rfl, trivial⟩ trivial rfl rfl)))))
 exact zf rfl h8 (zf rfl h8 (zp rfl h8 rfl (wn (weak_of ⟨bool_eq rfl (by first | (simp_all [smallHead]; done) | (simp_all [smallHead]; omega)), rfl, rfl, rfl, rfl, trivial⟩ trivial rfl rfl))))
 refine zt rfl h7 (zt rfl h7 (step_sil (sil_on rfl h6 (sil_pick (want := false) rfl rfl h7 rfl ?_))))
 exact zP rfl h6 rfl (zo rfl (zh rfl rfl rfl (zh rfl rfl rfl (zh rfl rfl rfl (zP rfl rfl rfl (wn (weak_of ⟨bool_eq rfl (by first | (simp_all [smallHead]; done) | (simp_all [smallHead]; omega)), rfl, rfl, rfl, rfl, trivial⟩ trivial rfl rfl)))))))
 refine zf rfl h6 (zf rfl h6 (zf rfl h6 (zf rfl h6 (zu rfl (zu rfl (zu rfl (zf rfl h6 (zp rfl h6 rfl (zo rfl ?_)))))))))
 exact zf rfl rfl (zf rfl rfl (zf rfl rfl (zp rfl rfl rfl (wn (weak_of ⟨bool_eq rfl (by first | (simp_all [smallHead]; done) | (simp_all [smallHead]; omega)), rfl, rfl, rfl, rfl, trivial⟩ trivial rfl rfl)))))
 refine nq (zC rfl (fun h9 => ?_) (fun h9 => ?_))
 exact zR (zo rfl (zw (Sat.ret (rq (ze rfl (by first | (refine vb ?_; rw [allN_false hi (by simp_all)]; simp; done) | (refine vb ?_; rw [allN_false hj (by simp_all [smallRun])]; simp; done) | (refine vb ?_; rw [allN_iff.2 hI, allN_iff.2 hJ]; simp_all; done) | (refine vb ?_; rw [allN_iff.2 hI, allN_iff.2 hJ]; simp_all <;> omega) | (simp_all; done)))))))
 refine zk (zq (zR (zo rfl (zw (Sat.loop' (fun z => ∀ j : Nat, j < z → shortBar (gt bars j) = true) (fun i => ⟨113, lk [(0, .v (.sl (bars.map Bar.c))), (1, .v (.sl (runs.map Run.c))), (2, .v (vi 60)), (3, .v (vi 150)), (9, .v (vi i))], lk []⟩) (bars.length) ?_ (all_zero) (fun i hi hI => ?_) (fun hI => ?_))))))
 exact zv rfl rfl rfl rfl
 have hl := smallHead_le (a := bars.length) (b := runs.length) (by assumption)
 refine zq (zR (zo rfl (zo rfl (zo rfl (zo rfl (zw (zy rfl (by simp [hi]) (zk (zq (zb rfl ?_))))))))))
 refine zR (zo rfl (zo rfl (zi rfl rfl rfl rfl rfl (zo rfl (zc rfl (ok12 _) (zo rfl (zw (zC rfl (fun h10 => ?_) (fun h10 => ?_)))))))))
 exact zR (zo rfl (zw (Sat.ret (rb (rq (rs (rq (ze rfl (by first | (refine vb ?_; rw [allN_false hi (by simp_all)]; simp; done) | (refine vb ?_; rw [allN_false hj (by simp_all [smallRun])]; simp; done) | (refine vb ?_; rw [allN_iff.2 hI, allN_iff.2 hJ]; simp_all; done) | (refine vb ?_; rw [allN_iff.2 hI, allN_iff.2 hJ]; simp_all <;> omega) | (simp_all; done))))))))))
 exact Sat.skip (nb (nq (zr (zo rfl (za rfl (zo rfl (wn (ns (all_step hI (by first | omega | (simp_all []; done) | (simp_all []; omega))) (zv rfl rfl rfl rfl)))))))))
 refine zq (zR (zo rfl (zo rfl (zo rfl (zo rfl (zw (zn rfl (by simp) (Sat.exit (xq ?_)))))))))
 refine xe (nq (zR (zo rfl (zw (zq (zR (zo rfl (zw (Sat.loop' (fun z => ∀ j : Nat, j < z → smallRun (gt runs j) = true) (fun j => ⟨113, lk [(1, .v (.sl (runs.map Run.c))), (2, .v (vi 60)), (3, .v (vi 150)), (10, .v (vi (sumI j fun j => cnt1 (gt runs j)))), (11, .v (vi j))], lk []⟩) (runs.length) ?_ (all_zero) (fun j hj hJ => ?_) (fun hJ => ?_))))))))))
 exact zv rfl rfl rfl rfl
 have hl := smallHead_le (a := bars.length) (b := runs.length) (by assumption)
 have hs := sumI_le (n := j) (f := fun j => cnt1 (gt runs j)) (fun k _ => cnt1_le _)
 refine zq (zR (zo rfl (zo rfl (zo rfl (zo rfl (zw (zy rfl (by simp [hj]) (zk (zq (zb rfl ?_))))))))))
 refine zq (zR (zo rfl (zo rfl (zi rfl rfl rfl rfl rfl (zo rfl (zo rfl (zo rfl (zo rfl (zw (zC rfl (fun h11 => ?_) (fun h11 => ?_)))))))))))
 exact zR (zo rfl (zw (Sat.ret (rq (rb (rq (rs (rq (ze rfl (by first | (refine vb ?_; rw [allN_false hi (by simp_all)]; simp; done) | (refine vb ?_; rw [allN_false hj (by simp_all [smallRun])]; simp; done) | (refine vb ?_; rw [allN_iff.2 hI, allN_iff.2 hJ]; simp_all; done) | (refine vb ?_; rw [allN_iff.2 hI, allN_iff.2 hJ]; simp_all <;> omega) | (simp_all; done)))))))))))
 refine zk (zq (zR (zo rfl (zo rfl (zi rfl rfl rfl rfl rfl (zo rfl (zo rfl (zo rfl (zo rfl ?_)))))))))
 refine zo rfl (zT rfl (fun h12 => ?_) (fun h12 => ?_))
 refine zO (fun _ => rfl) (zh rfl h12 rfl (step_sil (sil_on rfl h12 (sil_index rfl rfl rfl rfl (by omega) (gt_idx (by omega) (by omega)) rfl ?_))))
 refine zh rfl h12 rfl (zh rfl h12 rfl (zh rfl h12 rfl (zp rfl h12 rfl (zw (zC rfl (fun h13 => ?_) (fun h13 => ?_))))))
 exact zR (zo rfl (zw (Sat.ret (rq (rb (rq (rs (rq (ze rfl (by first | (refine vb ?_; rw [allN_false hi (by simp_all)]; simp; done) | (refine vb ?_; rw [allN_false hj (by simp_all [smallRun])]; simp; done) | (refine vb ?_; rw [allN_iff.2 hI, allN_iff.2 hJ]; simp_all; done) | (refine vb ?_; rw [allN_iff.2 hI, allN_iff.2 hJ]; simp_all <;> omega) | (simp_all; done)))))))))))
 refine zk (zR (zo rfl (zo rfl (zi rfl rfl rfl rfl rfl (zo rfl (zo rfl (zo rfl (zo rfl (zT rfl (fun h14 => ?_) (fun h14 => ?_))))))))))
 refine zO (fun _ => rfl) (zh rfl h14 rfl (step_sil (sil_on rfl h14 (sil_index rfl rfl rfl rfl (by omega) (gt_idx (by omega) (by omega)) rfl ?_))))
 refine zh rfl h14 rfl (zh rfl h14 rfl (zh rfl h14 rfl (zh rfl h14 rfl (zp rfl h14 rfl (zw (zC rfl (fun h15 => ?_) (fun h15 => ?_)))))))
 refine zr (zo rfl (zo rfl (zo rfl (zi rfl rfl rfl rfl rfl (zo rfl (zo rfl (za rfl (zo rfl (wn (nb ?_))))))))))
 exact nq (zr (zo rfl (za rfl (zo rfl (wn (ns (all_step hJ (by simp_all [smallRun])) (weak_of ⟨rfl, rfl, rfl, int_eq rfl (by simp only [sumI, cnt1_eq (gt runs (j : Int))]; first | (split <;> simp_all; done) | (split <;> simp_all <;> omega)), rfl, trivial⟩ trivial rfl rfl)))))))
 exact Sat.skip (nb (nq (zr (zo rfl (za rfl (zo rfl (wn (ns (all_step hJ (by simp_all [smallRun])) (weak_of ⟨rfl, rfl, rfl, int_eq rfl (by simp only [sumI, cnt1_eq (gt runs (j : Int))]; first | (split <;> simp_all; done) | (split <;> simp_all <;> omega)), rfl, trivial⟩ trivial rfl rfl)))))))))
 refine zt rfl h14 (zt rfl h14 (zt rfl h14 (zt rfl h14 (zt rfl h14 (zt rfl h14 (zP rfl h14 rfl (zw (zn rfl rfl (Sat.skip (nb ?_))))))))))
 exact nq (zr (zo rfl (za rfl (zo rfl (wn (ns (all_step hJ (by simp_all [smallRun])) (weak_of ⟨rfl, rfl, rfl, int_eq rfl (by simp only [sumI, cnt1_eq (gt runs (j : Int))]; first | (split <;> simp_all; done) | (split <;> simp_all <;> omega)), rfl, trivial⟩ trivial rfl rfl)))))))
 refine zt rfl h12 (zt rfl h12 (zt rfl h12 (zt rfl h12 (zt rfl h12 (zP rfl h12 rfl (zw (zn rfl rfl (zk (zR (zo rfl ?_))))))))))
 refine zo rfl (zi rfl rfl rfl rfl rfl (zo rfl (zo rfl (zo rfl (zo rfl (zT rfl (fun h16 => ?_) (fun h16 => ?_)))))))
 refine zO (fun _ => rfl) (zh rfl h16 rfl (step_sil (sil_on rfl h16 (sil_index rfl rfl rfl rfl (by omega) (gt_idx (by omega) (by omega)) rfl ?_))))
 refine zh rfl h16 rfl (zh rfl h16 rfl (zh rfl h16 rfl (zh rfl h16 rfl (zp rfl h16 rfl (zw (zC rfl (fun h17 => ?_) (fun h17 => ?_)))))))
 refine zr (zo rfl (zo rfl (zo rfl (zi rfl rfl rfl rfl rfl (zo rfl (zo rfl (za rfl (zo rfl (wn (nb ?_))))))))))
 exact nq (zr (zo rfl (za rfl (zo rfl (wn (ns (all_step hJ (by simp_all [smallRun])) (weak_of ⟨rfl, rfl, rfl, int_eq rfl (by simp only [sumI, cnt1_eq (gt runs (j : Int))]; first | (split <;> simp_all; done) | (split <;> simp_all <;> omega)), rfl, trivial⟩ trivial rfl rfl)))))))
 exact Sat.skip (nb (nq (zr (zo rfl (za rfl (zo rfl (wn (ns (all_step hJ (by simp_all [smallRun])) (weak_of ⟨rfl, rfl, rfl, int_eq rfl (by simp only [sumI, cnt1_eq (gt runs (j : Int))]; first | (split <;> simp_all; done) | (split <;> simp_all <;> omega)), rfl, trivial⟩ trivial rfl rfl)))))))))
 refine zt rfl h16 (zt rfl h16 (zt rfl h16 (zt rfl h16 (zt rfl h16 (zt rfl h16 (zP rfl h16 rfl (zw (zn rfl rfl (Sat.skip (nb ?_))))))))))
 exact nq (zr (zo rfl (za rfl (zo rfl (wn (ns (all_step hJ (by simp_all [smallRun])) (weak_of ⟨rfl, rfl, rfl, int_eq rfl (by simp only [sumI, cnt1_eq (gt runs (j : Int))]; first | (split <;> simp_all; done) | (split <;> simp_all <;> omega)), rfl, trivial⟩ trivial rfl rfl)))))))
 refine zq (zR (zo rfl (zo rfl (zo rfl (zo rfl (zw (zn rfl (by simp) (Sat.exit (xq ?_)))))))))
 refine xe (nq (zR (zo rfl (zo rfl (zo rfl (zo rfl (zF rfl (fun h18 => ?_) (fun h18 => ?_))))))))
 exact zO (fun _ => rfl) (zh rfl h18 rfl (zh rfl h18 rfl (zh rfl h18 rfl (zP rfl h18 rfl (zo rfl (zw (Sat.ret (ze rfl (by first | (refine vb ?_; rw [allN_false hi (by simp_all)]; simp; done) | (refine vb ?_; rw [allN_false hj (by simp_all [smallRun])]; simp; done) | (refine vb ?_; rw [allN_iff.2 hI, allN_iff.2 hJ]; simp_all; done) | (refine vb ?_; rw [allN_iff.2 hI, allN_iff.2 hJ]; simp_all <;> omega) | (simp_all; done))))))))))
 exact zf rfl h18 (zf rfl h18 (zf rfl h18 (zp rfl h18 rfl (zo rfl (zw (Sat.ret (ze rfl (by first | (refine vb ?_; rw [allN_false hi (by simp_all)]; simp; done) | (refine vb ?_; rw [allN_false hj (by simp_all [smallRun])]; simp; done) | (refine vb ?_; rw [allN_iff.2 hI, allN_iff.2 hJ]; simp_all; done) | (refine vb ?_; rw [allN_iff.2 hI, allN_iff.2 hJ]; simp_all <;> omega) | (simp_all; done)))))))))
end Go.Proofs.YtamjajacnfmgeaaGreat
namespace Go.Proofs.YtamjajacnfmgeaaGreat
open Go Go.RowKit
set_option maxHeartbeats 1000000
theorem ok140 (c : Int) : Ok Tryz.prog 140 [vu c] (.bool (isLetter c)) := by
 unfold isLetter
 refine zz 17 Tryz.func140 rfl Tryz.call140 rfl (zR (zo rfl (zw (zR (zo rfl (zo rfl (zo rfl (zT rfl (fun h1 => ?_) (fun h1 => ?_)))))))))
 refine zO (fun _ => rfl) (zh rfl h1 rfl (zp rfl h1 rfl (zo rfl (zF rfl (fun h2 => ?_) (fun h2 => ?_)))))
 refine zO (fun _ => rfl) (zh rfl h2 rfl (zh rfl h2 rfl (zT rfl (fun h3 => ?_) (fun h3 => ?_))))
 refine zO (fun _ => rfl) (zh rfl h3 rfl (step_sil (sil_on rfl h2 (sil_pick (want := true) rfl rfl h3 rfl ?_))))
 exact zP rfl h2 rfl (zo rfl (zw (Sat.ret (zg rfl))))
 refine zt rfl h3 (step_sil (sil_on rfl h2 (sil_pick (want := false) rfl rfl h3 rfl ?_)))
 exact zP rfl h2 rfl (zo rfl (zw (Sat.ret (zg rfl))))
 exact zf rfl h2 (zf rfl h2 (zu rfl (zu rfl (zf rfl h2 (zp rfl h2 rfl (zo rfl (zw (Sat.ret (zg rfl)))))))))
 refine zt rfl h1 (zP rfl h1 rfl (zo rfl (zh rfl rfl rfl (zh rfl rfl rfl (zh rfl rfl rfl (zT rfl (fun h4 => ?_) (fun h4 => ?_)))))))
 refine zO (fun _ => rfl) (zh rfl h4 rfl (step_sil (sil_on rfl rfl (sil_pick (want := true) rfl rfl h4 rfl ?_))))
 exact zP rfl rfl rfl (zo rfl (zw (Sat.ret (zg rfl))))
 refine zt rfl h4 (step_sil (sil_on rfl rfl (sil_pick (want := false) rfl rfl h4 rfl ?_)))
 exact zP rfl rfl rfl (zo rfl (zw (Sat.ret (zg rfl))))
theorem ok196 (c : Int) : Ok Tryz.prog 196 [vu c] (.bool (isDigit c)) := by
 unfold isDigit
 refine zz 9 Tryz.func196 rfl Tryz.call196 rfl (zR (zo rfl (zw (zR (zo rfl (zo rfl (zo rfl (zT rfl (fun h1 => ?_) (fun h1 => ?_)))))))))
 exact zO (fun _ => rfl) (zh rfl h1 rfl (zp rfl h1 rfl (zo rfl (zw (Sat.ret (zg rfl))))))
 exact zt rfl h1 (zP rfl h1 rfl (zo rfl (zw (Sat.ret (zg rfl)))))
theorem ok141 (s : ByteArray) (hs : s.size ≤ 20) : Ok Tryz.prog 141 [.str s] (vi (wordLen s)) := by
 obtain ⟨g1, g2, g3⟩ := run1_spec s.size (wordB s)
 refine zz 29 Tryz.func141 rfl Tryz.call141 rfl (zR (zo rfl (zw (zR (zo rfl (zw (zq (Sat.loop' (fun _ => True) (fun i => ⟨29, lk [(0, .v (.str s)), (3, .v (vi i))], lk []⟩) (wordLen s) ?_ (trivial) (fun i hi hI => ?_) (fun hI => ?_)))))))))
 exact zv rfl rfl rfl rfl
 have hs1 : i < s.size := by unfold wordLen at hi; omega
 have hw := g2 i hi
 refine zq (zR (zo rfl (zo rfl (zo rfl (zo rfl (zo rfl (zT rfl (fun h1 => ?_) (fun h1 => ?_))))))))
 refine zO (fun _ => rfl) (zh rfl h1 rfl (step_sil (sil_on rfl h1 (sil_byte rfl rfl rfl rfl (by omega) (byte_at (by omega) (by simp_all)) ?_))))
 refine step_sil (sil_on rfl h1 (sil_call rfl rfl (fun _ => rfl) (fun _ => rfl) (ok140 _) ?_))
 refine zh rfl h1 rfl (zF rfl (fun h2 => ?_) (fun h2 => ?_))
 refine zO (fun _ => rfl) (zh rfl h2 rfl (step_sil (sil_on rfl h2 (sil_byte rfl rfl rfl rfl (by omega) (byte_at (by omega) (by simp_all)) ?_))))
 refine step_sil (sil_on rfl h2 (sil_call rfl rfl (fun _ => rfl) (fun _ => rfl) (ok196 _) ?_))
 refine step_sil (sil_on rfl h1 (sil_pick (want := false) rfl rfl h2 rfl ?_))
 refine zh rfl h1 rfl (zF rfl (fun h3 => ?_) (fun h3 => ?_))
 refine zO (fun _ => rfl) (zh rfl h3 rfl (step_sil (sil_on rfl h3 (sil_byte rfl rfl rfl rfl (by omega) (byte_at (by omega) (by simp_all)) ?_))))
 refine zh rfl h3 rfl (step_sil (sil_on rfl h1 (sil_pick (want := false) rfl rfl h3 rfl ?_)))
 refine zp rfl h1 rfl (zw (zy rfl (by simp_all [wordB, byteN]) (zk (zb rfl (zr (zo rfl (za rfl (zo rfl (wn (nb ?_))))))))))
 exact ns trivial (zv rfl rfl rfl rfl)
 refine zf rfl h3 (zf rfl h3 (zf rfl h3 (step_sil (sil_on rfl h1 (sil_pick (want := true) rfl rfl h3 rfl ?_)))))
 refine zp rfl h1 rfl (zw (zy rfl rfl (zk (zb rfl (zr (zo rfl (za rfl (zo rfl (wn (nb ?_))))))))))
 exact ns trivial (zv rfl rfl rfl rfl)
 refine zf rfl h2 (zf rfl h2 (zf rfl h2 (step_sil (sil_on rfl h1 (sil_pick (want := true) rfl rfl h2 rfl ?_)))))
 refine zh rfl h1 rfl (zf rfl rfl (zf rfl rfl (zf rfl rfl (zf rfl rfl (step_sil (sil_on rfl h1 (sil_pick (want := true) rfl rfl rfl rfl ?_)))))))
 refine zp rfl h1 rfl (zw (zy rfl rfl (zk (zb rfl (zr (zo rfl (za rfl (zo rfl (wn (nb ?_))))))))))
 exact ns trivial (zv rfl rfl rfl rfl)
 refine zt rfl h1 (zt rfl h1 (zt rfl h1 (zt rfl h1 (zu rfl (zu rfl (zu rfl (zu rfl (zt rfl h1 (zt rfl h1 ?_)))))))))
 refine zu rfl (zu rfl (zu rfl (zu rfl (zt rfl h1 (zP rfl h1 rfl (zw ?_))))))
 exfalso; simp_all [wordB, byteN]
 have hw : wordLen s < s.size → wordB s (wordLen s) = false := g3
 have hw2 : wordLen s ≤ s.size := g1
 refine zq (zR (zo rfl (zo rfl (zo rfl (zo rfl (zo rfl (zT rfl (fun h4 => ?_) (fun h4 => ?_))))))))
 refine zO (fun _ => rfl) (zh rfl h4 rfl (step_sil (sil_on rfl h4 (sil_byte rfl rfl rfl rfl (by omega) (byte_at (by omega) (by simp_all)) ?_))))
 refine step_sil (sil_on rfl h4 (sil_call rfl rfl (fun _ => rfl) (fun _ => rfl) (ok140 _) ?_))
 refine zh rfl h4 rfl (zF rfl (fun h5 => ?_) (fun h5 => ?_))
 refine zO (fun _ => rfl) (zh rfl h5 rfl (step_sil (sil_on rfl h5 (sil_byte rfl rfl rfl rfl (by omega) (byte_at (by omega) (by simp_all)) ?_))))
 refine step_sil (sil_on rfl h5 (sil_call rfl rfl (fun _ => rfl) (fun _ => rfl) (ok196 _) ?_))
 refine step_sil (sil_on rfl h4 (sil_pick (want := false) rfl rfl h5 rfl ?_))
 refine zh rfl h4 rfl (zF rfl (fun h6 => ?_) (fun h6 => ?_))
 refine zO (fun _ => rfl) (zh rfl h6 rfl (step_sil (sil_on rfl h6 (sil_byte rfl rfl rfl rfl (by omega) (byte_at (by omega) (by simp_all)) ?_))))
 refine zh rfl h6 rfl (step_sil (sil_on rfl h4 (sil_pick (want := false) rfl rfl h6 rfl ?_)))
 refine zp rfl h4 rfl (zw (zn rfl (by simp_all [wordB, byteN]) (Sat.exit (xq (xe (nq (zR (zo rfl (zo rfl ?_)))))))))
 exact zw (Sat.ret (zg rfl))
 refine zf rfl h6 (zf rfl h6 (zf rfl h6 (step_sil (sil_on rfl h4 (sil_pick (want := true) rfl rfl h6 rfl ?_)))))
 refine zp rfl h4 rfl (zw ?_)
 exfalso; simp_all [wordB, byteN]
 refine zf rfl h5 (zf rfl h5 (zf rfl h5 (step_sil (sil_on rfl h4 (sil_pick (want := true) rfl rfl h5 rfl ?_)))))
 refine zh rfl h4 rfl (zf rfl rfl (zf rfl rfl (zf rfl rfl (zf rfl rfl (step_sil (sil_on rfl h4 (sil_pick (want := true) rfl rfl rfl rfl ?_)))))))
 refine zp rfl h4 rfl (zw ?_)
 exfalso; simp_all [wordB, byteN]
 refine zt rfl h4 (zt rfl h4 (zt rfl h4 (zt rfl h4 (zu rfl (zu rfl (zu rfl (zu rfl (zt rfl h4 (zt rfl h4 ?_)))))))))
 refine zu rfl (zu rfl (zu rfl (zu rfl (zt rfl h4 (zP rfl h4 rfl (zw (zn rfl rfl (Sat.exit (xq ?_)))))))))
 exact xe (nq (zR (zo rfl (zo rfl (zw (Sat.ret (zg rfl)))))))
theorem loop_len (s : ByteArray) : ∀ (k i : Nat) (r : List UInt8), s.size - i = k → (ByteArray.toList.loop s i r).length = r.length + k
  | 0, i, r, h => by
    unfold ByteArray.toList.loop
    rw [if_neg (by omega)]
    simp
  | k + 1, i, r, h => by
    unfold ByteArray.toList.loop
    rw [if_pos (by omega), loop_len s k (i + 1) _ (by omega)]
    simp
    omega
theorem toList_len (s : ByteArray) : s.toList.length = s.size := by
 unfold ByteArray.toList
 rw [loop_len s s.size 0 [] (by omega)]
 simp
theorem ok89 (s : ByteArray) (h : nameOk s = true) : Ok Tryz.prog 89 [.str s] (.bool true) := by
 have hn : (!(s.toList == (ByteArray.mk #[]).toList)) = true := by
   simp only [nameOk, Bool.and_eq_true, Bool.not_eq_true'] at h
   have h0 := pos_of h.1.1.1
   cases hb : (s.toList == (ByteArray.mk #[]).toList) with
   | false => rfl
   | true =>
     have h1 := congrArg List.length (eq_of_beq hb)
     rw [toList_len, toList_len] at h1
     have h2 : (ByteArray.mk #[]).size = 0 := rfl
     omega
 unfold nameOk byteN at h
 refine zz 22 Tryz.func89 rfl Tryz.call89 rfl (zR (zo rfl (zw (zR (zo rfl (zo rfl (zo rfl (zT rfl (fun h1 => ?_) (fun h1 => ?_)))))))))
 refine zO (fun _ => rfl) (zh rfl h1 rfl (zh rfl h1 rfl (zp rfl h1 rfl (zo rfl (zT rfl (fun h2 => ?_) (fun h2 => ?_))))))
 refine zO (fun _ => rfl) (step_sil (sil_on rfl h2 (sil_byte rfl rfl rfl rfl (by omega) (byte_at (by omega) (pos_of (by simp_all))) ?_)))
 refine step_sil (sil_on rfl h2 (sil_call rfl rfl (fun _ => rfl) (fun _ => rfl) (ok140 _) ?_))
 refine zp rfl h2 rfl (zo rfl (zT rfl (fun h3 => ?_) (fun h3 => ?_)))
 refine zO (fun _ => rfl) (step_sil (sil_on rfl h3 (sil_call rfl rfl (fun _ => rfl) (fun _ => rfl) (ok141 _ (by simp_all; omega)) ?_)))
 exact zh rfl h3 rfl (zh rfl h3 rfl (zh rfl h3 rfl (zp rfl h3 rfl (zo rfl (zw (Sat.ret (zg rfl)))))))
 exact zt rfl h3 (zt rfl h3 (zt rfl h3 (zt rfl h3 (zP rfl h3 rfl (zo rfl (zw (Sat.ret (zg rfl))))))))
 refine zt rfl h2 (zt rfl h2 (zP rfl h2 rfl (zo rfl (zt rfl rfl (zt rfl rfl (zt rfl rfl (zt rfl rfl (zt rfl rfl (zP rfl rfl rfl ?_)))))))))
 exact zo rfl (zw (Sat.ret (zg rfl)))
 refine zt rfl h1 (zt rfl h1 (zP rfl h1 rfl (zo rfl (zt rfl rfl (zt rfl rfl (zt rfl rfl (zP rfl rfl rfl (zo rfl (zt rfl rfl ?_)))))))))
 exact zt rfl rfl (zt rfl rfl (zt rfl rfl (zt rfl rfl (zP rfl rfl rfl (zo rfl (zw (Sat.ret (zg rfl))))))))
end Go.Proofs.YtamjajacnfmgeaaGreat
namespace Go.Proofs.YtamjajacnfmgeaaGreat
open Go Go.RowKit
set_option maxHeartbeats 1000000
theorem ok97_0 (l : List (Bar)) (hl : l.length ≤ 100000) (g : Nat) (p : Nat → Bool) (h : ∀ i : Nat, i < l.length → Ok Tryz.prog g [.ag (gt l i).c] (.bool (p i))) : Ok Tryz.prog 97 [.sl (l.map Bar.c), .fn g []] (vi (findN l.length p)) := by
 refine zz 19 Tryz.func97 rfl Tryz.call97 rfl (zR (zo rfl (zw (zq (zR (zo rfl (zo rfl (zo rfl (zw (Sat.loop' (fun z => ∀ j : Nat, j < z → p j = false) (fun i => ⟨19, lk [(0, .v (.sl (l.map Bar.c))), (1, .v (.fn g [])), (7, .v (vi (l.map Bar.c).length)), (8, .v (vi i))], lk []⟩) (l.length) ?_ (all_zero) (fun i hi hI => ?_) (fun hI => ?_)))))))))))
 exact zv rfl rfl rfl rfl
 refine zR (zo rfl (zw (zq (zy rfl (by simp [hi]) (zk (zq (zb rfl (zR (zo rfl ?_)))))))))
 refine zo rfl (zw (zR (zo rfl (zo rfl (zo rfl (zi rfl rfl rfl rfl rfl (zo rfl (zc rfl (h i hi) (zw (zC rfl (fun h1 => ?_) (fun h1 => ?_)))))))))))
 exact zR (zo rfl (zo rfl (zw (Sat.ret (rb (rq (rs (rq (ze rfl (by first | exact vint (findN_eq hi (by assumption) hI).symm | exact vint (findN_none hI).symm))))))))))
 exact Sat.skip (nb (nq (zr (za rfl (zo rfl (wn (ns (all_step hI (by assumption)) (zv rfl rfl rfl rfl))))))))
 refine zR (zo rfl (zw (zq (zn rfl (by simp) (Sat.exit (xq (xe (nq (zR (zo rfl ?_))))))))))
 exact zw (Sat.ret (ze rfl (by first | exact vint (findN_eq hi (by assumption) hI).symm | exact vint (findN_none hI).symm)))
theorem ok97_1 (l : List (Bar)) (hl : l.length ≤ 100000) (g : Nat) (c : V) (p : Nat → Bool) (h : ∀ i : Nat, i < l.length → Ok Tryz.prog g [.ag (gt l i).c, c] (.bool (p i))) : Ok Tryz.prog 97 [.sl (l.map Bar.c), .fn g [c]] (vi (findN l.length p)) := by
 refine zz 19 Tryz.func97 rfl Tryz.call97 rfl (zR (zo rfl (zw (zq (zR (zo rfl (zo rfl (zo rfl (zw (Sat.loop' (fun z => ∀ j : Nat, j < z → p j = false) (fun i => ⟨19, lk [(0, .v (.sl (l.map Bar.c))), (1, .v (.fn g [c])), (7, .v (vi (l.map Bar.c).length)), (8, .v (vi i))], lk []⟩) (l.length) ?_ (all_zero) (fun i hi hI => ?_) (fun hI => ?_)))))))))))
 exact zv rfl rfl rfl rfl
 refine zR (zo rfl (zw (zq (zy rfl (by simp [hi]) (zk (zq (zb rfl (zR (zo rfl ?_)))))))))
 refine zo rfl (zw (zR (zo rfl (zo rfl (zo rfl (zi rfl rfl rfl rfl rfl (zo rfl (zc rfl (h i hi) (zw (zC rfl (fun h1 => ?_) (fun h1 => ?_)))))))))))
 exact zR (zo rfl (zo rfl (zw (Sat.ret (rb (rq (rs (rq (ze rfl (by first | exact vint (findN_eq hi (by assumption) hI).symm | exact vint (findN_none hI).symm))))))))))
 exact Sat.skip (nb (nq (zr (za rfl (zo rfl (wn (ns (all_step hI (by assumption)) (zv rfl rfl rfl rfl))))))))
 refine zR (zo rfl (zw (zq (zn rfl (by simp) (Sat.exit (xq (xe (nq (zR (zo rfl ?_))))))))))
 exact zw (Sat.ret (ze rfl (by first | exact vint (findN_eq hi (by assumption) hI).symm | exact vint (findN_none hI).symm)))
theorem ok99_0 (l : List (Bx)) (hl : l.length ≤ 100000) (g : Nat) (p : Nat → Bool) (h : ∀ i : Nat, i < l.length → Ok Tryz.prog g [.ag (gt l i).c] (.bool (p i))) : Ok Tryz.prog 99 [.sl (l.map Bx.c), .fn g []] (vi (findN l.length p)) := by
 refine zz 19 Tryz.func99 rfl Tryz.call99 rfl (zR (zo rfl (zw (zq (zR (zo rfl (zo rfl (zo rfl (zw (Sat.loop' (fun z => ∀ j : Nat, j < z → p j = false) (fun i => ⟨19, lk [(0, .v (.sl (l.map Bx.c))), (1, .v (.fn g [])), (7, .v (vi (l.map Bx.c).length)), (8, .v (vi i))], lk []⟩) (l.length) ?_ (all_zero) (fun i hi hI => ?_) (fun hI => ?_)))))))))))
 exact zv rfl rfl rfl rfl
 refine zR (zo rfl (zw (zq (zy rfl (by simp [hi]) (zk (zq (zb rfl (zR (zo rfl ?_)))))))))
 refine zo rfl (zw (zR (zo rfl (zo rfl (zo rfl (zi rfl rfl rfl rfl rfl (zo rfl (zc rfl (h i hi) (zw (zC rfl (fun h1 => ?_) (fun h1 => ?_)))))))))))
 exact zR (zo rfl (zo rfl (zw (Sat.ret (rb (rq (rs (rq (ze rfl (by first | exact vint (findN_eq hi (by assumption) hI).symm | exact vint (findN_none hI).symm))))))))))
 exact Sat.skip (nb (nq (zr (za rfl (zo rfl (wn (ns (all_step hI (by assumption)) (zv rfl rfl rfl rfl))))))))
 refine zR (zo rfl (zw (zq (zn rfl (by simp) (Sat.exit (xq (xe (nq (zR (zo rfl ?_))))))))))
 exact zw (Sat.ret (ze rfl (by first | exact vint (findN_eq hi (by assumption) hI).symm | exact vint (findN_none hI).symm)))
theorem ok223_0 (l : List (Bx)) (hl : l.length ≤ 100000) (g : Nat) (p : Nat → Bool) (h : ∀ i : Nat, i < l.length → Ok Tryz.prog g [.ag (gt l i).c] (.bool (p i))) : Ok Tryz.prog 223 [.sl (l.map Bx.c), .fn g []] (.bool (decide (findN l.length p ≥ 0))) := by
 refine zz 9 Tryz.func223 rfl Tryz.call223 rfl (zR (zo rfl (zw (zR (zo rfl (zo rfl (zc rfl (ok99_0 l hl g p h) (zo rfl (zo rfl ?_)))))))))
 exact zw (Sat.ret (ze rfl rfl))
theorem ok99_1 (l : List (Bx)) (hl : l.length ≤ 100000) (g : Nat) (c : V) (p : Nat → Bool) (h : ∀ i : Nat, i < l.length → Ok Tryz.prog g [.ag (gt l i).c, c] (.bool (p i))) : Ok Tryz.prog 99 [.sl (l.map Bx.c), .fn g [c]] (vi (findN l.length p)) := by
 refine zz 19 Tryz.func99 rfl Tryz.call99 rfl (zR (zo rfl (zw (zq (zR (zo rfl (zo rfl (zo rfl (zw (Sat.loop' (fun z => ∀ j : Nat, j < z → p j = false) (fun i => ⟨19, lk [(0, .v (.sl (l.map Bx.c))), (1, .v (.fn g [c])), (7, .v (vi (l.map Bx.c).length)), (8, .v (vi i))], lk []⟩) (l.length) ?_ (all_zero) (fun i hi hI => ?_) (fun hI => ?_)))))))))))
 exact zv rfl rfl rfl rfl
 refine zR (zo rfl (zw (zq (zy rfl (by simp [hi]) (zk (zq (zb rfl (zR (zo rfl ?_)))))))))
 refine zo rfl (zw (zR (zo rfl (zo rfl (zo rfl (zi rfl rfl rfl rfl rfl (zo rfl (zc rfl (h i hi) (zw (zC rfl (fun h1 => ?_) (fun h1 => ?_)))))))))))
 exact zR (zo rfl (zo rfl (zw (Sat.ret (rb (rq (rs (rq (ze rfl (by first | exact vint (findN_eq hi (by assumption) hI).symm | exact vint (findN_none hI).symm))))))))))
 exact Sat.skip (nb (nq (zr (za rfl (zo rfl (wn (ns (all_step hI (by assumption)) (zv rfl rfl rfl rfl))))))))
 refine zR (zo rfl (zw (zq (zn rfl (by simp) (Sat.exit (xq (xe (nq (zR (zo rfl ?_))))))))))
 exact zw (Sat.ret (ze rfl (by first | exact vint (findN_eq hi (by assumption) hI).symm | exact vint (findN_none hI).symm)))
theorem ok223_1 (l : List (Bx)) (hl : l.length ≤ 100000) (g : Nat) (c : V) (p : Nat → Bool) (h : ∀ i : Nat, i < l.length → Ok Tryz.prog g [.ag (gt l i).c, c] (.bool (p i))) : Ok Tryz.prog 223 [.sl (l.map Bx.c), .fn g [c]] (.bool (decide (findN l.length p ≥ 0))) := by
 refine zz 9 Tryz.func223 rfl Tryz.call223 rfl (zR (zo rfl (zw (zR (zo rfl (zo rfl (zc rfl (ok99_1 l hl g c p h) (zo rfl (zo rfl ?_)))))))))
 exact zw (Sat.ret (ze rfl rfl))
theorem ok239_0 (l : List (Dem)) (hl : l.length ≤ 100000) (g : Nat) (p : Nat → Bool) (h : ∀ i : Nat, i < l.length → Ok Tryz.prog g [.ag (gt l i).c] (.bool (p i))) : Ok Tryz.prog 239 [.sl (l.map Dem.c), .fn g []] (vi (findN l.length p)) := by
 refine zz 19 Tryz.func239 rfl Tryz.call239 rfl (zR (zo rfl (zw (zq (zR (zo rfl (zo rfl (zo rfl (zw (Sat.loop' (fun z => ∀ j : Nat, j < z → p j = false) (fun i => ⟨19, lk [(0, .v (.sl (l.map Dem.c))), (1, .v (.fn g [])), (7, .v (vi (l.map Dem.c).length)), (8, .v (vi i))], lk []⟩) (l.length) ?_ (all_zero) (fun i hi hI => ?_) (fun hI => ?_)))))))))))
 exact zv rfl rfl rfl rfl
 refine zR (zo rfl (zw (zq (zy rfl (by simp [hi]) (zk (zq (zb rfl (zR (zo rfl ?_)))))))))
 refine zo rfl (zw (zR (zo rfl (zo rfl (zo rfl (zi rfl rfl rfl rfl rfl (zo rfl (zc rfl (h i hi) (zw (zC rfl (fun h1 => ?_) (fun h1 => ?_)))))))))))
 exact zR (zo rfl (zo rfl (zw (Sat.ret (rb (rq (rs (rq (ze rfl (by first | exact vint (findN_eq hi (by assumption) hI).symm | exact vint (findN_none hI).symm))))))))))
 exact Sat.skip (nb (nq (zr (za rfl (zo rfl (wn (ns (all_step hI (by assumption)) (zv rfl rfl rfl rfl))))))))
 refine zR (zo rfl (zw (zq (zn rfl (by simp) (Sat.exit (xq (xe (nq (zR (zo rfl ?_))))))))))
 exact zw (Sat.ret (ze rfl (by first | exact vint (findN_eq hi (by assumption) hI).symm | exact vint (findN_none hI).symm)))
theorem ok205_0 (l : List (Dem)) (hl : l.length ≤ 100000) (g : Nat) (p : Nat → Bool) (h : ∀ i : Nat, i < l.length → Ok Tryz.prog g [.ag (gt l i).c] (.bool (p i))) : Ok Tryz.prog 205 [.sl (l.map Dem.c), .fn g []] (.bool (decide (findN l.length p ≥ 0))) := by
 refine zz 9 Tryz.func205 rfl Tryz.call205 rfl (zR (zo rfl (zw (zR (zo rfl (zo rfl (zc rfl (ok239_0 l hl g p h) (zo rfl (zo rfl ?_)))))))))
 exact zw (Sat.ret (ze rfl rfl))
theorem ok239_1 (l : List (Dem)) (hl : l.length ≤ 100000) (g : Nat) (c : V) (p : Nat → Bool) (h : ∀ i : Nat, i < l.length → Ok Tryz.prog g [.ag (gt l i).c, c] (.bool (p i))) : Ok Tryz.prog 239 [.sl (l.map Dem.c), .fn g [c]] (vi (findN l.length p)) := by
 refine zz 19 Tryz.func239 rfl Tryz.call239 rfl (zR (zo rfl (zw (zq (zR (zo rfl (zo rfl (zo rfl (zw (Sat.loop' (fun z => ∀ j : Nat, j < z → p j = false) (fun i => ⟨19, lk [(0, .v (.sl (l.map Dem.c))), (1, .v (.fn g [c])), (7, .v (vi (l.map Dem.c).length)), (8, .v (vi i))], lk []⟩) (l.length) ?_ (all_zero) (fun i hi hI => ?_) (fun hI => ?_)))))))))))
 exact zv rfl rfl rfl rfl
 refine zR (zo rfl (zw (zq (zy rfl (by simp [hi]) (zk (zq (zb rfl (zR (zo rfl ?_)))))))))
 refine zo rfl (zw (zR (zo rfl (zo rfl (zo rfl (zi rfl rfl rfl rfl rfl (zo rfl (zc rfl (h i hi) (zw (zC rfl (fun h1 => ?_) (fun h1 => ?_)))))))))))
 exact zR (zo rfl (zo rfl (zw (Sat.ret (rb (rq (rs (rq (ze rfl (by first | exact vint (findN_eq hi (by assumption) hI).symm | exact vint (findN_none hI).symm))))))))))
 exact Sat.skip (nb (nq (zr (za rfl (zo rfl (wn (ns (all_step hI (by assumption)) (zv rfl rfl rfl rfl))))))))
 refine zR (zo rfl (zw (zq (zn rfl (by simp) (Sat.exit (xq (xe (nq (zR (zo rfl ?_))))))))))
 exact zw (Sat.ret (ze rfl (by first | exact vint (findN_eq hi (by assumption) hI).symm | exact vint (findN_none hI).symm)))
theorem ok205_1 (l : List (Dem)) (hl : l.length ≤ 100000) (g : Nat) (c : V) (p : Nat → Bool) (h : ∀ i : Nat, i < l.length → Ok Tryz.prog g [.ag (gt l i).c, c] (.bool (p i))) : Ok Tryz.prog 205 [.sl (l.map Dem.c), .fn g [c]] (.bool (decide (findN l.length p ≥ 0))) := by
 refine zz 9 Tryz.func205 rfl Tryz.call205 rfl (zR (zo rfl (zw (zR (zo rfl (zo rfl (zc rfl (ok239_1 l hl g c p h) (zo rfl (zo rfl ?_)))))))))
 exact zw (Sat.ret (ze rfl rfl))
theorem ok178_0 (l : List (Int)) (hl : l.length ≤ 100000) (g : Nat) (p : Nat → Bool) (h : ∀ i : Nat, i < l.length → Ok Tryz.prog g [vi (gt l i)] (.bool (p i))) : Ok Tryz.prog 178 [.sl (l.map ic), .fn g []] (vi (findN l.length p)) := by
 refine zz 19 Tryz.func178 rfl Tryz.call178 rfl (zR (zo rfl (zw (zq (zR (zo rfl (zo rfl (zo rfl (zw (Sat.loop' (fun z => ∀ j : Nat, j < z → p j = false) (fun i => ⟨19, lk [(0, .v (.sl (l.map ic))), (1, .v (.fn g [])), (7, .v (vi (l.map ic).length)), (8, .v (vi i))], lk []⟩) (l.length) ?_ (all_zero) (fun i hi hI => ?_) (fun hI => ?_)))))))))))
 exact zv rfl rfl rfl rfl
 refine zR (zo rfl (zw (zq (zy rfl (by simp [hi]) (zk (zq (zb rfl (zR (zo rfl ?_)))))))))
 refine zo rfl (zw (zR (zo rfl (zo rfl (zo rfl (zi rfl rfl rfl rfl rfl (zo rfl (zc rfl (h i hi) (zw (zC rfl (fun h1 => ?_) (fun h1 => ?_)))))))))))
 exact zR (zo rfl (zo rfl (zw (Sat.ret (rb (rq (rs (rq (ze rfl (by first | exact vint (findN_eq hi (by assumption) hI).symm | exact vint (findN_none hI).symm))))))))))
 exact Sat.skip (nb (nq (zr (za rfl (zo rfl (wn (ns (all_step hI (by assumption)) (zv rfl rfl rfl rfl))))))))
 refine zR (zo rfl (zw (zq (zn rfl (by simp) (Sat.exit (xq (xe (nq (zR (zo rfl ?_))))))))))
 exact zw (Sat.ret (ze rfl (by first | exact vint (findN_eq hi (by assumption) hI).symm | exact vint (findN_none hI).symm)))
theorem ok117_0 (l : List (Int)) (hl : l.length ≤ 100000) (g : Nat) (p : Nat → Bool) (h : ∀ i : Nat, i < l.length → Ok Tryz.prog g [vi (gt l i)] (.bool (p i))) : Ok Tryz.prog 117 [.sl (l.map ic), .fn g []] (.bool (decide (findN l.length p ≥ 0))) := by
 refine zz 9 Tryz.func117 rfl Tryz.call117 rfl (zR (zo rfl (zw (zR (zo rfl (zo rfl (zc rfl (ok178_0 l hl g p h) (zo rfl (zo rfl ?_)))))))))
 exact zw (Sat.ret (ze rfl rfl))
theorem ok178_1 (l : List (Int)) (hl : l.length ≤ 100000) (g : Nat) (c : V) (p : Nat → Bool) (h : ∀ i : Nat, i < l.length → Ok Tryz.prog g [vi (gt l i), c] (.bool (p i))) : Ok Tryz.prog 178 [.sl (l.map ic), .fn g [c]] (vi (findN l.length p)) := by
 refine zz 19 Tryz.func178 rfl Tryz.call178 rfl (zR (zo rfl (zw (zq (zR (zo rfl (zo rfl (zo rfl (zw (Sat.loop' (fun z => ∀ j : Nat, j < z → p j = false) (fun i => ⟨19, lk [(0, .v (.sl (l.map ic))), (1, .v (.fn g [c])), (7, .v (vi (l.map ic).length)), (8, .v (vi i))], lk []⟩) (l.length) ?_ (all_zero) (fun i hi hI => ?_) (fun hI => ?_)))))))))))
 exact zv rfl rfl rfl rfl
 refine zR (zo rfl (zw (zq (zy rfl (by simp [hi]) (zk (zq (zb rfl (zR (zo rfl ?_)))))))))
 refine zo rfl (zw (zR (zo rfl (zo rfl (zo rfl (zi rfl rfl rfl rfl rfl (zo rfl (zc rfl (h i hi) (zw (zC rfl (fun h1 => ?_) (fun h1 => ?_)))))))))))
 exact zR (zo rfl (zo rfl (zw (Sat.ret (rb (rq (rs (rq (ze rfl (by first | exact vint (findN_eq hi (by assumption) hI).symm | exact vint (findN_none hI).symm))))))))))
 exact Sat.skip (nb (nq (zr (za rfl (zo rfl (wn (ns (all_step hI (by assumption)) (zv rfl rfl rfl rfl))))))))
 refine zR (zo rfl (zw (zq (zn rfl (by simp) (Sat.exit (xq (xe (nq (zR (zo rfl ?_))))))))))
 exact zw (Sat.ret (ze rfl (by first | exact vint (findN_eq hi (by assumption) hI).symm | exact vint (findN_none hI).symm)))
theorem ok117_1 (l : List (Int)) (hl : l.length ≤ 100000) (g : Nat) (c : V) (p : Nat → Bool) (h : ∀ i : Nat, i < l.length → Ok Tryz.prog g [vi (gt l i), c] (.bool (p i))) : Ok Tryz.prog 117 [.sl (l.map ic), .fn g [c]] (.bool (decide (findN l.length p ≥ 0))) := by
 refine zz 9 Tryz.func117 rfl Tryz.call117 rfl (zR (zo rfl (zw (zR (zo rfl (zo rfl (zc rfl (ok178_1 l hl g c p h) (zo rfl (zo rfl ?_)))))))))
 exact zw (Sat.ret (ze rfl rfl))
def slC (l : List Stp) : List V := [.sl (l.map Stp.c)]
theorem ok169_0 (l : List (List Stp)) (hl : l.length ≤ 100000) (g : Nat) (p : Nat → Bool) (h : ∀ i : Nat, i < l.length → Ok Tryz.prog g [.sl ((gt l i).map Stp.c)] (.bool (p i))) : Ok Tryz.prog 169 [.sl (l.map slC), .fn g []] (vi (findN l.length p)) := by
 refine zz 19 Tryz.func169 rfl Tryz.call169 rfl (zR (zo rfl (zw (zq (zR (zo rfl (zo rfl (zo rfl (zw (Sat.loop' (fun z => ∀ j : Nat, j < z → p j = false) (fun i => ⟨19, lk [(0, .v (.sl (l.map slC))), (1, .v (.fn g [])), (7, .v (vi (l.map slC).length)), (8, .v (vi i))], lk []⟩) (l.length) ?_ (all_zero) (fun i hi hI => ?_) (fun hI => ?_)))))))))))
 exact zv rfl rfl rfl rfl
 refine zR (zo rfl (zw (zq (zy rfl (by simp [hi]) (zk (zq (zb rfl (zR (zo rfl ?_)))))))))
 refine zo rfl (zw (zR (zo rfl (zo rfl (zo rfl (zi rfl rfl rfl rfl rfl (zo rfl (zc rfl (h i hi) (zw (zC rfl (fun h1 => ?_) (fun h1 => ?_)))))))))))
 exact zR (zo rfl (zo rfl (zw (Sat.ret (rb (rq (rs (rq (ze rfl (by first | exact vint (findN_eq hi (by assumption) hI).symm | exact vint (findN_none hI).symm))))))))))
 exact Sat.skip (nb (nq (zr (za rfl (zo rfl (wn (ns (all_step hI (by assumption)) (zv rfl rfl rfl rfl))))))))
 refine zR (zo rfl (zw (zq (zn rfl (by simp) (Sat.exit (xq (xe (nq (zR (zo rfl ?_))))))))))
 exact zw (Sat.ret (ze rfl (by first | exact vint (findN_eq hi (by assumption) hI).symm | exact vint (findN_none hI).symm)))
theorem ok112_0 (l : List (List Stp)) (hl : l.length ≤ 100000) (g : Nat) (p : Nat → Bool) (h : ∀ i : Nat, i < l.length → Ok Tryz.prog g [.sl ((gt l i).map Stp.c)] (.bool (p i))) : Ok Tryz.prog 112 [.sl (l.map slC), .fn g []] (.bool (decide (findN l.length p ≥ 0))) := by
 refine zz 9 Tryz.func112 rfl Tryz.call112 rfl (zR (zo rfl (zw (zR (zo rfl (zo rfl (zc rfl (ok169_0 l hl g p h) (zo rfl (zo rfl ?_)))))))))
 exact zw (Sat.ret (ze rfl rfl))
theorem ok169_1 (l : List (List Stp)) (hl : l.length ≤ 100000) (g : Nat) (c : V) (p : Nat → Bool) (h : ∀ i : Nat, i < l.length → Ok Tryz.prog g [.sl ((gt l i).map Stp.c), c] (.bool (p i))) : Ok Tryz.prog 169 [.sl (l.map slC), .fn g [c]] (vi (findN l.length p)) := by
 refine zz 19 Tryz.func169 rfl Tryz.call169 rfl (zR (zo rfl (zw (zq (zR (zo rfl (zo rfl (zo rfl (zw (Sat.loop' (fun z => ∀ j : Nat, j < z → p j = false) (fun i => ⟨19, lk [(0, .v (.sl (l.map slC))), (1, .v (.fn g [c])), (7, .v (vi (l.map slC).length)), (8, .v (vi i))], lk []⟩) (l.length) ?_ (all_zero) (fun i hi hI => ?_) (fun hI => ?_)))))))))))
 exact zv rfl rfl rfl rfl
 refine zR (zo rfl (zw (zq (zy rfl (by simp [hi]) (zk (zq (zb rfl (zR (zo rfl ?_)))))))))
 refine zo rfl (zw (zR (zo rfl (zo rfl (zo rfl (zi rfl rfl rfl rfl rfl (zo rfl (zc rfl (h i hi) (zw (zC rfl (fun h1 => ?_) (fun h1 => ?_)))))))))))
 exact zR (zo rfl (zo rfl (zw (Sat.ret (rb (rq (rs (rq (ze rfl (by first | exact vint (findN_eq hi (by assumption) hI).symm | exact vint (findN_none hI).symm))))))))))
 exact Sat.skip (nb (nq (zr (za rfl (zo rfl (wn (ns (all_step hI (by assumption)) (zv rfl rfl rfl rfl))))))))
 refine zR (zo rfl (zw (zq (zn rfl (by simp) (Sat.exit (xq (xe (nq (zR (zo rfl ?_))))))))))
 exact zw (Sat.ret (ze rfl (by first | exact vint (findN_eq hi (by assumption) hI).symm | exact vint (findN_none hI).symm)))
theorem ok112_1 (l : List (List Stp)) (hl : l.length ≤ 100000) (g : Nat) (c : V) (p : Nat → Bool) (h : ∀ i : Nat, i < l.length → Ok Tryz.prog g [.sl ((gt l i).map Stp.c), c] (.bool (p i))) : Ok Tryz.prog 112 [.sl (l.map slC), .fn g [c]] (.bool (decide (findN l.length p ≥ 0))) := by
 refine zz 9 Tryz.func112 rfl Tryz.call112 rfl (zR (zo rfl (zw (zR (zo rfl (zo rfl (zc rfl (ok169_1 l hl g c p h) (zo rfl (zo rfl ?_)))))))))
 exact zw (Sat.ret (ze rfl rfl))
end Go.Proofs.YtamjajacnfmgeaaGreat
