/-
  Contracts: equality of lists of steps, the forms of a claim, the nearest points of two boxes. Condition: valid in the reference.
  Contracts: the clash space, its squares and its nearest pair. Condition: valid in the reference.
-/
import Derived.Test.YtamjajacnfmgeaaGreatK38
set_option linter.all false
namespace Go.Proofs.YtamjajacnfmgeaaGreat
open Go Go.RowKit
set_option maxHeartbeats 1000000
theorem ok56 (l : List Stp) (hl : l.length ≤ 100000) : Ok Tryz.prog 56 [.sl (l.map Stp.c), .sl (l.map Stp.c)] (.bool true) := by
 refine zz 26 Tryz.func56 rfl Tryz.call56 rfl (zR (zo rfl (zw (zq (zR (zo rfl (zo rfl (zo rfl (zo rfl ?_)))))))))
 refine zo rfl (zw (zn rfl (by simp) (zk (zq (zR (zo rfl (zo rfl (zo rfl (zw (Sat.loop' (fun _ => True) (fun i => ⟨26, lk [(0, .v (.sl (l.map Stp.c))), (1, .v (.sl (l.map Stp.c))), (11, .v (.sl (l.map Stp.c))), (12, .v (vi (l.map Stp.c).length)), (13, .v (vi i))], lk []⟩) (l.length) ?_ (trivial) (fun i hi hI => ?_) (fun hI => ?_)))))))))))
 exact zv rfl rfl rfl rfl
 refine zR (zo rfl (zw (zq (zy rfl (by simp [hi]) (zk (zq (zb rfl (zR (zo rfl ?_)))))))))
 refine zo rfl (zw (zq (Sat.dr tabOk mixed (by kernel_rfl) (zO (fun _ => rfl) (zO (fun _ => rfl) (sil_index rfl rfl rfl rfl (by omega) (gt_idx (by omega) (by omega)) rfl (zO (fun _ => rfl) (zO (fun _ => rfl) (zO (fun _ => rfl) ?_)))))))))
 refine sil_index rfl rfl rfl rfl (by omega) (gt_idx (by omega) (by omega)) rfl (zO (fun _ => rfl) (zO (fun _ => rfl) (sn (nq (zn rfl (by simp) (Sat.skip (nb (nq (zr ?_)))))))))
 exact za rfl (zo rfl (wn (ns trivial (zv rfl rfl rfl rfl))))
 refine zR (zo rfl (zw (zq (zn rfl (by simp) (Sat.exit (xq (xe (nq (zR (zo rfl ?_))))))))))
 exact zw (Sat.ret (ze rfl rfl))
theorem ok114 (l : List (List Stp)) (hl : l.length ≤ 100000) (hs : ∀ i : Nat, i < l.length → (gt l i).length ≤ 100000) : Ok Tryz.prog 114 [.sl (l.map slC), .sl (l.map slC), .fn 56 []] (.bool true) := by
 refine zz 32 Tryz.func114 rfl Tryz.call114 rfl (zR (zo rfl (zw (zq (zR (zo rfl (zo rfl (zo rfl (zo rfl ?_)))))))))
 refine zo rfl (zw (zn rfl (by simp) (zk (zq (zR (zo rfl (zo rfl (zo rfl (zw (Sat.loop' (fun _ => True) (fun i => ⟨32, lk [(1, .v (.sl (l.map slC))), (2, .v (.fn 56 [])), (15, .v (.sl (l.map slC))), (16, .v (vi (l.map slC).length)), (17, .v (vi i))], lk []⟩) (l.length) ?_ (trivial) (fun i hi hI => ?_) (fun hI => ?_)))))))))))
 exact zv rfl rfl rfl rfl
 refine zR (zo rfl (zw (zq (zy rfl (by simp [hi]) (zk (zq (zb rfl (zR (zo rfl ?_)))))))))
 refine zi rfl rfl rfl rfl rfl (zo rfl (zo rfl (zo rfl (zw (zR (zo rfl (zo rfl (zi rfl rfl rfl rfl rfl (zo rfl ?_)))))))))
 refine zo rfl (zw (zR (zo rfl (zo rfl (zo rfl (zc rfl (ok56 (gt l i) (hs i hi)) (zo rfl (zw (zn rfl (by simp) ?_)))))))))
 exact Sat.skip (nb (nq (zr (za rfl (zo rfl (wn (ns trivial (zv rfl rfl rfl rfl))))))))
 refine zR (zo rfl (zw (zq (zn rfl (by simp) (Sat.exit (xq (xe (nq (zR (zo rfl ?_))))))))))
 exact zw (Sat.ret (ze rfl rfl))
theorem ok60 (l : List (List Stp)) (hl : l.length ≤ 100000) (hs : ∀ i : Nat, i < l.length → (gt l i).length ≤ 100000) : Ok Tryz.prog 60 [.sl (l.map slC), .sl (l.map slC)] (.bool true) := by
 refine zz 8 Tryz.func60 rfl Tryz.call60 rfl (zR (zo rfl (zw (zR (zo rfl (zo rfl (zc rfl (ok114 l hl hs) (zo rfl (zw (Sat.ret ?_))))))))))
 exact ze rfl rfl
structure Clm where
  secs : List (List Stp)
  a : Int
  b : Int
  sq : Int
def Clm.c (c : Clm) : List V := [.sl (c.secs.map slC), vi c.a, vi c.b, vi c.sq]
def Clm.none (c : Clm) : Bool := c.a == -1 && c.b == -1 && c.sq == -1
theorem ok61 (c : Clm) : Ok Tryz.prog 61 [.ag c.c] (.bool c.none) := by
 unfold Clm.none
 refine zz 16 Tryz.func61 rfl Tryz.call61 rfl (zR (zo rfl (zo rfl (zw (zR (zo rfl (zo rfl (zo rfl (zo rfl ?_)))))))))
 refine zT rfl (fun h1 => ?_) (fun h1 => ?_)
 refine zO (fun _ => rfl) (zh rfl h1 rfl (zh rfl h1 rfl (zp rfl h1 rfl (zo rfl (zT rfl (fun h2 => ?_) (fun h2 => ?_))))))
 exact zO (fun _ => rfl) (zh rfl h2 rfl (zh rfl h2 rfl (zp rfl h2 rfl (zo rfl (zw (Sat.ret (zg rfl)))))))
 exact zt rfl h2 (zt rfl h2 (zP rfl h2 rfl (zo rfl (zw (Sat.ret (zg rfl))))))
 refine zt rfl h1 (zt rfl h1 (zP rfl h1 rfl (zo rfl (zt rfl rfl (zt rfl rfl (zt rfl rfl (zP rfl rfl rfl (zo rfl (zw (Sat.ret ?_))))))))))
 exact zg rfl
theorem ok113 (l : List Stp) (h : stepsOk l = true) : Ok Tryz.prog 113 [.sl (l.map Stp.c)] (.bool false) := by
 refine zz 6 Tryz.func113 rfl Tryz.call113 rfl (zR (zo rfl (zw (zR (zo rfl (zc rfl (ok90 l h) (zo rfl (zo rfl (zw (Sat.ret ?_))))))))))
 exact ze rfl rfl
theorem ok59 (c : Clm) (hl : c.secs.length ≤ 20) (hs : ∀ i : Nat, i < c.secs.length → stepsOk (gt c.secs i) = true) (hc : c.none = true ∨ (c.none = false ∧ 0 ≤ c.a ∧ c.a < c.b ∧ c.b < 2000 ∧ 0 ≤ c.sq ∧ c.sq ≤ 1125899906842624)) : Ok Tryz.prog 59 [.ag c.c] (.bool true) := by
 have hF : findN c.secs.length (fun _ => false) = -1 := findN_none fun _ _ => rfl
 refine zz 41 Tryz.func59 rfl Tryz.call59 rfl (zR (zo rfl (zo rfl (zw (zq (zR (zo rfl (zo rfl (zo rfl ?_)))))))))
 refine zo rfl (zo rfl (zF rfl (fun h1 => ?_) (fun h1 => ?_)))
 refine zO (fun _ => rfl) (zh rfl h1 rfl (step_sil (sil_on rfl h1 (sil_call rfl rfl (fun _ => rfl) (fun _ => rfl) (ok112_0 c.secs (by omega) 113 (fun _ => false) (fun i hi => ok113 _ (hs i hi))) ?_))))
 refine zP rfl h1 rfl (zw (zC rfl (fun h2 => ?_) (fun h2 => ?_)))
 exact zR (zo rfl (zw (Sat.ret (rq (ze rfl (by rcases hc with hc | hc <;> first | rfl | (exfalso; simp_all; done) | (exfalso; simp_all; omega) | exact vb (decide_eq_true (by omega)) | exact vb (by assumption)))))))
 refine zk (zR (zo rfl (zc rfl (ok61 c) (zo rfl (zF rfl (fun h3 => ?_) (fun h3 => ?_))))))
 refine zO (fun _ => rfl) (zh rfl h3 rfl (zh rfl h3 rfl (zh rfl h3 rfl (zT rfl (fun h4 => ?_) (fun h4 => ?_)))))
 refine zO (fun _ => rfl) (zh rfl h4 rfl (zh rfl h4 rfl (zh rfl h4 rfl (zh rfl h4 rfl (step_sil (sil_on rfl h3 (sil_pick (want := true) rfl rfl h4 rfl ?_)))))))
 refine zh rfl h3 rfl (zT rfl (fun h5 => ?_) (fun h5 => ?_))
 refine zO (fun _ => rfl) (zh rfl h5 rfl (zh rfl h5 rfl (step_sil (sil_on rfl h3 (sil_pick (want := true) rfl rfl h5 rfl ?_)))))
 refine zh rfl h3 rfl (zT rfl (fun h6 => ?_) (fun h6 => ?_))
 refine zO (fun _ => rfl) (zh rfl h6 rfl (zh rfl h6 rfl (step_sil (sil_on rfl h3 (sil_pick (want := true) rfl rfl h6 rfl ?_)))))
 refine zh rfl h3 rfl (zT rfl (fun h7 => ?_) (fun h7 => ?_))
 refine zO (fun _ => rfl) (zh rfl h7 rfl (zh rfl h7 rfl (step_sil (sil_on rfl h3 (sil_pick (want := true) rfl rfl h7 rfl ?_)))))
 exact zP rfl h3 rfl (zo rfl (zw (Sat.ret (ze rfl (by rcases hc with hc | hc <;> first | rfl | (exfalso; simp_all; done) | (exfalso; simp_all; omega) | exact vb (decide_eq_true (by omega)) | exact vb (by assumption))))))
 refine zt rfl h7 (zt rfl h7 (step_sil (sil_on rfl h3 (sil_pick (want := false) rfl rfl h7 rfl ?_))))
 exact zP rfl h3 rfl (zo rfl (zw (Sat.ret (ze rfl (by rcases hc with hc | hc <;> first | rfl | (exfalso; simp_all; done) | (exfalso; simp_all; omega) | exact vb (decide_eq_true (by omega)) | exact vb (by assumption))))))
 refine zt rfl h6 (zt rfl h6 (step_sil (sil_on rfl h3 (sil_pick (want := false) rfl rfl h6 rfl ?_))))
 refine zh rfl h3 rfl (zt rfl rfl (zt rfl rfl (zt rfl rfl (step_sil (sil_on rfl h3 (sil_pick (want := false) rfl rfl rfl rfl ?_))))))
 exact zP rfl h3 rfl (zo rfl (zw (Sat.ret (ze rfl (by rcases hc with hc | hc <;> first | rfl | (exfalso; simp_all; done) | (exfalso; simp_all; omega) | exact vb (decide_eq_true (by omega)) | exact vb (by assumption))))))
 refine zt rfl h5 (zt rfl h5 (step_sil (sil_on rfl h3 (sil_pick (want := false) rfl rfl h5 rfl ?_))))
 refine zh rfl h3 rfl (zt rfl rfl (zt rfl rfl (zt rfl rfl (step_sil (sil_on rfl h3 (sil_pick (want := false) rfl rfl rfl rfl ?_))))))
 refine zh rfl h3 rfl (zt rfl rfl (zt rfl rfl (zt rfl rfl (step_sil (sil_on rfl h3 (sil_pick (want := false) rfl rfl rfl rfl ?_))))))
 exact zP rfl h3 rfl (zo rfl (zw (Sat.ret (ze rfl (by rcases hc with hc | hc <;> first | rfl | (exfalso; simp_all; done) | (exfalso; simp_all; omega) | exact vb (decide_eq_true (by omega)) | exact vb (by assumption))))))
 refine zt rfl h4 (zt rfl h4 (zt rfl h4 (zt rfl h4 (step_sil (sil_on rfl h3 (sil_pick (want := false) rfl rfl h4 rfl ?_))))))
 refine zh rfl h3 rfl (zt rfl rfl (zt rfl rfl (zt rfl rfl (step_sil (sil_on rfl h3 (sil_pick (want := false) rfl rfl rfl rfl ?_))))))
 refine zh rfl h3 rfl (zt rfl rfl (zt rfl rfl (zt rfl rfl (step_sil (sil_on rfl h3 (sil_pick (want := false) rfl rfl rfl rfl ?_))))))
 refine zh rfl h3 rfl (zt rfl rfl (zt rfl rfl (zt rfl rfl (step_sil (sil_on rfl h3 (sil_pick (want := false) rfl rfl rfl rfl ?_))))))
 exact zP rfl h3 rfl (zo rfl (zw (Sat.ret (ze rfl (by rcases hc with hc | hc <;> first | rfl | (exfalso; simp_all; done) | (exfalso; simp_all; omega) | exact vb (decide_eq_true (by omega)) | exact vb (by assumption))))))
 refine zf rfl h3 (zf rfl h3 (zf rfl h3 (zu rfl (zu rfl (zu rfl (zu rfl (zu rfl (zf rfl h3 (zf rfl h3 ?_)))))))))
 refine zu rfl (zu rfl (zu rfl (zf rfl h3 (zf rfl h3 (zu rfl (zu rfl (zu rfl (zf rfl h3 (zf rfl h3 ?_)))))))))
 exact zu rfl (zu rfl (zu rfl (zf rfl h3 (zp rfl h3 rfl (zo rfl (zw (Sat.ret (ze rfl (by rcases hc with hc | hc <;> first | rfl | (exfalso; simp_all; done) | (exfalso; simp_all; omega) | exact vb (decide_eq_true (by omega)) | exact vb (by assumption))))))))))
 refine zf rfl h1 (zf rfl h1 (zp rfl h1 rfl (zw (zy rfl rfl (zR (zo rfl (zw (Sat.ret (rq ?_)))))))))
 exact ze rfl (by rcases hc with hc | hc <;> first | rfl | (exfalso; simp_all; done) | (exfalso; simp_all; omega) | exact vb (decide_eq_true (by omega)) | exact vb (by assumption))
def nrA (a b : Bx) (k : Int) : Int := if a.hi k < b.lo k then a.hi k else if b.hi k < a.lo k then a.lo k else mx (a.lo k) (b.lo k)
def nrB (a b : Bx) (k : Int) : Int := if a.hi k < b.lo k then b.lo k else if b.hi k < a.lo k then b.hi k else mx (a.lo k) (b.lo k)
def nrP (a b : Bx) : Pt := ⟨nrA a b 0, nrA a b 1, nrA a b 2⟩
def nrQ (a b : Bx) : Pt := ⟨nrB a b 0, nrB a b 1, nrB a b 2⟩
theorem mx_max (a b : Int) : (if b > a then b else a) = mx a b := rfl
theorem ok213 (a b c : Int) : Ok Tryz.prog 213 [.ag [vi a, vi b, vi c]] (.ag [vi a, vi b, vi c]) := by
 refine zz 10 Tryz.func213 rfl Tryz.call213 rfl (zR (zo rfl (zo rfl (zw (zR (zo rfl (zo rfl (zo rfl (zo rfl ?_)))))))))
 exact zo rfl (zo rfl (zo rfl (zd rfl rfl (zw (Sat.ret (ze rfl rfl))))))
theorem nr1 {a b : Bx} {k : Int} (h : decide (a.hi k < b.lo k) = true) : a.hi k = nrA a b k ∧ b.lo k = nrB a b k := by
 have h := of_decide_eq_true h
 exact ⟨(if_pos h).symm, (if_pos h).symm⟩
theorem nr2 {a b : Bx} {k : Int} (h : decide (a.hi k < b.lo k) = false) (h2 : decide (b.hi k < a.lo k) = true) : a.lo k = nrA a b k ∧ b.hi k = nrB a b k := by
 have h := of_decide_eq_false h
 have h2 := of_decide_eq_true h2
 exact ⟨((if_neg h).trans (if_pos h2)).symm, ((if_neg h).trans (if_pos h2)).symm⟩
theorem nr3 {a b : Bx} {k : Int} (h : decide (a.hi k < b.lo k) = false) (h2 : decide (b.hi k < a.lo k) = false) : mx (a.lo k) (b.lo k) = nrA a b k ∧ mx (a.lo k) (b.lo k) = nrB a b k := by
 have h := of_decide_eq_false h
 have h2 := of_decide_eq_false h2
 exact ⟨((if_neg h).trans (if_neg h2)).symm, ((if_neg h).trans (if_neg h2)).symm⟩
theorem c3_eq {f : Store} {t : Nat} {z : Bool} {a b c a' b' c' : Int} (h : f t = some ⟨.cells [.v (vi a), .v (vi b), .v (vi c)], z⟩) (e1 : a = a') (e2 : b = b') (e3 : c = c') : f t = some ⟨.cells [.v (vi a'), .v (vi b'), .v (vi c')], z⟩ := by subst e1; subst e2; subst e3; exact h
def nrD (f : Int → Int) (n : Int) : List D := [.v (vi (if 0 < n then f 0 else 0)), .v (vi (if 1 < n then f 1 else 0)), .v (vi (if 2 < n then f 2 else 0))]
theorem ok166 (a b : Bx) (ha : boxOk a = true) (hb : boxOk b = true) : Ok Tryz.prog 166 [.ag a.c, .ag b.c] (.tp [.ag (nrP a b).c, .ag (nrQ a b).c, vi 0]) := by
 refine zz 74 Tryz.func166 rfl Tryz.call166 rfl (zR (zo rfl (zo rfl (zo rfl (zo rfl (zo rfl (zw (zq (zR (zo rfl ?_))))))))))
 refine zc rfl (ok48 a ha) (zo rfl (zo rfl (zF rfl (fun h1 => ?_) (fun h1 => ?_))))
 refine zO (fun _ => rfl) (step_sil (sil_on rfl h1 (sil_call rfl rfl (fun _ => rfl) (fun _ => rfl) (ok48 b hb) ?_)))
 refine zh rfl h1 rfl (zP rfl h1 rfl (zw (zC rfl (fun h2 => ?_) (fun h2 => ?_))))
 exact zR (zo rfl (zo rfl (zd rfl rfl (zd rfl rfl (zo rfl (zw (Sat.ret (rq (ze rfl (by first | rfl | (exfalso; simp_all; done)))))))))))
 refine zk (zR (zo rfl (zo rfl (zw (zq (zR (zo rfl (zw (Sat.loop' (fun _ => True) (fun i => ⟨74, lk [(2, .ptr 2 0), (3, .ptr 3 0), (4, .ptr 4 0), (5, .ptr 5 0), (7, .ptr 7 0), (8, .ptr 8 0), (24, .v (vi i))], lk [(2, ⟨.cells (a.c.map .v), false⟩), (3, ⟨.cells (b.c.map .v), false⟩), (4, ⟨.cells [.v (vi 0), .v (vi 0), .v (vi 0)], false⟩), (5, ⟨.cells [.v (vi 0), .v (vi 0), .v (vi 0)], false⟩), (7, ⟨.cells (nrD (nrA a b) i), false⟩), (8, ⟨.cells (nrD (nrB a b) i), false⟩)]⟩) (3) ?_ (trivial) (fun i hi hI => ?_) (fun hI => ?_))))))))))
 exact zv rfl rfl rfl rfl
 have hcs : i = 0 ∨ i = 1 ∨ i = 2 := by omega
 rcases hcs with rfl | rfl | rfl
 refine zR (zo rfl (zw (zq (zy rfl (by rfl) (zk (zq (zb rfl (zR (zo rfl ?_)))))))))
 refine zo rfl (zw (zR (zo rfl (zo rfl (zc rfl (ok101 _ _ (by omega) (by omega)) (zo rfl (zo rfl (zo rfl (zo rfl ?_)))))))))
 refine zo rfl (zw (zR (zo rfl (zo rfl (zc rfl (ok101 _ _ (by omega) (by omega)) (zo rfl (zo rfl (zo rfl (zo rfl ?_)))))))))
 refine zo rfl (zw (zb rfl (zR (zo rfl (zo rfl (zo rfl (zo rfl (zw (zC rfl (fun h3 => ?_) (fun h3 => ?_))))))))))
 refine zr (zo rfl (zo rfl (zo rfl (zo rfl (zo rfl (zd rfl rfl (zo rfl (zd rfl rfl (wn (nb ?_))))))))))
 refine nb (nq ?_)
 first | have hr := nr1 h3 | have hr := nr1 h5 | have hr := nr1 h7 | have hr := nr2 h3 h4 | have hr := nr2 h5 h6 | have hr := nr2 h7 h8 | have hr := nr3 h3 h4 | have hr := nr3 h5 h6 | have hr := nr3 h7 h8
 exact zr (za rfl (zo rfl (wn (ns trivial (weak_of ⟨rfl, rfl, rfl, rfl, rfl, rfl, rfl, trivial⟩ ⟨rfl, rfl, rfl, rfl, c3_eq rfl (by first | rfl | exact hr.1) (by first | rfl | exact hr.1) (by first | rfl | exact hr.1), c3_eq rfl (by first | rfl | exact hr.2) (by first | rfl | exact hr.2) (by first | rfl | exact hr.2), trivial⟩ rfl rfl)))))
 refine zR (zo rfl (zo rfl (zo rfl (zo rfl (zw (zC rfl (fun h4 => ?_) (fun h4 => ?_)))))))
 refine zr (zo rfl (zo rfl (zo rfl (zo rfl (zo rfl (zd rfl rfl (zo rfl (zd rfl rfl (wn (nb ?_))))))))))
 refine nb (nq ?_)
 first | have hr := nr1 h3 | have hr := nr1 h5 | have hr := nr1 h7 | have hr := nr2 h3 h4 | have hr := nr2 h5 h6 | have hr := nr2 h7 h8 | have hr := nr3 h3 h4 | have hr := nr3 h5 h6 | have hr := nr3 h7 h8
 exact zr (za rfl (zo rfl (wn (ns trivial (weak_of ⟨rfl, rfl, rfl, rfl, rfl, rfl, rfl, trivial⟩ ⟨rfl, rfl, rfl, rfl, c3_eq rfl (by first | rfl | exact hr.1) (by first | rfl | exact hr.1) (by first | rfl | exact hr.1), c3_eq rfl (by first | rfl | exact hr.2) (by first | rfl | exact hr.2) (by first | rfl | exact hr.2), trivial⟩ rfl rfl)))))
 refine zr (zo rfl (zo rfl (zo rfl (zo rfl (zo rfl (zo rfl (zo rfl (zo rfl (zo rfl ?_)))))))))
 refine zd rfl rfl (zo rfl (zd rfl rfl (wn (nb (nb (nq ?_))))))
 first | have hr := nr1 h3 | have hr := nr1 h5 | have hr := nr1 h7 | have hr := nr2 h3 h4 | have hr := nr2 h5 h6 | have hr := nr2 h7 h8 | have hr := nr3 h3 h4 | have hr := nr3 h5 h6 | have hr := nr3 h7 h8
 exact zr (za rfl (zo rfl (wn (ns trivial (weak_of ⟨rfl, rfl, rfl, rfl, rfl, rfl, rfl, trivial⟩ ⟨rfl, rfl, rfl, rfl, c3_eq rfl (by first | rfl | exact hr.1) (by first | rfl | exact hr.1) (by first | rfl | exact hr.1), c3_eq rfl (by first | rfl | exact hr.2) (by first | rfl | exact hr.2) (by first | rfl | exact hr.2), trivial⟩ rfl rfl)))))
 refine zR (zo rfl (zw (zq (zy rfl (by rfl) (zk (zq (zb rfl (zR (zo rfl ?_)))))))))
 refine zo rfl (zw (zR (zo rfl (zo rfl (zc rfl (ok101 _ _ (by omega) (by omega)) (zo rfl (zo rfl (zo rfl (zo rfl ?_)))))))))
 refine zo rfl (zw (zR (zo rfl (zo rfl (zc rfl (ok101 _ _ (by omega) (by omega)) (zo rfl (zo rfl (zo rfl (zo rfl ?_)))))))))
 refine zo rfl (zw (zb rfl (zR (zo rfl (zo rfl (zo rfl (zo rfl (zw (zC rfl (fun h5 => ?_) (fun h5 => ?_))))))))))
 refine zr (zo rfl (zo rfl (zo rfl (zo rfl (zo rfl (zd rfl rfl (zo rfl (zd rfl rfl (wn (nb ?_))))))))))
 refine nb (nq ?_)
 first | have hr := nr1 h3 | have hr := nr1 h5 | have hr := nr1 h7 | have hr := nr2 h3 h4 | have hr := nr2 h5 h6 | have hr := nr2 h7 h8 | have hr := nr3 h3 h4 | have hr := nr3 h5 h6 | have hr := nr3 h7 h8
 exact zr (za rfl (zo rfl (wn (ns trivial (weak_of ⟨rfl, rfl, rfl, rfl, rfl, rfl, rfl, trivial⟩ ⟨rfl, rfl, rfl, rfl, c3_eq rfl (by first | rfl | exact hr.1) (by first | rfl | exact hr.1) (by first | rfl | exact hr.1), c3_eq rfl (by first | rfl | exact hr.2) (by first | rfl | exact hr.2) (by first | rfl | exact hr.2), trivial⟩ rfl rfl)))))
 refine zR (zo rfl (zo rfl (zo rfl (zo rfl (zw (zC rfl (fun h6 => ?_) (fun h6 => ?_)))))))
 refine zr (zo rfl (zo rfl (zo rfl (zo rfl (zo rfl (zd rfl rfl (zo rfl (zd rfl rfl (wn (nb ?_))))))))))
 refine nb (nq ?_)
 first | have hr := nr1 h3 | have hr := nr1 h5 | have hr := nr1 h7 | have hr := nr2 h3 h4 | have hr := nr2 h5 h6 | have hr := nr2 h7 h8 | have hr := nr3 h3 h4 | have hr := nr3 h5 h6 | have hr := nr3 h7 h8
 exact zr (za rfl (zo rfl (wn (ns trivial (weak_of ⟨rfl, rfl, rfl, rfl, rfl, rfl, rfl, trivial⟩ ⟨rfl, rfl, rfl, rfl, c3_eq rfl (by first | rfl | exact hr.1) (by first | rfl | exact hr.1) (by first | rfl | exact hr.1), c3_eq rfl (by first | rfl | exact hr.2) (by first | rfl | exact hr.2) (by first | rfl | exact hr.2), trivial⟩ rfl rfl)))))
 refine zr (zo rfl (zo rfl (zo rfl (zo rfl (zo rfl (zo rfl (zo rfl (zo rfl (zo rfl ?_)))))))))
 refine zd rfl rfl (zo rfl (zd rfl rfl (wn (nb (nb (nq ?_))))))
 first | have hr := nr1 h3 | have hr := nr1 h5 | have hr := nr1 h7 | have hr := nr2 h3 h4 | have hr := nr2 h5 h6 | have hr := nr2 h7 h8 | have hr := nr3 h3 h4 | have hr := nr3 h5 h6 | have hr := nr3 h7 h8
 exact zr (za rfl (zo rfl (wn (ns trivial (weak_of ⟨rfl, rfl, rfl, rfl, rfl, rfl, rfl, trivial⟩ ⟨rfl, rfl, rfl, rfl, c3_eq rfl (by first | rfl | exact hr.1) (by first | rfl | exact hr.1) (by first | rfl | exact hr.1), c3_eq rfl (by first | rfl | exact hr.2) (by first | rfl | exact hr.2) (by first | rfl | exact hr.2), trivial⟩ rfl rfl)))))
 refine zR (zo rfl (zw (zq (zy rfl (by rfl) (zk (zq (zb rfl (zR (zo rfl ?_)))))))))
 refine zo rfl (zw (zR (zo rfl (zo rfl (zc rfl (ok101 _ _ (by omega) (by omega)) (zo rfl (zo rfl (zo rfl (zo rfl ?_)))))))))
 refine zo rfl (zw (zR (zo rfl (zo rfl (zc rfl (ok101 _ _ (by omega) (by omega)) (zo rfl (zo rfl (zo rfl (zo rfl ?_)))))))))
 refine zo rfl (zw (zb rfl (zR (zo rfl (zo rfl (zo rfl (zo rfl (zw (zC rfl (fun h7 => ?_) (fun h7 => ?_))))))))))
 refine zr (zo rfl (zo rfl (zo rfl (zo rfl (zo rfl (zd rfl rfl (zo rfl (zd rfl rfl (wn (nb ?_))))))))))
 refine nb (nq ?_)
 first | have hr := nr1 h3 | have hr := nr1 h5 | have hr := nr1 h7 | have hr := nr2 h3 h4 | have hr := nr2 h5 h6 | have hr := nr2 h7 h8 | have hr := nr3 h3 h4 | have hr := nr3 h5 h6 | have hr := nr3 h7 h8
 exact zr (za rfl (zo rfl (wn (ns trivial (weak_of ⟨rfl, rfl, rfl, rfl, rfl, rfl, rfl, trivial⟩ ⟨rfl, rfl, rfl, rfl, c3_eq rfl (by first | rfl | exact hr.1) (by first | rfl | exact hr.1) (by first | rfl | exact hr.1), c3_eq rfl (by first | rfl | exact hr.2) (by first | rfl | exact hr.2) (by first | rfl | exact hr.2), trivial⟩ rfl rfl)))))
 refine zR (zo rfl (zo rfl (zo rfl (zo rfl (zw (zC rfl (fun h8 => ?_) (fun h8 => ?_)))))))
 refine zr (zo rfl (zo rfl (zo rfl (zo rfl (zo rfl (zd rfl rfl (zo rfl (zd rfl rfl (wn (nb ?_))))))))))
 refine nb (nq ?_)
 first | have hr := nr1 h3 | have hr := nr1 h5 | have hr := nr1 h7 | have hr := nr2 h3 h4 | have hr := nr2 h5 h6 | have hr := nr2 h7 h8 | have hr := nr3 h3 h4 | have hr := nr3 h5 h6 | have hr := nr3 h7 h8
 exact zr (za rfl (zo rfl (wn (ns trivial (weak_of ⟨rfl, rfl, rfl, rfl, rfl, rfl, rfl, trivial⟩ ⟨rfl, rfl, rfl, rfl, c3_eq rfl (by first | rfl | exact hr.1) (by first | rfl | exact hr.1) (by first | rfl | exact hr.1), c3_eq rfl (by first | rfl | exact hr.2) (by first | rfl | exact hr.2) (by first | rfl | exact hr.2), trivial⟩ rfl rfl)))))
 refine zr (zo rfl (zo rfl (zo rfl (zo rfl (zo rfl (zo rfl (zo rfl (zo rfl (zo rfl ?_)))))))))
 refine zd rfl rfl (zo rfl (zd rfl rfl (wn (nb (nb (nq ?_))))))
 first | have hr := nr1 h3 | have hr := nr1 h5 | have hr := nr1 h7 | have hr := nr2 h3 h4 | have hr := nr2 h5 h6 | have hr := nr2 h7 h8 | have hr := nr3 h3 h4 | have hr := nr3 h5 h6 | have hr := nr3 h7 h8
 exact zr (za rfl (zo rfl (wn (ns trivial (weak_of ⟨rfl, rfl, rfl, rfl, rfl, rfl, rfl, trivial⟩ ⟨rfl, rfl, rfl, rfl, c3_eq rfl (by first | rfl | exact hr.1) (by first | rfl | exact hr.1) (by first | rfl | exact hr.1), c3_eq rfl (by first | rfl | exact hr.2) (by first | rfl | exact hr.2) (by first | rfl | exact hr.2), trivial⟩ rfl rfl)))))
 refine zR (zo rfl (zw (zq (zn rfl (by rfl) (Sat.exit (xq (xe (nq (zq (Sat.dwN tabOk mixed [7, 8] [4, 5] [0, 1, 2, 3, 4, 5, 6] (by decide) (by kernel_rfl) ?_))))))))))
 refine walk_sil rfl rfl (zO (fun _ => rfl) ?_)
 refine walk_sil rfl rfl (sil_call rfl rfl (fun _ => rfl) (fun _ => rfl) (ok213 _ _ _) ?_)
 refine walk_sil rfl rfl (zO (fun _ => rfl) ?_)
 refine walk_sil rfl rfl (sil_call rfl rfl (fun _ => rfl) (fun _ => rfl) (ok213 _ _ _) ?_)
 refine walk_eff rfl rfl (step_do rfl rfl ⟨fun _ => ovr_eq ⟨rfl, rfl, trivial⟩, ?_⟩)
 refine walk_eff rfl rfl (step_do rfl rfl ⟨fun _ => ovr_eq ⟨rfl, rfl, trivial⟩, ?_⟩)
 refine walk_sil rfl rfl (zO (fun _ => rfl) ?_)
 exact kn (nq (Sat.ret (ze rfl (by first | rfl | (exfalso; simp_all; done)))))
 refine zf rfl h1 (zf rfl h1 (zp rfl h1 rfl (zw (zy rfl rfl (zR (zo rfl (zo rfl (zd rfl rfl (zd rfl rfl ?_)))))))))
 exact zo rfl (zw (Sat.ret (rq (ze rfl (by first | rfl | (exfalso; simp_all; done))))))
end Go.Proofs.YtamjajacnfmgeaaGreat
namespace Go.Proofs.YtamjajacnfmgeaaGreat
open Go Go.RowKit
set_option maxHeartbeats 1000000
def bxC (l : List Bx) : List V := [.sl (l.map Bx.c)]
def spB (x : Det) : List (List Bx) := (List.range (total x.runs).toNat).map fun k : Nat => legO x k
def mkS (bars : List Bar) : Nat → List (ByteArray × Int)
  | 0 => []
  | n + 1 => putS (gt bars n).mark (gt bars n).size (mkS bars n)
def spD (x : Det) : List Int := (List.range (total x.runs).toNat).map fun k : Nat => getS (runAt x.runs k).mark (mkS x.bars x.bars.length)
def spC (x : Det) : V := .cp [.sl ((spB x).map bxC), .sl ((spD x).map ic)] 0
theorem spB_take {x : Det} {i : Nat} (h : (i : Int) < total x.runs) : ((spB x).take i).map bxC ++ [bxC (legO x i)] = ((spB x).take (i + 1)).map bxC := by
 have e : i < (spB x).length := by simp [spB]; omega
 rw [take_snoc e, List.map_append, List.map_singleton]
 congr 3
 exact (rangeM_gt (f := fun k : Nat => legO x k) (n := (total x.runs).toNat) (k := (i : Int)) (by omega) (by omega)).symm
theorem spD_take {x : Det} {i : Nat} (h : (i : Int) < total x.runs) : ((spD x).take i).map ic ++ [ic (getS (runAt x.runs i).mark (mkS x.bars x.bars.length))] = ((spD x).take (i + 1)).map ic := by
 have e : i < (spD x).length := by simp [spD]; omega
 rw [take_snoc e, List.map_append, List.map_singleton]
 congr 3
 exact (rangeM_gt (f := fun k : Nat => getS (runAt x.runs k).mark (mkS x.bars x.bars.length)) (n := (total x.runs).toNat) (k := (i : Int)) (by omega) (by omega)).symm
theorem spB_len (x : Det) : (spB x).length = (total x.runs).toNat := by simp [spB]
theorem spD_len (x : Det) : (spD x).length = (total x.runs).toNat := by simp [spD]
theorem ok107 (x : Det) (h : runsOk x.bars x.runs = true) : Ok Tryz.prog 107 [.sl (x.bars.map Bar.c), .sl (x.runs.map Run.c)] (.tp [spC x, vi 0]) := by
 have ht := total_le h
 have hb := (runsOk_parts h).1
 have hbl : x.bars.length ≤ 100000 := by simp only [barsOk, Bool.and_eq_true, Bool.not_eq_true', decide_eq_false_iff_not] at hb; omega
 unfold spC
 refine zz 88 Tryz.func107 rfl Tryz.call107 rfl (zR (zo rfl (zo rfl (zw (zR (zo rfl (zo rfl (zc rfl (ok62 x.bars x.runs h) (zo rfl ?_)))))))))
 refine zo rfl (zo rfl (zo rfl (zo rfl (zw (zq (zR (zo rfl (zo rfl (zw (zn rfl (rfl) ?_))))))))))
 refine zk (zR (zo rfl (zo rfl (zw (zq (zR (zo rfl (zo rfl (zo rfl ?_)))))))))
 refine zw (Sat.loop' (fun _ => True) (fun i => ⟨88, lk [(0, .v (.sl (x.bars.map Bar.c))), (1, .v (.sl (x.runs.map Run.c))), (6, .v (vi (total x.runs))), (8, .omap 25), (26, .v (.sl (x.bars.map Bar.c))), (27, .v (vi (x.bars.map Bar.c).length)), (28, .v (vi i))], lk [(25, ⟨.mp ((mkS x.bars i).map eS), false⟩)]⟩) (x.bars.length) ?_ (trivial) (fun i hi hI => ?_) (fun hI => ?_))
 exact zv rfl rfl rfl rfl
 refine zR (zo rfl (zw (zq (zy rfl (by simp [hi]) (zk (zq (zb rfl (zR (zi rfl rfl rfl rfl rfl ?_)))))))))
 refine zo rfl (zo rfl (zd rfl rfl (zw (zr (zo rfl (zo rfl (zo rfl (zo rfl (zo rfl ?_)))))))))
 exact step_putS rfl rfl rfl rfl rfl (wn (nb (nq (zr (za rfl (zo rfl (wn (ns trivial (zv rfl rfl rfl rfl)))))))))
 refine zR (zo rfl (zw (zq (zn rfl (by simp) (Sat.exit (xq (xe (nq (zR (zo rfl ?_))))))))))
 refine zo rfl (zo rfl (zw (zq (zR (zo rfl (zo rfl (zw (Sat.loop' (fun _ => True) (fun i => ⟨88, lk [(0, .v (.sl (x.bars.map Bar.c))), (1, .v (.sl (x.runs.map Run.c))), (6, .v (vi (total x.runs))), (8, .omap 25), (11, .ptr 39 0), (40, .v (vi (total x.runs))), (41, .v (vi i))], lkO [(25, some ⟨.mp ((mkS x.bars x.bars.length).map eS), false⟩), (39, some ⟨.cells [slD 72 1 (((spB x).take i).map bxC), slD 81 1 (((spD x).take i).map ic)], false⟩), (72, slS 1 (((spB x).take i).map bxC)), (81, slS 1 (((spD x).take i).map ic))]⟩) ((total x.runs).toNat) ?_ (trivial) (fun i hi hI => ?_) (fun hI => ?_)))))))))
 exact zV ⟨rfl, rfl, rfl, rfl, rfl, rfl, rfl, trivial⟩ ⟨so rfl, so rfl, soS rfl, soS rfl, trivial⟩
 refine zR (zo rfl (zw (zq (zy rfl (by simp; omega) (zk (zq (zb rfl (zR (zo rfl ?_)))))))))
 refine zo rfl (zw (zR (zo rfl (zo rfl (zo rfl (zc rfl (ok96 x.bars x.runs h i (by omega) (by omega)) (zo rfl (zo rfl (zo rfl ?_)))))))))
 refine zo rfl (zo rfl (zw (zq (zR (zo rfl (zo rfl (zw (zn rfl (rfl) (zk (zR (zo rfl ?_)))))))))))
 refine zo rfl (zo rfl (zc rfl (ok95 x.bars x.runs h i (by omega) (by omega)) (zo rfl (zo rfl (zo rfl (zo rfl (zo rfl (zw (zq (zR (zo rfl ?_)))))))))))
 refine zo rfl (zw (zn rfl (rfl) (zk (Sat.dl tabOk mixed [25, 39] (.sil 0 (.sil 1 (.sil 2 (.sil 3 (.sil 4 (.sil 5 (.sil 6 (.sil 9 (.sil 10 (.sil 11 (.sil 12 (.sil 13 (.sil 14 (.sil 15 (.two 7 16 (.two 8 16 (.one 16 (.one 17 (.sil 18 (.sil 19 (.one 20 (.sil 21 (.sil 22 (.one 23 (.done))))))))) (.one 8 (.one 17 (.sil 18 (.sil 19 (.one 20 (.sil 21 (.sil 22 (.one 23 (.done)))))))))) (.one 7 (.one 8 (.one 17 (.sil 18 (.sil 19 (.one 20 (.sil 21 (.sil 22 (.one 23 (.done))))))))))))))))))))))))) (⟨88, lk [(0, .v (.sl (x.bars.map Bar.c))), (1, .v (.sl (x.runs.map Run.c))), (6, .v (vi (total x.runs))), (8, .omap 25), (11, .ptr 39 0), (40, .v (vi (total x.runs))), (41, .v (vi i))], lkO [(25, some ⟨.mp ((mkS x.bars x.bars.length).map eS), false⟩), (39, some ⟨.cells [slD 72 1 (((spB x).take (i + 1)).map bxC), slD 81 1 (((spD x).take (i + 1)).map ic)], false⟩), (72, slS 1 (((spB x).take (i + 1)).map bxC)), (81, slS 1 (((spD x).take (i + 1)).map ic))]⟩) (by decide) (by kernel_rfl) ?_ ?_))))
 refine l_sil rfl (zO (fun _ => rfl) ?_)
 refine l_sil rfl (zO (fun _ => rfl) ?_)
 refine l_sil rfl (zO (fun _ => rfl) ?_)
 refine l_sil rfl (zO (fun _ => rfl) ?_)
 refine l_sil rfl (zO (fun _ => rfl) ?_)
 refine l_sil rfl (zO (fun _ => rfl) ?_)
 refine l_sil rfl (zO (fun _ => rfl) ?_)
 refine l_sil rfl (zO (fun _ => rfl) ?_)
 refine l_sil rfl (zO (fun _ => rfl) ?_)
 refine l_sil rfl (zO (fun _ => rfl) ?_)
 refine l_sil rfl (zO (fun _ => rfl) ?_)
 refine l_sil rfl (zO (fun _ => rfl) ?_)
 refine l_sil rfl (zO (fun _ => rfl) ?_)
 refine l_sil rfl (sil_getS rfl rfl rfl rfl (fun _ => rfl) ?_)
 refine l_two ?_ ?_
 refine l_one rfl (step_op rfl rfl rfl ⟨fun _ => ovr_eq ⟨rfl, rfl, trivial⟩, ?_⟩)
 refine l_two ?_ ?_
 first | (refine l_one rfl (step_app1 rfl (by first | exact .inl rfl | (right; simp)) rfl rfl rfl rfl rfl rfl (by simp; omega) rfl ⟨fun _ => ovr_eq ⟨rfl, rfl, trivial⟩, ?_⟩)) | (refine l_one rfl (step_op rfl rfl rfl ⟨fun _ => ovr_eq ⟨rfl, rfl, trivial⟩, ?_⟩))
 refine l_one rfl (step_op rfl rfl rfl ⟨fun _ => ovr_eq ⟨rfl, rfl, trivial⟩, ?_⟩)
 first | (refine l_one rfl (step_app1 rfl (by first | exact .inl rfl | (right; simp)) rfl rfl rfl rfl rfl rfl (by simp; omega) rfl ⟨fun _ => ovr_eq ⟨rfl, rfl, trivial⟩, ?_⟩)) | (refine l_one rfl (step_op rfl rfl rfl ⟨fun _ => ovr_eq ⟨rfl, rfl, trivial⟩, ?_⟩))
 refine l_sil rfl (zO (fun _ => rfl) ?_)
 refine l_sil rfl (zO (fun _ => rfl) ?_)
 refine l_one rfl (step_stD rfl rfl rfl rfl rfl rfl ⟨late_no (by kernel_rfl), ?_⟩)
 refine l_sil rfl (zO (fun _ => rfl) ?_)
 refine l_sil rfl (zO (fun _ => rfl) ?_)
 refine l_one rfl (step_stD rfl rfl rfl rfl rfl rfl ⟨late_no (by kernel_rfl), ?_⟩)
 exact ln (zV ⟨rfl, rfl, rfl, rfl, rfl, rfl, rfl, trivial⟩ ⟨so rfl, soD2 rfl (spB_take (x := x) (i := i) (by omega)) (spD_take (x := x) (i := i) (by omega)), soA rfl (spB_take (x := x) (i := i) (by omega)), soA rfl (spD_take (x := x) (i := i) (by omega)), trivial⟩)
 refine l_one rfl (step_op rfl rfl rfl ⟨fun _ => ovr_eq ⟨rfl, rfl, trivial⟩, ?_⟩)
 first | (refine l_one rfl (step_app1 rfl (by first | exact .inl rfl | (right; simp)) rfl rfl rfl rfl rfl rfl (by simp; omega) rfl ⟨fun _ => ovr_eq ⟨rfl, rfl, trivial⟩, ?_⟩)) | (refine l_one rfl (step_op rfl rfl rfl ⟨fun _ => ovr_eq ⟨rfl, rfl, trivial⟩, ?_⟩))
 first | (refine l_one rfl (step_app1 rfl (by first | exact .inl rfl | (right; simp)) rfl rfl rfl rfl rfl rfl (by simp; omega) rfl ⟨fun _ => ovr_eq ⟨rfl, rfl, trivial⟩, ?_⟩)) | (refine l_one rfl (step_op rfl rfl rfl ⟨fun _ => ovr_eq ⟨rfl, rfl, trivial⟩, ?_⟩))
 refine l_sil rfl (zO (fun _ => rfl) ?_)
 refine l_sil rfl (zO (fun _ => rfl) ?_)
 refine l_one rfl (step_stD rfl rfl rfl rfl rfl rfl ⟨late_no (by kernel_rfl), ?_⟩)
 refine l_sil rfl (zO (fun _ => rfl) ?_)
 refine l_sil rfl (zO (fun _ => rfl) ?_)
 refine l_one rfl (step_stD rfl rfl rfl rfl rfl rfl ⟨late_no (by kernel_rfl), ?_⟩)
 exact ln (zV ⟨rfl, rfl, rfl, rfl, rfl, rfl, rfl, trivial⟩ ⟨so rfl, soD2 rfl (spB_take (x := x) (i := i) (by omega)) (spD_take (x := x) (i := i) (by omega)), soA rfl (spB_take (x := x) (i := i) (by omega)), soA rfl (spD_take (x := x) (i := i) (by omega)), trivial⟩)
 refine l_one rfl (step_op rfl rfl rfl ⟨fun _ => ovr_eq ⟨rfl, rfl, trivial⟩, ?_⟩)
 refine l_one rfl (step_op rfl rfl rfl ⟨fun _ => ovr_eq ⟨rfl, rfl, trivial⟩, ?_⟩)
 first | (refine l_one rfl (step_app1 rfl (by first | exact .inl rfl | (right; simp)) rfl rfl rfl rfl rfl rfl (by simp; omega) rfl ⟨fun _ => ovr_eq ⟨rfl, rfl, trivial⟩, ?_⟩)) | (refine l_one rfl (step_op rfl rfl rfl ⟨fun _ => ovr_eq ⟨rfl, rfl, trivial⟩, ?_⟩))
 first | (refine l_one rfl (step_app1 rfl (by first | exact .inl rfl | (right; simp)) rfl rfl rfl rfl rfl rfl (by simp; omega) rfl ⟨fun _ => ovr_eq ⟨rfl, rfl, trivial⟩, ?_⟩)) | (refine l_one rfl (step_op rfl rfl rfl ⟨fun _ => ovr_eq ⟨rfl, rfl, trivial⟩, ?_⟩))
 refine l_sil rfl (zO (fun _ => rfl) ?_)
 refine l_sil rfl (zO (fun _ => rfl) ?_)
 refine l_one rfl (step_stD rfl rfl rfl rfl rfl rfl ⟨late_no (by kernel_rfl), ?_⟩)
 refine l_sil rfl (zO (fun _ => rfl) ?_)
 refine l_sil rfl (zO (fun _ => rfl) ?_)
 refine l_one rfl (step_stD rfl rfl rfl rfl rfl rfl ⟨late_no (by kernel_rfl), ?_⟩)
 exact ln (zV ⟨rfl, rfl, rfl, rfl, rfl, rfl, rfl, trivial⟩ ⟨so rfl, soD2 rfl (spB_take (x := x) (i := i) (by omega)) (spD_take (x := x) (i := i) (by omega)), soA rfl (spB_take (x := x) (i := i) (by omega)), soA rfl (spD_take (x := x) (i := i) (by omega)), trivial⟩)
 exact nb (nq (zr (za rfl (zo rfl (wn (ns trivial (zV ⟨rfl, rfl, rfl, rfl, rfl, rfl, rfl, trivial⟩ ⟨so rfl, so rfl, soS rfl, soS rfl, trivial⟩)))))))
 refine zR (zo rfl (zw (zq (zn rfl (by simp; omega) (Sat.exit (xq (xe (nq (Sat.pub (t := 11) rfl (pub_cp2 rfl rfl rfl) ?_)))))))))
 rw [List.take_of_length_le (by rw [spB_len]; omega), List.take_of_length_le (by rw [spD_len]; omega)]
 exact zR (zo rfl (zo rfl (zo rfl (zw (Sat.ret (ze rfl rfl))))))
end Go.Proofs.YtamjajacnfmgeaaGreat
