/-
  Contracts: squares of the clash space, its nearest pair. Condition: valid in the reference.
-/
import Derived.Test.YtamjajacnfmgeaaGreatK39
set_option linter.all false
namespace Go.Proofs.YtamjajacnfmgeaaGreat
open Go Go.RowKit
set_option maxHeartbeats 1000000
structure SqS where
  m : Int
  p : Pt
  q : Pt
def sqStep (a b : Bx) (s : SqS) : SqS := if s.m < 0 ∨ sqB a b < s.m then ⟨sqB a b, nrP a b, nrQ a b⟩ else s
def sqI (a : Bx) (M : List Bx) (s : SqS) : Nat → SqS
  | 0 => s
  | n + 1 => sqStep a (gt M n) (sqI a M s n)
def sqO (L M : List Bx) : Nat → SqS
  | 0 => ⟨-1, ⟨0, 0, 0⟩, ⟨0, 0, 0⟩⟩
  | n + 1 => sqI (gt L n) M (sqO L M n) M.length
def sqr (x : Det) (a b : Int) : SqS := sqO (legO x a) (legO x b) (legO x a).length
theorem sq_t1 {a : Bx} {M : List Bx} {s : SqS} {n : Nat} (h : decide ((sqI a M s n).m < 0) = true) : sqB a (gt M n) = (sqI a M s (n + 1)).m ∧ nrP a (gt M n) = (sqI a M s (n + 1)).p ∧ nrQ a (gt M n) = (sqI a M s (n + 1)).q := by
 have h := of_decide_eq_true h
 simp only [sqI, sqStep, if_pos (Or.inl h), and_self]
theorem sq_t2 {a : Bx} {M : List Bx} {s : SqS} {n : Nat} (h : decide (sqB a (gt M n) < (sqI a M s n).m) = true) : sqB a (gt M n) = (sqI a M s (n + 1)).m ∧ nrP a (gt M n) = (sqI a M s (n + 1)).p ∧ nrQ a (gt M n) = (sqI a M s (n + 1)).q := by
 have h := of_decide_eq_true h
 simp only [sqI, sqStep, if_pos (Or.inr h), and_self]
theorem sq_f {a : Bx} {M : List Bx} {s : SqS} {n : Nat} (h : decide ((sqI a M s n).m < 0) = false) (h2 : decide (sqB a (gt M n) < (sqI a M s n).m) = false) : (sqI a M s n).m = (sqI a M s (n + 1)).m ∧ (sqI a M s n).p = (sqI a M s (n + 1)).p ∧ (sqI a M s n).q = (sqI a M s (n + 1)).q := by
 have h := of_decide_eq_false h
 have h2 := of_decide_eq_false h2
 simp only [sqI, sqStep, if_neg (not_or.2 ⟨h, h2⟩), and_self]
theorem sq_x {a : Bx} {M : List Bx} {s : SqS} {n : Nat} (h : ((0 : Int) == 0) = false) : (sqI a M s n).m = (sqI a M s (n + 1)).m ∧ (sqI a M s n).p = (sqI a M s (n + 1)).p ∧ (sqI a M s n).q = (sqI a M s (n + 1)).q := absurd h (by decide)
theorem pt_eq {f : Store} {t : Nat} {p q : Pt} {z : Bool} (e : p = q) (h : f t = some ⟨.cells (p.c.map .v), z⟩) : f t = some ⟨.cells (q.c.map .v), z⟩ := e ▸ h
theorem sp_at {x : Det} {a : Int} (h0 : 0 ≤ a) (h1 : a < total x.runs) : gt (spB x) a = legO x a := by
 have := rangeM_gt (f := fun k : Nat => legO x k) (n := (total x.runs).toNat) (k := a) h0 (by omega)
 rw [spB, this, show ((a.toNat : Nat) : Int) = a by omega]
theorem sp_idx {x : Det} {a : Int} (h0 : 0 ≤ a) (h1 : a < total x.runs) : ((spB x).map bxC)[a.toNat]? = some (bxC (legO x a)) := by
 rw [← sp_at h0 h1]; exact gt_idx h0 (by rw [spB_len]; omega)
theorem legO_len (x : Det) (n : Int) : 1 ≤ (legO x n).length ∧ (legO x n).length ≤ 6 := by
 have := moves_len (barO x n)
 have e2 : (legO x n).length = (movesOf (barO x n)).length := by simp [legO, legsAt, legsOf, ptsAt, ptsOf, barO]
 omega
theorem ok108 (x : Det) (h : runsOk x.bars x.runs = true) (a b : Int) (ha : inTot x a) (hb : inTot x b) : Ok Tryz.prog 108 [spC x, vi a, vi b] (.tp [vi (sqr x a b).m, .ag (sqr x a b).p.c, .ag (sqr x a b).q.c]) := by
 have hA := legs_ok h ha
 have hB := legs_ok h hb
 have ha0 := ha.1
 have ha1 := ha.2
 have hb0 := hb.1
 have hb1 := hb.2
 have la := legO_len x a
 have lb := legO_len x b
 unfold sqr
 refine zz 69 Tryz.func108 rfl Tryz.call108 rfl (zR (zo rfl (zo rfl (zo rfl (zw (zR (zo rfl (zw (zq (zR (zo rfl ?_)))))))))))
 refine zo rfl (zo rfl (zo rfl (zo rfl (step_sil (sil_index rfl rfl rfl rfl (by omega) (sp_idx ha0 ha1) rfl ?_)))))
 refine zo rfl (zo rfl (zo rfl (zw (Sat.loop' (fun _ => True) (fun i => ⟨69, lk [(0, .v (spC x)), (2, .v (vi b)), (6, .v (vi (sqO (legO x a) (legO x b) i).m)), (7, .ptr 7 0), (8, .ptr 8 0), (21, .v (.sl ((legO x a).map Bx.c))), (22, .v (vi ((legO x a).map Bx.c).length)), (23, .v (vi i))], lk [(7, ⟨.cells ((sqO (legO x a) (legO x b) i).p.c.map .v), false⟩), (8, ⟨.cells ((sqO (legO x a) (legO x b) i).q.c.map .v), false⟩)]⟩) ((legO x a).length) ?_ (trivial) (fun i hi hI => ?_) (fun hI => ?_)))))
 exact zv rfl rfl rfl rfl
 refine zR (zo rfl (zw (zq (zy rfl (by simp [hi]) (zk (zq (zb rfl (zR (zi rfl rfl rfl rfl rfl ?_)))))))))
 refine zo rfl (zo rfl (zd rfl rfl (zw (zR (zo rfl (zo rfl (zo rfl (zo rfl (zo rfl ?_)))))))))
 refine step_sil (sil_index rfl rfl rfl rfl (by omega) (sp_idx hb0 hb1) rfl ?_)
 refine zo rfl (zo rfl (zo rfl (zw (Sat.loop' (fun _ => True) (fun j => ⟨69, lk [(0, .v (spC x)), (2, .v (vi b)), (6, .v (vi (sqI (gt (legO x a) i) (legO x b) (sqO (legO x a) (legO x b) i) j).m)), (7, .ptr 7 0), (8, .ptr 8 0), (10, .ptr 10 0), (21, .v (.sl ((legO x a).map Bx.c))), (22, .v (vi ((legO x a).map Bx.c).length)), (23, .v (vi i)), (33, .v (.sl ((legO x b).map Bx.c))), (34, .v (vi ((legO x b).map Bx.c).length)), (35, .v (vi j))], lk [(7, ⟨.cells ((sqI (gt (legO x a) i) (legO x b) (sqO (legO x a) (legO x b) i) j).p.c.map .v), false⟩), (8, ⟨.cells ((sqI (gt (legO x a) i) (legO x b) (sqO (legO x a) (legO x b) i) j).q.c.map .v), false⟩), (10, ⟨.cells ((gt (legO x a) i).c.map .v), false⟩)]⟩) ((legO x b).length) ?_ (trivial) (fun j hj hJ => ?_) (fun hJ => ?_)))))
 exact zv rfl rfl rfl rfl
 refine zR (zo rfl (zw (zq (zy rfl (by simp [hj]) (zk (zq (zb rfl (zR (zi rfl rfl rfl rfl rfl ?_)))))))))
 refine zo rfl (zo rfl (zd rfl rfl (zw (zR (zo rfl (zo rfl (zc rfl (ok127 _ _ (hA i hi) (hB j hj)) (zo rfl (zo rfl ?_)))))))))
 refine zo rfl (zo rfl (zo rfl (zw (zR (zo rfl (zo rfl (zo rfl (zT rfl (fun h1 => ?_) (fun h1 => ?_)))))))))
 refine zO (fun _ => rfl) (zh rfl h1 rfl (zh rfl h1 rfl (zF rfl (fun h2 => ?_) (fun h2 => ?_))))
 refine zO (fun _ => rfl) (zh rfl h2 rfl (zh rfl h2 rfl (step_sil (sil_on rfl h1 (sil_pick (want := false) rfl rfl h2 rfl ?_)))))
 refine zp rfl h1 rfl (zw (zC rfl (fun h3 => ?_) (fun h3 => ?_)))
 refine zR (zo rfl (zo rfl (zw (zr (zo rfl (zo rfl (zc rfl (ok166 _ _ (hA i hi) (hB j hj)) (zo rfl (zo rfl ?_)))))))))
 refine zo rfl (zo rfl (zd rfl rfl (zd rfl rfl (wn (nb (nq ?_))))))
 first | have hr := sq_t1 h2 | have hr := sq_t2 h3 | have hr := sq_f h2 h3 | have hr := sq_x (a := gt (legO x a) i) (M := legO x b) (s := sqO (legO x a) (legO x b) i) (n := j) h1
 exact zr (za rfl (zo rfl (wn (ns trivial (weak_of ⟨rfl, rfl, int_eq rfl hr.1, rfl, rfl, rfl, rfl, rfl, rfl, rfl, rfl, rfl, trivial⟩ ⟨pt_eq hr.2.1 rfl, pt_eq hr.2.2 rfl, rfl, trivial⟩ rfl rfl)))))
 refine Sat.skip (nb (nq ?_))
 first | have hr := sq_t1 h2 | have hr := sq_t2 h3 | have hr := sq_f h2 h3 | have hr := sq_x (a := gt (legO x a) i) (M := legO x b) (s := sqO (legO x a) (legO x b) i) (n := j) h1
 exact zr (za rfl (zo rfl (wn (ns trivial (weak_of ⟨rfl, rfl, int_eq rfl hr.1, rfl, rfl, rfl, rfl, rfl, rfl, rfl, rfl, rfl, trivial⟩ ⟨pt_eq hr.2.1 rfl, pt_eq hr.2.2 rfl, rfl, trivial⟩ rfl rfl)))))
 refine zf rfl h2 (zf rfl h2 (step_sil (sil_on rfl h1 (sil_pick (want := true) rfl rfl h2 rfl ?_))))
 refine zp rfl h1 rfl (zw (zy rfl rfl (zR (zo rfl (zo rfl (zw (zr (zo rfl (zo rfl ?_)))))))))
 refine zc rfl (ok166 _ _ (hA i hi) (hB j hj)) (zo rfl (zo rfl (zo rfl (zo rfl (zd rfl rfl (zd rfl rfl (wn (nb (nq ?_)))))))))
 first | have hr := sq_t1 h2 | have hr := sq_t2 h3 | have hr := sq_f h2 h3 | have hr := sq_x (a := gt (legO x a) i) (M := legO x b) (s := sqO (legO x a) (legO x b) i) (n := j) h1
 exact zr (za rfl (zo rfl (wn (ns trivial (weak_of ⟨rfl, rfl, int_eq rfl hr.1, rfl, rfl, rfl, rfl, rfl, rfl, rfl, rfl, rfl, trivial⟩ ⟨pt_eq hr.2.1 rfl, pt_eq hr.2.2 rfl, rfl, trivial⟩ rfl rfl)))))
 refine zt rfl h1 (zt rfl h1 (zu rfl (zu rfl (zu rfl (zt rfl h1 (zP rfl h1 rfl (zw (zn rfl rfl (Sat.skip (nb ?_))))))))))
 refine nq ?_
 first | have hr := sq_t1 h2 | have hr := sq_t2 h3 | have hr := sq_f h2 h3 | have hr := sq_x (a := gt (legO x a) i) (M := legO x b) (s := sqO (legO x a) (legO x b) i) (n := j) h1
 exact zr (za rfl (zo rfl (wn (ns trivial (weak_of ⟨rfl, rfl, int_eq rfl hr.1, rfl, rfl, rfl, rfl, rfl, rfl, rfl, rfl, rfl, trivial⟩ ⟨pt_eq hr.2.1 rfl, pt_eq hr.2.2 rfl, rfl, trivial⟩ rfl rfl)))))
 refine zR (zo rfl (zw (zq (zn rfl (by simp) (Sat.exit (xq (xe (nb (nq ?_)))))))))
 exact zr (za rfl (zo rfl (wn (ns trivial (zv rfl rfl rfl rfl)))))
 refine zR (zo rfl (zw (zq (zn rfl (by simp) (Sat.exit (xq (xe (nq (zq (Sat.dwN tabOk mixed [7, 8] [4, 5] [0, 1, 2, 3, 4, 5] (by decide) (by kernel_rfl) ?_))))))))))
 refine walk_sil rfl rfl (zO (fun _ => rfl) ?_)
 refine walk_sil rfl rfl (zO (fun _ => rfl) ?_)
 refine walk_sil rfl rfl (zO (fun _ => rfl) ?_)
 refine walk_sil rfl rfl (zO (fun _ => rfl) ?_)
 refine walk_eff rfl rfl (step_do rfl rfl ⟨fun _ => ovr_eq ⟨rfl, rfl, trivial⟩, ?_⟩)
 refine walk_eff rfl rfl (step_do rfl rfl ⟨lastly_no (by kernel_rfl), ?_⟩)
 exact kn (nq (Sat.ret (ze rfl rfl)))
structure NrS where
  m : Int
  i : Int
  j : Int
  p : Pt
  q : Pt
def NrS.c (s : NrS) : List V := [vi s.i, vi s.j, vi s.p.x, vi s.p.y, vi s.p.z, vi s.q.x, vi s.q.y, vi s.q.z]
def nrStep (x : Det) (s : NrS) (i j : Int) : NrS := if s.m < 0 ∨ (sqr x i j).m < s.m then ⟨(sqr x i j).m, i, j, (sqr x i j).p, (sqr x i j).q⟩ else s
def nrI (x : Det) (i : Nat) (s : NrS) : Nat → NrS
  | 0 => s
  | k + 1 => nrStep x (nrI x i s k) i ((i : Int) + 1 + k)
def nrO (x : Det) : Nat → NrS
  | 0 => ⟨-1, 0, 0, ⟨0, 0, 0⟩, ⟨0, 0, 0⟩⟩
  | i + 1 => nrI x i (nrO x i) ((total x.runs).toNat - (i + 1))
def nrst (x : Det) : NrS := nrO x (total x.runs).toNat
theorem nr_t1 {x : Det} {i : Nat} {s : NrS} {k : Nat} (h : decide ((nrI x i s k).m < 0) = true) : (⟨(sqr x i ((i : Int) + 1 + k)).m, i, (i : Int) + 1 + k, (sqr x i ((i : Int) + 1 + k)).p, (sqr x i ((i : Int) + 1 + k)).q⟩ : NrS) = nrI x i s (k + 1) := by
 have h := of_decide_eq_true h
 simp only [nrI, nrStep, if_pos (Or.inl h)]
theorem nr_t2 {x : Det} {i : Nat} {s : NrS} {k : Nat} (h : decide ((sqr x i ((i : Int) + 1 + k)).m < (nrI x i s k).m) = true) : (⟨(sqr x i ((i : Int) + 1 + k)).m, i, (i : Int) + 1 + k, (sqr x i ((i : Int) + 1 + k)).p, (sqr x i ((i : Int) + 1 + k)).q⟩ : NrS) = nrI x i s (k + 1) := by
 have h := of_decide_eq_true h
 simp only [nrI, nrStep, if_pos (Or.inr h)]
theorem nr_f {x : Det} {i : Nat} {s : NrS} {k : Nat} (h : decide ((nrI x i s k).m < 0) = false) (h2 : decide ((sqr x i ((i : Int) + 1 + k)).m < (nrI x i s k).m) = false) : nrI x i s k = nrI x i s (k + 1) := by
 have h := of_decide_eq_false h
 have h2 := of_decide_eq_false h2
 simp only [nrI, nrStep, if_neg (not_or.2 ⟨h, h2⟩)]
theorem ns_eq {f : Store} {t : Nat} {p q : NrS} {z : Bool} (e : p = q) (h : f t = some ⟨.cells (p.c.map .v), z⟩) : f t = some ⟨.cells (q.c.map .v), z⟩ := e ▸ h
theorem nm_eq {f : Nat → Option D} {t : Nat} {p q : NrS} (e : p = q) (h : f t = some (.v (vi p.m))) : f t = some (.v (vi q.m)) := e ▸ h
theorem ok52s (x : Det) (h : runsOk x.bars x.runs = true) (ht : total x.runs < 2) : Ok Tryz.prog 52 [.sl (x.bars.map Bar.c), .sl (x.runs.map Run.c)] (.tp [.ag (⟨0, 0, 0, ⟨0, 0, 0⟩, ⟨0, 0, 0⟩⟩ : NrS).c, vi 0, vi 12]) := by
 have h0 := total_le h
 refine zz 78 Tryz.func52 rfl Tryz.call52 rfl (zR (zo rfl (zo rfl (zo rfl (zw (zR (zo rfl (zo rfl (zc rfl (ok107 x h) ?_)))))))))
 refine zo rfl (zo rfl (zo rfl (zo rfl (zo rfl (zw (zq (zb rfl (zR (zo rfl ?_)))))))))
 refine zo rfl (zo rfl (zw (zn rfl (by first | rfl | (rw [List.length_map, spB_len]; simp; omega)) (zR (zo rfl (zo rfl (zo rfl (zo rfl (zo rfl ?_)))))))))
 refine zo rfl (zo rfl (zw (zy rfl (by first | rfl | (rw [List.length_map, spB_len]; simp; omega)) (zR (zo rfl (zd rfl rfl (zo rfl (zo rfl (zw (Sat.ret ?_))))))))))
 exact rb (rq (ze rfl rfl))
theorem ok52 (x : Det) (h : runsOk x.bars x.runs = true) (ht : 2 ≤ total x.runs) : Ok Tryz.prog 52 [.sl (x.bars.map Bar.c), .sl (x.runs.map Run.c)] (.tp [.ag (nrst x).c, vi (nrst x).m, vi 0]) := by
 have h0 := total_le h
 have hl : ((spB x).map bxC).length = (total x.runs).toNat := by rw [List.length_map, spB_len]
 refine zz 78 Tryz.func52 rfl Tryz.call52 rfl (zR (zo rfl (zo rfl (zo rfl (zw (zR (zo rfl (zo rfl (zc rfl (ok107 x h) ?_)))))))))
 refine zo rfl (zo rfl (zo rfl (zo rfl (zo rfl (zw (zq (zb rfl (zR (zo rfl ?_)))))))))
 refine zo rfl (zo rfl (zw (zn rfl (by first | rfl | (simp only [hl]; simp; omega)) (zR (zo rfl (zo rfl (zo rfl (zo rfl (zo rfl ?_)))))))))
 refine zo rfl (zo rfl (zw (zn rfl (by first | rfl | (simp only [hl]; simp; omega)) (Sat.skip (nb (nq (zR (zo rfl (zw (zR (zo rfl ?_)))))))))))
 refine zw (zq (zR (zo rfl (zo rfl (zo rfl (zo rfl (zo rfl (zo rfl (zw (Sat.loop' (fun _ => True) (fun i => ⟨78, lk [(4, .ptr 4 0), (7, (.v (spC x))), (9, .ptr 9 0), (10, .v (vi (nrO x i).m)), (39, .v (vi ((spB x).map bxC).length)), (40, .v (vi i))], lk [(4, ⟨.cells ((nrO x 0).c.map .v), false⟩), (9, ⟨.cells ((nrO x i).c.map .v), false⟩)]⟩) (((total x.runs).toNat)) ?_ (trivial) (fun i hi hI => ?_) (fun hI => ?_)))))))))))
 exact zv rfl rfl rfl rfl
 refine zR (zo rfl (zw (zq (zy rfl (by simp only [hl]; simp; omega) (zk (zq (zb rfl (zR (zo rfl ?_)))))))))
 refine zo rfl (zw (zR (zo rfl (zA rfl (by constructor <;> omega) (zo rfl (zw (Sat.loop' (fun _ => True) (fun k => ⟨78, lk [(4, .ptr 4 0), (7, (.v (spC x))), (9, .ptr 9 0), (10, .v (vi (nrI x i (nrO x i) k).m)), (11, .v (vi i)), (12, .v (vi ((i : Int) + 1 + k))), (39, .v (vi ((spB x).map bxC).length)), (40, .v (vi i))], lk [(4, ⟨.cells ((nrO x 0).c.map .v), false⟩), (9, ⟨.cells ((nrI x i (nrO x i) k).c.map .v), false⟩)]⟩) (((total x.runs).toNat) - (i + 1)) ?_ (trivial) (fun k hk hK => ?_) (fun hK => ?_))))))))
 exact weak_of ⟨rfl, rfl, rfl, rfl, rfl, int_eq rfl (by omega), rfl, rfl, trivial⟩ ⟨rfl, rfl, trivial⟩ rfl rfl
 refine zq (zR (zo rfl (zo rfl (zo rfl (zo rfl (zo rfl (zo rfl (zo rfl (zw (zy rfl (by simp only [hl]; simp; omega) ?_))))))))))
 refine zk (zq (zb rfl (zR (zo rfl (zo rfl (zo rfl (zc rfl (ok108 x h i ((i : Int) + 1 + k) ⟨by omega, by omega⟩ ⟨by omega, by omega⟩) (zo rfl (zo rfl ?_)))))))))
 refine zo rfl (zo rfl (zo rfl (zo rfl (zo rfl (zd rfl rfl (zd rfl rfl (zw (zR (zo rfl ?_)))))))))
 refine zo rfl (zo rfl (zF rfl (fun h1 => ?_) (fun h1 => ?_)))
 refine zO (fun _ => rfl) (zh rfl h1 rfl (zh rfl h1 rfl (zP rfl h1 rfl (zw (zC rfl (fun h2 => ?_) (fun h2 => ?_))))))
 refine zr (zo rfl (zo rfl (zo rfl (zo rfl (zo rfl (zo rfl (zd rfl rfl (zo rfl (wn (nb ?_))))))))))
 refine nq ?_
 first | have hr := nr_t1 h1 | have hr := nr_t2 h2 | have hr := nr_f h1 h2
 exact zr (zo rfl (zA rfl (by constructor <;> omega) (zo rfl (wn (ns trivial (weak_of ⟨rfl, rfl, rfl, nm_eq hr rfl, rfl, int_eq rfl (by omega), rfl, rfl, trivial⟩ ⟨rfl, ns_eq hr rfl, trivial⟩ rfl rfl))))))
 refine Sat.skip (nb (nq ?_))
 first | have hr := nr_t1 h1 | have hr := nr_t2 h2 | have hr := nr_f h1 h2
 exact zr (zo rfl (zA rfl (by constructor <;> omega) (zo rfl (wn (ns trivial (weak_of ⟨rfl, rfl, rfl, nm_eq hr rfl, rfl, int_eq rfl (by omega), rfl, rfl, trivial⟩ ⟨rfl, ns_eq hr rfl, trivial⟩ rfl rfl))))))
 refine zf rfl h1 (zf rfl h1 (zp rfl h1 rfl (zw (zy rfl rfl (zr (zo rfl (zo rfl (zo rfl (zo rfl ?_)))))))))
 refine zo rfl (zo rfl (zd rfl rfl (zo rfl (wn (nb (nq ?_))))))
 first | have hr := nr_t1 h1 | have hr := nr_t2 h2 | have hr := nr_f h1 h2
 exact zr (zo rfl (zA rfl (by constructor <;> omega) (zo rfl (wn (ns trivial (weak_of ⟨rfl, rfl, rfl, nm_eq hr rfl, rfl, int_eq rfl (by omega), rfl, rfl, trivial⟩ ⟨rfl, ns_eq hr rfl, trivial⟩ rfl rfl))))))
 refine zq (zR (zo rfl (zo rfl (zo rfl (zo rfl (zo rfl (zo rfl (zo rfl (zw (zn rfl (by simp only [hl]; simp; omega) ?_))))))))))
 exact Sat.exit (xq (xe (nb (nq (zr (zA rfl (by constructor <;> omega) (zo rfl (wn (ns trivial (zv rfl rfl rfl rfl))))))))))
 refine zR (zo rfl (zw (zq (zn rfl (by simp only [hl]; simp) (Sat.exit (xq (xe (nq (zR (zo rfl ?_))))))))))
 exact zo rfl (zd rfl rfl (zo rfl (zo rfl (zw (Sat.ret (ze rfl rfl))))))
theorem ok63 (x : Det) (h : runsOk x.bars x.runs = true) (a b : Int) (ha : inTot x a) (hb : inTot x b) (hab : a ≠ b) : Ok Tryz.prog 63 [.sl (x.bars.map Bar.c), .sl (x.runs.map Run.c), vi a, vi b] (.tp [vi (sqr x a b).m, vi 0]) := by
 have h0 := total_le h
 have ha0 := ha.1
 have ha1 := ha.2
 have hb0 := hb.1
 have hb1 := hb.2
 have hl : ((spB x).map bxC).length = (total x.runs).toNat := by rw [List.length_map, spB_len]
 refine zz 54 Tryz.func63 rfl Tryz.call63 rfl (zR (zo rfl (zo rfl (zw (zR (zo rfl (zo rfl (zc rfl (ok107 x h) (zo rfl ?_)))))))))
 refine zo rfl (zo rfl (zo rfl (zo rfl (zw (zq (zb rfl (zR (zo rfl (zo rfl ?_)))))))))
 refine zo rfl (zw (zn rfl (by first | rfl | (rw [hl]; simp only [decide_eq_false_iff_not]; split <;> omega) | (simp only [beq_eq_false_iff_ne, ne_eq]; omega)) (zR (zo rfl (zo rfl (zo rfl (zo rfl (zo rfl (zF rfl (fun h1 => ?_) (fun h1 => ?_))))))))))
 refine zO (fun _ => rfl) (zh rfl h1 rfl (zh rfl h1 rfl (zh rfl h1 rfl (zh rfl h1 rfl (zh rfl h1 rfl (zh rfl h1 rfl (zh rfl h1 rfl (zh rfl h1 rfl (zP rfl h1 rfl ?_)))))))))
 refine zo rfl (zw (zn rfl (by first | rfl | (rw [hl]; simp only [decide_eq_false_iff_not]; split <;> omega) | (simp only [beq_eq_false_iff_ne, ne_eq]; omega)) (zR (zo rfl (zo rfl (zo rfl (zo rfl (zw (zn rfl (by first | rfl | (rw [hl]; simp only [decide_eq_false_iff_not]; split <;> omega) | (simp only [beq_eq_false_iff_ne, ne_eq]; omega)) ?_)))))))))
 refine Sat.skip (nb (nq (zR (zo rfl (zo rfl (zo rfl (zc rfl (ok108 x h a b ha hb) (zo rfl (zo rfl ?_)))))))))
 refine zo rfl (zo rfl (zo rfl (zo rfl (zo rfl (zd rfl rfl (zd rfl rfl (zw (zR (zo rfl ?_)))))))))
 exact zo rfl (zo rfl (zw (Sat.ret (ze rfl (by first | rfl | (exfalso; have q := of_decide_eq_true h1; split at q <;> omega))))))
 refine zf rfl h1 (zf rfl h1 (zf rfl h1 (zf rfl h1 (zf rfl h1 (zf rfl h1 (zf rfl h1 (zf rfl h1 (zp rfl h1 rfl (zo rfl ?_)))))))))
 exact zw (zy rfl rfl (zR (zo rfl (zo rfl (zw (Sat.ret (rb (rq (ze rfl (by first | rfl | (exfalso; have q := of_decide_eq_true h1; split at q <;> omega)))))))))))
end Go.Proofs.YtamjajacnfmgeaaGreat
