/-
  Contracts: validity of a detail in the program. Condition: valid in the reference.
  Contracts: step functions of the program. Condition: valid steps.
  Contracts: laid bars with their legs in the program. Condition: valid in the reference.
-/
import Derived.Test.YtamjajacnfmgeaaGreatK30
set_option linter.all false
namespace Go.Proofs.YtamjajacnfmgeaaGreat
open Go Go.RowKit
set_option maxHeartbeats 1000000
def mainC (bars : List Bar) (runs : List Run) (a : Int) : List V :=
  [vi (mainAt bars runs a).lx, vi (mainAt bars runs a).ly, vi (mainAt bars runs a).lz, vi (mainAt bars runs a).hx, vi (mainAt bars runs a).hy, vi (mainAt bars runs a).hz, .bool (hasMain bars runs a), vi (barAt bars runs a).size, .str (barAt bars runs a).mark]
theorem mainRows_at (bars : List Bar) (runs : List Run) {n : Nat} {a : Int} (h0 : 0 ≤ a) (h1 : a < n) : (mainRows bars runs n)[a.toNat]? = some (mainC bars runs a) := by
 have : a.toNat < n := by omega
 have e : ((a.toNat : Nat) : Int) = a := by omega
 rw [mainRows, List.getElem?_map, List.getElem?_range this, Option.map_some, mainRow, e]
 rfl
theorem ok160 (x : Det) (j : Jnt) (h : jointOk x j = true) : Ok Tryz.prog 160 [.sl (mainRows x.bars x.runs (total x.runs).toNat), .ag j.c] (.bool true) := by
 simp only [jointOk, Bool.and_eq_true, Bool.not_eq_true', decide_eq_true_eq, decide_eq_false_iff_not] at h
 obtain ⟨⟨⟨⟨h1, h2⟩, h3⟩, h4⟩, ⟨⟨⟨g1, g2⟩, g3⟩, g4⟩, g5⟩ := h
 have hl := mainRows_len x.bars x.runs (total x.runs).toNat
 refine zz 79 Tryz.func160 rfl Tryz.call160 rfl (zR (zo rfl (zo rfl (zw (zR (zo rfl (zo rfl (zo rfl (zw (zq (zq (Sat.to tabOk (⟨79, lk [(0, .v (.sl (mainRows x.bars x.runs (total x.runs).toNat))), (3, .ptr 3 0), (29, .v (.bool false))], lk [(3, ⟨.cells (j.c.map .v), false⟩)]⟩) ?_ ?_))))))))))))
 refine zo rfl (zo rfl (zo rfl (zo rfl (zF rfl (fun h1 => ?_) (fun h1 => ?_)))))
 refine zO (fun _ => rfl) (zh rfl h1 rfl (zh rfl h1 rfl (zh rfl h1 rfl (zP rfl h1 rfl (zo rfl (zF rfl (fun h2 => ?_) (fun h2 => ?_)))))))
 refine zO (fun _ => rfl) (zh rfl h2 rfl (zh rfl h2 rfl (zP rfl h2 rfl (zo rfl (zF rfl (fun h3 => ?_) (fun h3 => ?_))))))
 exact zO (fun _ => rfl) (zh rfl h3 rfl (zh rfl h3 rfl (zh rfl h3 rfl (zP rfl h3 rfl (wn (weak_of ⟨rfl, rfl, bool_eq rfl (by first | rfl | (simp_all; done) | (simp_all; omega)), trivial⟩ ⟨rfl, trivial⟩ rfl rfl))))))
 exact zf rfl h3 (zf rfl h3 (zf rfl h3 (zp rfl h3 rfl (wn (weak_of ⟨rfl, rfl, bool_eq rfl (by first | rfl | (simp_all; done) | (simp_all; omega)), trivial⟩ ⟨rfl, trivial⟩ rfl rfl)))))
 exact zf rfl h2 (zf rfl h2 (zp rfl h2 rfl (zo rfl (zf rfl rfl (zf rfl rfl (zf rfl rfl (zf rfl rfl (zp rfl rfl rfl (wn (weak_of ⟨rfl, rfl, bool_eq rfl (by first | rfl | (simp_all; done) | (simp_all; omega)), trivial⟩ ⟨rfl, trivial⟩ rfl rfl))))))))))
 refine zf rfl h1 (zf rfl h1 (zf rfl h1 (zp rfl h1 rfl (zo rfl (zf rfl rfl (zf rfl rfl (zf rfl rfl (zp rfl rfl rfl (zo rfl ?_)))))))))
 exact zf rfl rfl (zf rfl rfl (zf rfl rfl (zf rfl rfl (zp rfl rfl rfl (wn (weak_of ⟨rfl, rfl, bool_eq rfl (by first | rfl | (simp_all; done) | (simp_all; omega)), trivial⟩ ⟨rfl, trivial⟩ rfl rfl))))))
 refine nq (zn rfl (rfl) (zk (zq (Sat.dp tabOk mixed [3] (.sil 0 (.sil 1 (.sil 2 (.sil 3 (.sil 4 (.sil 5 (.sil 6 (.sil 7 (.sil 8 (.sil 9 (.two 10 11 (.one 11 (.one 12 (.one 13 (.done)))) (.one 10 (.one 12 (.one 13 (.done))))))))))))))) (⟨79, lk [(6, .ptr 6 0), (7, .ptr 7 0)], lk [(6, ⟨.cells ((mainC x.bars x.runs j.a).map .v), false⟩), (7, ⟨.cells ((mainC x.bars x.runs j.b).map .v), false⟩)]⟩) (by decide) (by kernel_rfl) ?_ ?_))))
 refine p_sil rfl (zO (fun _ => rfl) ?_)
 refine p_sil rfl (zO (fun _ => rfl) ?_)
 refine p_sil rfl (zO (fun _ => rfl) ?_)
 refine p_sil rfl (sil_index rfl rfl rfl rfl (by omega) (mainRows_at _ _ (by omega) (by omega)) rfl ?_)
 refine p_sil rfl (zO (fun _ => rfl) ?_)
 refine p_sil rfl (zO (fun _ => rfl) ?_)
 refine p_sil rfl (zO (fun _ => rfl) ?_)
 refine p_sil rfl (zO (fun _ => rfl) ?_)
 refine p_sil rfl (sil_index rfl rfl rfl rfl (by omega) (mainRows_at _ _ (by omega) (by omega)) rfl ?_)
 refine p_sil rfl (zO (fun _ => rfl) ?_)
 refine p_two ?_ ?_
 refine p_one rfl (step_op rfl rfl rfl ⟨ovr_eq ⟨rfl, trivial⟩, ?_⟩)
 refine p_one rfl (step_op rfl rfl rfl ⟨ovr_eq ⟨rfl, trivial⟩, ?_⟩)
 refine p_one rfl (step_do rfl rfl ⟨ovr_eq ⟨rfl, trivial⟩, ?_⟩)
 refine p_one rfl (step_do rfl rfl ⟨ovr_eq ⟨rfl, trivial⟩, ?_⟩)
 exact pn (zv rfl rfl rfl rfl)
 refine p_one rfl (step_op rfl rfl rfl ⟨ovr_eq ⟨rfl, trivial⟩, ?_⟩)
 refine p_one rfl (step_op rfl rfl rfl ⟨ovr_eq ⟨rfl, trivial⟩, ?_⟩)
 refine p_one rfl (step_do rfl rfl ⟨ovr_eq ⟨rfl, trivial⟩, ?_⟩)
 refine p_one rfl (step_do rfl rfl ⟨ovr_eq ⟨rfl, trivial⟩, ?_⟩)
 exact pn (zv rfl rfl rfl rfl)
 refine nq (zR (zo rfl (zo rfl (zo rfl (zT rfl (fun h4 => ?_) (fun h4 => ?_))))))
 refine zO (fun _ => rfl) (zh rfl h4 rfl (zp rfl h4 rfl (zo rfl (zT rfl (fun h5 => ?_) (fun h5 => ?_)))))
 refine zO (fun _ => rfl) (zh rfl h5 rfl (zh rfl h5 rfl (zh rfl h5 rfl (zh rfl h5 rfl (zh rfl h5 rfl (zh rfl h5 rfl (zh rfl h5 rfl (zh rfl h5 rfl (zp rfl h5 rfl ?_)))))))))
 refine zo rfl (zT rfl (fun h6 => ?_) (fun h6 => ?_))
 refine zO (fun _ => rfl) (zh rfl h6 rfl (zh rfl h6 rfl (zh rfl h6 rfl (zh rfl h6 rfl (zh rfl h6 rfl (zh rfl h6 rfl (zh rfl h6 rfl (zh rfl h6 rfl (zp rfl h6 rfl ?_)))))))))
 refine zo rfl (zT rfl (fun h7 => ?_) (fun h7 => ?_))
 refine zO (fun _ => rfl) (zh rfl h7 rfl (zh rfl h7 rfl (zh rfl h7 rfl (zh rfl h7 rfl (zh rfl h7 rfl (zh rfl h7 rfl (zh rfl h7 rfl (zh rfl h7 rfl (zp rfl h7 rfl ?_)))))))))
 exact zo rfl (zw (Sat.ret (ze rfl (by first | rfl | exact vb (decide_eq_true g5) | (exfalso; simp_all; done) | (exfalso; simp_all; omega)))))
 refine zt rfl h7 (zt rfl h7 (zt rfl h7 (zt rfl h7 (zt rfl h7 (zt rfl h7 (zt rfl h7 (zt rfl h7 (zP rfl h7 rfl (zo rfl ?_)))))))))
 exact zw (Sat.ret (ze rfl (by first | rfl | exact vb (decide_eq_true g5) | (exfalso; simp_all; done) | (exfalso; simp_all; omega))))
 refine zt rfl h6 (zt rfl h6 (zt rfl h6 (zt rfl h6 (zt rfl h6 (zt rfl h6 (zt rfl h6 (zt rfl h6 (zP rfl h6 rfl (zo rfl ?_)))))))))
 refine zt rfl rfl (zt rfl rfl (zt rfl rfl (zt rfl rfl (zt rfl rfl (zt rfl rfl (zt rfl rfl (zt rfl rfl (zt rfl rfl (zP rfl rfl rfl ?_)))))))))
 exact zo rfl (zw (Sat.ret (ze rfl (by first | rfl | exact vb (decide_eq_true g5) | (exfalso; simp_all; done) | (exfalso; simp_all; omega)))))
 refine zt rfl h5 (zt rfl h5 (zt rfl h5 (zt rfl h5 (zt rfl h5 (zt rfl h5 (zt rfl h5 (zt rfl h5 (zP rfl h5 rfl (zo rfl ?_)))))))))
 refine zt rfl rfl (zt rfl rfl (zt rfl rfl (zt rfl rfl (zt rfl rfl (zt rfl rfl (zt rfl rfl (zt rfl rfl (zt rfl rfl (zP rfl rfl rfl ?_)))))))))
 refine zo rfl (zt rfl rfl (zt rfl rfl (zt rfl rfl (zt rfl rfl (zt rfl rfl (zt rfl rfl (zt rfl rfl (zt rfl rfl (zt rfl rfl ?_)))))))))
 exact zP rfl rfl rfl (zo rfl (zw (Sat.ret (ze rfl (by first | rfl | exact vb (decide_eq_true g5) | (exfalso; simp_all; done) | (exfalso; simp_all; omega))))))
 refine zt rfl h4 (zP rfl h4 rfl (zo rfl (zt rfl rfl (zt rfl rfl (zt rfl rfl (zt rfl rfl (zt rfl rfl (zt rfl rfl (zt rfl rfl ?_)))))))))
 refine zt rfl rfl (zt rfl rfl (zP rfl rfl rfl (zo rfl (zt rfl rfl (zt rfl rfl (zt rfl rfl (zt rfl rfl (zt rfl rfl (zt rfl rfl ?_)))))))))
 refine zt rfl rfl (zt rfl rfl (zt rfl rfl (zP rfl rfl rfl (zo rfl (zt rfl rfl (zt rfl rfl (zt rfl rfl (zt rfl rfl (zt rfl rfl ?_)))))))))
 exact zt rfl rfl (zt rfl rfl (zt rfl rfl (zt rfl rfl (zP rfl rfl rfl (zo rfl (zw (Sat.ret (ze rfl (by first | rfl | exact vb (decide_eq_true g5) | (exfalso; simp_all; done) | (exfalso; simp_all; omega))))))))))
theorem lapOk_parts {x : Det} (h : allN x.laps.length (lapOk x) = true) {i : Nat} (hi : i < x.laps.length) : jointOk x (gt x.laps i) = true ∧ (∀ k : Nat, k < i → ((gt x.laps i).a == (gt x.laps k).a) = false) ∧ (∀ k : Nat, k < i → ((gt x.laps i).b == (gt x.laps k).b) = false) := by
 have := allN_iff.1 h i hi
 simp only [lapOk, Bool.and_eq_true] at this
 refine ⟨this.1, fun k hk => ?_, fun k hk => ?_⟩
 · have h2 := allN_iff.1 this.2 k hk
   simp only [Bool.and_eq_true, Bool.not_eq_true', beq_eq_false_iff_ne, ne_eq] at h2
   rw [beq_eq_false_iff_ne]
   exact fun e => h2.1 e.symm
 · have h2 := allN_iff.1 this.2 k hk
   simp only [Bool.and_eq_true, Bool.not_eq_true', beq_eq_false_iff_ne, ne_eq] at h2
   rw [beq_eq_false_iff_ne]
   exact fun e => h2.2 e.symm
structure DetP (x : Det) : Prop where
  mem : memOk x.mem = true
  runs : runsOk x.bars x.runs = true
  dems : demsOk x.dems = true
  rule : ruleOk x.rule = true
  lapsL : x.laps.length ≤ 1000
  laps : allN x.laps.length (lapOk x) = true
theorem detP {x : Det} (h : detOk x = true) : DetP x := by
 simp only [detOk, Bool.and_eq_true, Bool.not_eq_true', decide_eq_false_iff_not] at h
 obtain ⟨⟨⟨⟨⟨h1, h2⟩, h3⟩, h4⟩, h5⟩, h6⟩ := h
 exact ⟨h1, h2, h3, h4, by omega, h6⟩
def lapA (x : Det) (j : Nat) : Int := (gt x.laps j).a
def lapB (x : Det) (j : Nat) : Int := (gt x.laps j).b
theorem ok94 (x : Det) (h : detOk x = true) : Ok Tryz.prog 94 [.ag x.c] (.tp [.sl (mainRows x.bars x.runs (total x.runs).toNat), .bool true]) := by
 have hP := detP h
 have hll := hP.lapsL
 refine zz 74 Tryz.func94 rfl Tryz.call94 rfl (zR (zo rfl (zo rfl (zo rfl (zw (zq (zq (Sat.to tabOk (⟨74, lk [(1, .ptr 1 0), (38, .v (.bool false))], lk [(1, ⟨.cells (x.c.map .v), false⟩)]⟩) ?_ ?_))))))))
 refine zo rfl (zo rfl (zc rfl (ok156 x.mem hP.mem) (zo rfl (zo rfl (zF rfl (fun h1 => ?_) (fun h1 => ?_))))))
 refine zO (fun _ => rfl) (zh rfl h1 rfl (zh rfl h1 rfl (zh rfl h1 rfl (step_sil (sil_on rfl h1 (sil_call rfl rfl (fun _ => rfl) (fun _ => rfl) (ok115 x.bars x.runs hP.runs) ?_))))))
 refine zh rfl h1 rfl (zP rfl h1 rfl (zo rfl (zF rfl (fun h2 => ?_) (fun h2 => ?_))))
 refine zO (fun _ => rfl) (zh rfl h2 rfl (step_sil (sil_on rfl h2 (sil_call rfl rfl (fun _ => rfl) (fun _ => rfl) (ok157 x.dems hP.dems) ?_))))
 refine zh rfl h2 rfl (zP rfl h2 rfl (zo rfl (zF rfl (fun h3 => ?_) (fun h3 => ?_))))
 refine zO (fun _ => rfl) (zh rfl h3 rfl (step_sil (sil_on rfl h3 (sil_call rfl rfl (fun _ => rfl) (fun _ => rfl) (ok158 x.rule hP.rule) ?_))))
 refine zh rfl h3 rfl (zP rfl h3 rfl (zo rfl (zF rfl (fun h4 => ?_) (fun h4 => ?_))))
 exact zO (fun _ => rfl) (zh rfl h4 rfl (zh rfl h4 rfl (zh rfl h4 rfl (zP rfl h4 rfl (wn (weak_of ⟨rfl, bool_eq rfl (by first | rfl | (simp_all; done) | (simp_all; omega)), trivial⟩ ⟨rfl, trivial⟩ rfl rfl))))))
 exact zf rfl h4 (zf rfl h4 (zf rfl h4 (zp rfl h4 rfl (wn (weak_of ⟨rfl, bool_eq rfl (by first | rfl | (simp_all; done) | (simp_all; omega)), trivial⟩ ⟨rfl, trivial⟩ rfl rfl)))))
 refine zf rfl h3 (zf rfl h3 (zf rfl h3 (zp rfl h3 rfl (zo rfl (zf rfl rfl (zf rfl rfl (zf rfl rfl (zf rfl rfl (zp rfl rfl rfl ?_)))))))))
 exact wn (weak_of ⟨rfl, bool_eq rfl (by first | rfl | (simp_all; done) | (simp_all; omega)), trivial⟩ ⟨rfl, trivial⟩ rfl rfl)
 refine zf rfl h2 (zf rfl h2 (zf rfl h2 (zp rfl h2 rfl (zo rfl (zf rfl rfl (zf rfl rfl (zf rfl rfl (zf rfl rfl (zp rfl rfl rfl ?_)))))))))
 exact zo rfl (zf rfl rfl (zf rfl rfl (zf rfl rfl (zf rfl rfl (zp rfl rfl rfl (wn (weak_of ⟨rfl, bool_eq rfl (by first | rfl | (simp_all; done) | (simp_all; omega)), trivial⟩ ⟨rfl, trivial⟩ rfl rfl)))))))
 refine zf rfl h1 (zf rfl h1 (zf rfl h1 (zf rfl h1 (zf rfl h1 (zp rfl h1 rfl (zo rfl (zf rfl rfl (zf rfl rfl (zf rfl rfl ?_)))))))))
 refine zf rfl rfl (zp rfl rfl rfl (zo rfl (zf rfl rfl (zf rfl rfl (zf rfl rfl (zf rfl rfl (zp rfl rfl rfl (zo rfl (zf rfl rfl ?_)))))))))
 exact zf rfl rfl (zf rfl rfl (zf rfl rfl (zp rfl rfl rfl (wn (weak_of ⟨rfl, bool_eq rfl (by first | rfl | (simp_all; done) | (simp_all; omega)), trivial⟩ ⟨rfl, trivial⟩ rfl rfl)))))
 refine nq (zn rfl (rfl) (zk (zR (zo rfl (zc rfl (ok159 x hP.runs) (zo rfl (zw (zR (zo rfl ?_)))))))))
 refine zo rfl (zo rfl (zo rfl (zw (zq (zR (zo rfl (zo rfl (zo rfl (zo rfl ?_)))))))))
 refine zw (Sat.loop' (fun _ => True) (fun i => ⟨74, lk [(1, .ptr 1 0), (4, .v (.sl (mainRows x.bars x.runs (total x.runs).toNat))), (5, .omap 41), (6, .omap 42), (44, .v (.sl (x.laps.map Jnt.c))), (45, .v (vi (x.laps.map Jnt.c).length)), (46, .v (vi i))], lk [(1, ⟨.cells (x.c.map .v), false⟩), (41, ⟨.mp (mapL i (lapA x) fun _ => .bool true), false⟩), (42, ⟨.mp (mapL i (lapB x) fun _ => .bool true), false⟩)]⟩) (x.laps.length) ?_ (trivial) (fun i hi hI => ?_) (fun hI => ?_))
 exact zv rfl rfl rfl rfl
 have hl := lapOk_parts hP.laps hi
 refine zR (zo rfl (zw (zq (zy rfl (by simp [hi]) (zk (zq (zb rfl (zR (zi rfl rfl rfl rfl rfl ?_)))))))))
 refine zo rfl (zo rfl (zd rfl rfl (zw (zq (zq (Sat.to tabOk (⟨74, lk [(1, .ptr 1 0), (4, .v (.sl (mainRows x.bars x.runs (total x.runs).toNat))), (5, .omap 41), (6, .omap 42), (8, .ptr 8 0), (44, .v (.sl (x.laps.map Jnt.c))), (45, .v (vi (x.laps.map Jnt.c).length)), (46, .v (vi i)), (65, .v (.bool false))], lk [(1, ⟨.cells (x.c.map .v), false⟩), (8, ⟨.cells ((gt x.laps (i : Int)).c.map .v), false⟩), (41, ⟨.mp (mapL i (lapA x) fun _ => .bool true), false⟩), (42, ⟨.mp (mapL i (lapB x) fun _ => .bool true), false⟩)]⟩) ?_ ?_))))))
 refine zo rfl (zo rfl (zc rfl (ok160 x (gt x.laps i) hl.1) (zo rfl (zo rfl (zF rfl (fun h5 => ?_) (fun h5 => ?_))))))
 refine zO (fun _ => rfl) (zh rfl h5 rfl (zh rfl h5 rfl (step_sil (sil_on rfl h5 (sil_lookN rfl rfl rfl rfl (fun _ => rfl) rfl (mapL_none (f := lapA x) hl.2.1) ?_)))))
 refine zP rfl h5 rfl (zo rfl (zF rfl (fun h6 => ?_) (fun h6 => ?_)))
 refine zO (fun _ => rfl) (zh rfl h6 rfl (zh rfl h6 rfl (step_sil (sil_on rfl h6 (sil_lookN rfl rfl rfl rfl (fun _ => rfl) rfl (mapL_none (f := lapB x) hl.2.2) ?_)))))
 exact zP rfl h6 rfl (wn (weak_of ⟨rfl, rfl, rfl, rfl, rfl, rfl, rfl, rfl, bool_eq rfl (by first | rfl | (simp_all; done)), trivial⟩ ⟨rfl, rfl, rfl, rfl, trivial⟩ rfl rfl))
 exact zf rfl h6 (zf rfl h6 (zf rfl h6 (zp rfl h6 rfl (wn (weak_of ⟨rfl, rfl, rfl, rfl, rfl, rfl, rfl, rfl, bool_eq rfl (by first | rfl | (simp_all; done)), trivial⟩ ⟨rfl, rfl, rfl, rfl, trivial⟩ rfl rfl)))))
 refine zf rfl h5 (zf rfl h5 (zf rfl h5 (zp rfl h5 rfl (zo rfl (zf rfl rfl (zf rfl rfl (zf rfl rfl (zf rfl rfl (zp rfl rfl rfl ?_)))))))))
 exact wn (weak_of ⟨rfl, rfl, rfl, rfl, rfl, rfl, rfl, rfl, bool_eq rfl (by first | rfl | (simp_all; done)), trivial⟩ ⟨rfl, rfl, rfl, rfl, trivial⟩ rfl rfl)
 refine nq (zn rfl (rfl) (zk (Sat.dp tabOk mixed [8] (.sil 0 (.sil 1 (.sil 2 (.sil 3 (.sil 4 (.sil 5 (.one 6 (.one 7 (.done))))))))) (⟨74, lk [(1, .ptr 1 0), (4, .v (.sl (mainRows x.bars x.runs (total x.runs).toNat))), (5, .omap 41), (6, .omap 42), (44, .v (.sl (x.laps.map Jnt.c))), (45, .v (vi (x.laps.map Jnt.c).length)), (46, .v (vi i))], lk [(1, ⟨.cells (x.c.map .v), false⟩), (41, ⟨.mp (mapL (i + 1) (lapA x) fun _ => .bool true), false⟩), (42, ⟨.mp (mapL (i + 1) (lapB x) fun _ => .bool true), false⟩)]⟩) (by decide) (by kernel_rfl) ?_ ?_)))
 refine p_sil rfl (zO (fun _ => rfl) ?_)
 refine p_sil rfl (zO (fun _ => rfl) ?_)
 refine p_sil rfl (zO (fun _ => rfl) ?_)
 refine p_sil rfl (zO (fun _ => rfl) ?_)
 refine p_sil rfl (zO (fun _ => rfl) ?_)
 refine p_sil rfl (zO (fun _ => rfl) ?_)
 refine p_one rfl (step_mapN rfl rfl rfl rfl rfl rfl (mapL_none (f := lapA x) hl.2.1) ⟨ovr_eq ⟨rfl, trivial⟩, ?_⟩)
 refine p_one rfl (step_mapN rfl rfl rfl rfl rfl rfl (mapL_none (f := lapB x) hl.2.2) ⟨ovr_eq ⟨rfl, trivial⟩, ?_⟩)
 exact pn (weak_of ⟨rfl, rfl, rfl, rfl, rfl, rfl, rfl, trivial⟩ ⟨rfl, mp_eq rfl (mapL_snoc _ _ _).symm, mp_eq rfl (mapL_snoc _ _ _).symm, trivial⟩ rfl rfl)
 exact nb (nq (zr (za rfl (zo rfl (wn (ns trivial (zv rfl rfl rfl rfl)))))))
 refine zR (zo rfl (zw (zq (zn rfl (by simp) (Sat.exit (xq (xe (nq (zR (zo rfl ?_))))))))))
 exact zo rfl (zo rfl (zw (Sat.ret (ze rfl rfl))))
theorem ok46 (x : Det) (h : detOk x = true) : Ok Tryz.prog 46 [.ag x.c] (.bool true) := by
 refine zz 11 Tryz.func46 rfl Tryz.call46 rfl (zR (zo rfl (zo rfl (zw (zR (zo rfl (zc rfl (ok94 x h) (zo rfl (zo rfl ?_)))))))))
 exact zo rfl (zo rfl (zo rfl (zw (zR (zo rfl (zo rfl (zw (Sat.ret (ze rfl rfl)))))))))
end Go.Proofs.YtamjajacnfmgeaaGreat
namespace Go.Proofs.YtamjajacnfmgeaaGreat
open Go Go.RowKit
set_option maxHeartbeats 1000000
def srchN (n : Int) (p : Nat → Bool) : Int := if findN n.toNat p = -1 then n else findN n.toNat p
theorem srch_eq {n i : Int} {p : Nat → Bool} (h0 : 0 ≤ i) (hi : i ≤ n) (h1 : ∀ k : Nat, (k : Int) < i → p k = false) (h2 : i < n → p i.toNat = true) : srchN n p = i := by
 unfold srchN
 rcases Int.lt_or_eq_of_le hi with h | h
 · have := findN_eq (n := n.toNat) (i := i.toNat) (by omega) (h2 h) fun j hj => h1 j (by omega)
   rw [this, if_neg (by omega)]; omega
 · have := findN_none (n := n.toNat) (p := p) fun j hj => h1 j (by omega)
   rw [this, if_pos rfl, h]
theorem srch_spec (n : Int) (hn : 0 ≤ n) (p : Nat → Bool) : 0 ≤ srchN n p ∧ srchN n p ≤ n ∧ (∀ k : Nat, (k : Int) < srchN n p → p k = false) ∧ (srchN n p < n → p (srchN n p).toNat = true) := by
 unfold srchN
 rcases findN_cases n.toNat p with ⟨h, h2⟩ | ⟨i, h, h2, h3, h4⟩
 · rw [h, if_pos rfl]
   exact ⟨hn, Int.le_refl _, fun k hk => h2 k (by omega), fun h => by omega⟩
 · rw [h, if_neg (by omega)]
   exact ⟨by omega, by omega, fun k hk => h4 k (by omega), fun _ => by simpa using h3⟩
theorem mid_eq {s : Int} (h0 : 0 ≤ s) (h1 : s ≤ 4611686018427387904) : IntKind.i64.wrap (IntKind.u64.wrap s / 2 ^ (1 : Int).toNat) = s / 2 := by
 have e : IntKind.u64.wrap s = s := by
   have : IntKind.u64.wrap s = s % 18446744073709551616 := by simp [IntKind.wrap, IntKind.bits, IntKind.signed]
   rw [this]; omega
 have e2 : (2 : Int) ^ (1 : Int).toNat = 2 := rfl
 rw [e, e2, wrap64 (by constructor <;> omega)]
structure SrchI (n : Int) (p : Nat → Bool) (i j : Int) : Prop where
  lo : 0 ≤ i
  le : i ≤ j
  hi : j ≤ n
  no : ∀ k : Nat, (k : Int) < i → p k = false
  yes : j < n → p j.toNat = true
theorem ok143 (n : Int) (hn : 0 ≤ n ∧ n ≤ 2147483648) (g : Nat) (c1 c2 : V) (p : Nat → Bool) (h : ∀ i : Nat, (i : Int) < n → Ok Tryz.prog g [vi i, c1, c2] (.bool (p i))) (hm : ∀ a b : Nat, a ≤ b → (b : Int) < n → p a = true → p b = true) : Ok Tryz.prog 143 [vi n, .fn g [c1, c2]] (vi (srchN n p)) := by
 have hN : ∀ m : Int, 0 ≤ m → m < n → Ok Tryz.prog g [vi m, c1, c2] (.bool (p m.toNat)) := fun m h0 h1 => by
   have := h m.toNat (by omega)
   rwa [show ((m.toNat : Nat) : Int) = m by omega] at this
 refine zz 26 Tryz.func143 rfl Tryz.call143 rfl (zR (zo rfl (zw (zR (zo rfl (zo rfl (zo rfl (zw (zq (Sat.loopM (fun a => (a.2 - a.1).toNat) (fun a => SrchI n p a.1 a.2) (fun a => ⟨26, lk [(1, .v (.fn g [c1, c2])), (5, .v (vi a.1)), (6, .v (vi a.2))], lk []⟩) (((0 : Int), n)) ?_ (⟨by omega, hn.1, Int.le_refl _, fun k hk => by simp at hk; omega, fun h => by simp at h⟩) (fun a hA => ?_)))))))))))
 exact zv rfl rfl rfl rfl
 obtain ⟨i, j⟩ := a
 obtain ⟨hlo, hle, hhi, hno, hyes⟩ := id hA
 simp only at hA hlo hle hhi hno hyes
 have no2 : i < j → p ((i + j) / 2).toNat = false → ∀ k : Nat, (k : Int) < (i + j) / 2 + 1 → p k = false := fun hij hf k hk => by
     cases hpk : p k with
     | false => rfl
     | true => have := hm k ((i + j) / 2).toNat (by omega) (by omega) hpk; rw [hf] at this; cases this
 refine zq (zR (zo rfl (zo rfl (zo rfl (zw (zC rfl (fun h1 => ?_) (fun h1 => ?_)))))))
 refine zk (zb rfl (zq ?_))
 have hij : i < j := of_decide_eq_true h1
 refine Sat.xto tabOk (⟨26, lk [(1, .v (.fn g [c1, c2])), (5, .v (vi i)), (6, .v (vi j)), (7, .v (vi ((i + j) / 2)))], lk []⟩) ?_ ?_
 refine wx (step_sil (zO (fun _ => rfl) ?_))
 refine wx (step_sil (zO (fun _ => rfl) ?_))
 refine wx (step_sil (sil_add rfl rfl rfl (by first | (constructor <;> omega) | (simp only [decide_eq_true_eq, decide_eq_false_iff_not, Bool.not_eq_true', Bool.not_eq_false', beq_eq_false_iff_ne, beq_iff_eq, ne_eq] at *; constructor <;> omega)) ?_))
 refine wx (step_sil (zO (fun _ => rfl) ?_))
 refine x_shr rfl rfl rfl (by decide) (by decide) (wx (step_sil (zO (fun _ => rfl) ?_)))
 refine wx (step_sil (zO (fun _ => rfl) ?_))
 exact wnX (weak_of ⟨rfl, rfl, rfl, int_eq rfl (mid_eq (by omega) (by omega)), trivial⟩ trivial rfl rfl)
 refine nq (zR (zo rfl (zo rfl (zc rfl (hN ((i + j) / 2) (by omega) (by omega)) (zo rfl (zw (zC rfl (fun h2 => ?_) (fun h2 => ?_))))))))
 refine zr (zo rfl (za rfl (zo rfl (wn (nb ?_)))))
 first | (exact nsM (((i + j) / 2 + 1, j)) (⟨by simp only; omega, by simp only; omega, hhi, no2 hij (by simpa using h2), hyes⟩) (by simp only; omega) (zv rfl rfl rfl rfl)) | (exact nsM ((i, (i + j) / 2)) (⟨hlo, by simp only; omega, by simp only; omega, hno, fun _ => by simpa using h2⟩) (by simp only; omega) (zv rfl rfl rfl rfl))
 refine zr (zo rfl (zo rfl (wn (nb ?_))))
 first | (exact nsM (((i + j) / 2 + 1, j)) (⟨by simp only; omega, by simp only; omega, hhi, no2 hij (by simpa using h2), hyes⟩) (by simp only; omega) (zv rfl rfl rfl rfl)) | (exact nsM ((i, (i + j) / 2)) (⟨hlo, by simp only; omega, by simp only; omega, hno, fun _ => by simpa using h2⟩) (by simp only; omega) (zv rfl rfl rfl rfl))
 exact Sat.exit (xq (xsM (nq (zR (zo rfl (zo rfl (zw (Sat.ret (ze rfl (by exact vint (srch_eq hA.lo (by have := hA.le; have := hA.hi; omega) hA.no (by intro hlt; have e : i = j := (by have := hA.le; simp at h1; omega); subst e; exact hA.yes hlt)).symm))))))))))
theorem ok144 (l : List Stp) (x i : Int) (h0 : 0 ≤ i) (hi : i < l.length) : Ok Tryz.prog 144 [vi i, .cp [.sl (l.map Stp.c)] 0, .cp [vi x] 0] (.bool (decide ((gt l i).fr > x))) := by
 refine zz 12 Tryz.func144 rfl Tryz.call144 rfl (zR (zo rfl (zw (zq (Sat.dr tabOk mixed (by kernel_rfl) (zO (fun _ => rfl) (zO (fun _ => rfl) (sil_index rfl rfl rfl rfl (by omega) (gt_idx (by omega) (by omega)) rfl (zO (fun _ => rfl) ?_)))))))))
 exact zO (fun _ => rfl) (zO (fun _ => rfl) (zO (fun _ => rfl) (zO (fun _ => rfl) (sn (nq (Sat.ret (ze rfl rfl)))))))
def stepI (l : List Stp) (x : Int) : Int := srchN l.length fun i => decide ((gt l i).fr > x)
def stepAt (l : List Stp) (x : Int) : Int := if stepI l x = 0 then 0 else (gt l (stepI l x - 1)).va
structure StepsP (l : List Stp) : Prop where
  len : l.length ≤ 200
  fr : ∀ i : Nat, i < l.length → -1048576 ≤ (gt l i).fr ∧ (gt l i).fr ≤ 1048576
  va : ∀ i : Nat, i < l.length → 0 ≤ (gt l i).va ∧ (gt l i).va ≤ 1099511627776
  inc : ∀ i : Nat, i + 1 < l.length → (gt l i).fr < (gt l ((i + 1 : Nat) : Int)).fr
theorem stepsP {l : List Stp} (h : stepsOk l = true) : StepsP l := by
 have hl : l.length ≤ 200 := by simp only [stepsOk, Bool.and_eq_true, Bool.not_eq_true', decide_eq_false_iff_not] at h; omega
 have hx : ∀ i, i < l.length → stepOk l i = true := by simp only [stepsOk, Bool.and_eq_true] at h; exact allN_iff.1 h.2
 refine ⟨hl, fun i hi => ?_, fun i hi => ?_, fun i hi => ?_⟩
 · have := hx i hi
   simp only [stepOk, Bool.and_eq_true, isLen_iff] at this
   exact this.1.1
 · have := hx i hi
   simp only [stepOk, Bool.and_eq_true, decide_eq_true_eq] at this
   omega
 · have := hx (i + 1) hi
   simp only [stepOk, Bool.and_eq_true, Bool.not_eq_true', Bool.and_eq_false_iff, decide_eq_false_iff_not] at this
   rcases this.2 with h | h
   · omega
   · have e : (((i + 1 : Nat) : Int) - 1) = (i : Int) := by omega
     rw [e] at h
     omega
theorem StepsP.mono {l : List Stp} (h : StepsP l) : ∀ {a b : Nat}, a ≤ b → b < l.length → (gt l a).fr ≤ (gt l b).fr := by
 intro a b hab
 induction hab with
 | refl => intro _; omega
 | @step m _ ih => intro hb; exact Int.le_trans (ih (by omega)) (Int.le_of_lt (h.inc m hb))
theorem ok91 (l : List Stp) (x : Int) (h : stepsOk l = true) : Ok Tryz.prog 91 [.sl (l.map Stp.c), vi x] (vi (stepAt l x)) := by
 have hp := stepsP h
 have hl := hp.len
 obtain ⟨s1, s2, s3, s4⟩ := srch_spec l.length (by omega) fun i => decide ((gt l i).fr > x)
 change 0 ≤ stepI l x at s1
 change stepI l x ≤ _ at s2
 clear s3 s4
 unfold stepAt
 refine zz 18 Tryz.func91 rfl Tryz.call91 rfl (zR (zo rfl (zo rfl (zo rfl (zw (zq (Sat.to tabOk (⟨18, lk [(2, .ptr 2 0), (5, .v (vi (stepI l x)))], lk [(2, ⟨.cells [.v (.sl (l.map Stp.c))], true⟩)]⟩) ?_ ?_)))))))
 exact zo rfl (zo rfl (zo rfl (step_call rfl rfl rfl (ok143 ((l.map Stp.c).length : Nat) (by simp; omega) 144 (.cp [.sl (l.map Stp.c)] 0) (.cp [vi x] 0) (fun i => decide ((gt l i).fr > x)) (fun i hi => ok144 l x i (by omega) (by simpa using hi)) (fun a b hab hb ha => by have := hp.mono hab (by simpa using hb); simp at ha ⊢; omega)) (zo rfl (wn (weak_of ⟨rfl, int_eq rfl (by unfold stepI; rw [List.length_map]), trivial⟩ ⟨rfl, trivial⟩ rfl rfl))))))
 refine nq (zq (zR (zo rfl (zo rfl (zw (zC rfl (fun h1 => ?_) (fun h1 => ?_)))))))
 exact zR (zo rfl (zw (Sat.ret (rq (ze rfl (by first | (have := eq_of_beq ‹_ = true›; rw [if_pos this]; done) | (have := ne_of_beq_false ‹_ = false›; rw [if_neg this]; done)))))))
 refine zk (zR (zo rfl (zo rfl (zs rfl (step_sil (sil_index rfl rfl rfl rfl (by have := ne_of_beq_false h1; omega) (gt_idx (by have := ne_of_beq_false h1; omega) (by omega)) rfl ?_))))))
 exact zo rfl (zo rfl (zo rfl (zw (Sat.ret (ze rfl (by first | (have := eq_of_beq ‹_ = true›; rw [if_pos this]; done) | (have := ne_of_beq_false ‹_ = false›; rw [if_neg this]; done)))))))
theorem ok43 (l : List Stp) (x : Int) (h : stepsOk l = true) : Ok Tryz.prog 43 [.sl (l.map Stp.c), vi x] (.tp [vi (stepAt l x), vi 0]) := by
 refine zz 12 Tryz.func43 rfl Tryz.call43 rfl (zR (zo rfl (zo rfl (zw (zq (zR (zo rfl (zc rfl (ok90 l h) (zo rfl ?_)))))))))
 refine zw (zn rfl (rfl) (zk (zR (zo rfl (zo rfl (zc rfl (ok91 l x h) (zo rfl (zo rfl (zw (Sat.ret ?_))))))))))
 exact ze rfl rfl
theorem demR_parts {d : Dem} (h : demR d = true) : boxOk d.zone = true ∧ stepsOk d.steps = true := by
 simp only [demR, Bool.and_eq_true] at h
 exact ⟨h.1.2, h.2⟩
theorem ok18 (d : Dem) (x : Int) (h : demR d = true) : Ok Tryz.prog 18 [.ag d.c, vi x] (.tp [vi (stepAt d.steps x), vi 0]) := by
 refine zz 15 Tryz.func18 rfl Tryz.call18 rfl (zR (zo rfl (zo rfl (zo rfl (zw (zq (zR (zo rfl (zc rfl (ok42 d h) ?_)))))))))
 refine zo rfl (zw (zn rfl (rfl) (zk (zR (zo rfl (zo rfl (zo rfl (zc rfl (ok43 d.steps x (demR_parts h).2) (zo rfl ?_)))))))))
 exact zo rfl (zo rfl (zo rfl (zw (Sat.ret (ze rfl rfl)))))
def prevV (l : List Stp) : Nat → Int
  | 0 => 0
  | n + 1 => (gt l n).va
def shortN (l : List Stp) : Nat → List Stp
  | 0 => []
  | n + 1 => if ((gt l n).va != prevV l n) = true then shortN l n ++ [gt l n] else shortN l n
theorem shortN_len (l : List Stp) : ∀ n, (shortN l n).length ≤ n
  | 0 => Nat.le_refl _
  | n + 1 => by have := shortN_len l n; simp only [shortN]; split <;> simp <;> omega
theorem shortN_t {l : List Stp} {n : Nat} (h : ((gt l n).va != prevV l n) = true) : (shortN l n).map Stp.c ++ [(gt l n).c] = (shortN l (n + 1)).map Stp.c := by simp [shortN, h]
theorem shortN_f {l : List Stp} {n : Nat} (h : ((gt l n).va != prevV l n) = false) : (shortN l n).map Stp.c = (shortN l (n + 1)).map Stp.c := by simp [shortN, h]
theorem ok167 (l : List Stp) (hl : l.length ≤ 1000) : Ok Tryz.prog 167 [.sl (l.map Stp.c)] (.sl ((shortN l l.length).map Stp.c)) := by
 refine zz 25 Tryz.func167 rfl Tryz.call167 rfl (zR (zo rfl (zw (zR (zo rfl (zw (zR (zo rfl (zw (zq (zR (zo rfl ?_))))))))))))
 refine zo rfl (zo rfl (zw (Sat.loop' (fun _ => True) (fun i => ⟨25, lk [(3, slD 20 2 ((shortN l i).map Stp.c)), (4, .v (vi (prevV l i))), (7, .v (.sl (l.map Stp.c))), (8, .v (vi (l.map Stp.c).length)), (9, .v (vi i))], lkO [(20, slS 2 ((shortN l i).map Stp.c))]⟩) (l.length) ?_ (trivial) (fun i hi hI => ?_) (fun hI => ?_))))
 exact weakO ⟨rfl, rfl, rfl, rfl, rfl, trivial⟩ ⟨soS rfl, trivial⟩ (by repeat' (first | exact trivial | exact rfl | exact slD_ment rfl | exact moS | exact mo rfl | refine ⟨?_, ?_⟩)) (by repeat' (first | exact trivial | exact rfl | exact slD_ment rfl | exact moS | exact mo rfl | refine ⟨?_, ?_⟩))
 refine zR (zo rfl (zw (zq (zy rfl (by simp [hi]) (zk (zq (zb rfl (zR (zi rfl rfl rfl rfl rfl ?_)))))))))
 refine zo rfl (zo rfl (zd rfl rfl (zw (zq (zR (zo rfl (zo rfl (zo rfl (zo rfl ?_)))))))))
 refine zw (zC rfl (fun h1 => ?_) (fun h1 => ?_))
 refine zr (zo rfl (zo rfl (zo rfl ?_)))
 first | (refine step_app1 rfl (by first | exact .inl rfl | (right; simp)) rfl rfl rfl rfl rfl rfl (by have := shortN_len l i; simp; omega) rfl ?_) | (refine step_op rfl rfl rfl ?_)
 refine zo rfl (zw (zr (zo rfl (zo rfl (zo rfl (wn (nb (nq (zr ?_)))))))))
 exact za rfl (zo rfl (wn (ns trivial (weakO ⟨slD_eq rfl (by first | exact shortN_t h1 | exact shortN_f h1), rfl, rfl, rfl, rfl, trivial⟩ ⟨by first | exact soA rfl (shortN_t h1) | exact soS (by rw [← shortN_f h1]; rfl), trivial⟩ (by repeat' (first | exact trivial | exact rfl | exact slD_ment rfl | exact moS | exact mo rfl | refine ⟨?_, ?_⟩)) (by repeat' (first | exact trivial | exact rfl | exact slD_ment rfl | exact moS | exact mo rfl | refine ⟨?_, ?_⟩))))))
 refine zk (zr (zo rfl (zo rfl (zo rfl (wn (nb (nq (zr (za rfl ?_)))))))))
 exact zo rfl (wn (ns trivial (weakO ⟨slD_eq rfl (by first | exact shortN_t h1 | exact shortN_f h1), rfl, rfl, rfl, rfl, trivial⟩ ⟨by first | exact soA rfl (shortN_t h1) | exact soS (by rw [← shortN_f h1]; rfl), trivial⟩ (by repeat' (first | exact trivial | exact rfl | exact slD_ment rfl | exact moS | exact mo rfl | refine ⟨?_, ?_⟩)) (by repeat' (first | exact trivial | exact rfl | exact slD_ment rfl | exact moS | exact mo rfl | refine ⟨?_, ?_⟩)))))
 refine zR (zo rfl (zw (zq (zn rfl (by simp) (Sat.exit (xq (xe (nq (Sat.pubS 3 rfl rfl ?_)))))))))
 exact zR (zo rfl (zo rfl (zw (Sat.ret (ze rfl rfl)))))
theorem ok109 (l : List Stp) (h : stepsOk l = true) : Ok Tryz.prog 109 [.sl (l.map Stp.c)] (.tp [.sl ((shortN l l.length).map Stp.c), vi 0]) := by
 have hl := (stepsP h).len
 refine zz 9 Tryz.func109 rfl Tryz.call109 rfl (zR (zo rfl (zo rfl (zw (zq (zR (zo rfl (zc rfl (ok90 l h) (zo rfl ?_)))))))))
 refine zw (zn rfl (rfl) (zk (zR (zo rfl (zc rfl (ok167 l (by omega)) (zo rfl (zo rfl (zw (Sat.ret ?_)))))))))
 exact ze rfl rfl
end Go.Proofs.YtamjajacnfmgeaaGreat
namespace Go.Proofs.YtamjajacnfmgeaaGreat
open Go Go.RowKit
set_option maxHeartbeats 1000000
def rodC (bars : List Bar) (runs : List Run) (a : Int) : List V :=
  [.str (barAt bars runs a).mark, vi (barAt bars runs a).size, vi (barAt bars runs a).count, vi (barAt bars runs a).code, .sl ((barAt bars runs a).dims.map ic), .sl ((legsAt bars runs a).map Bx.c), vi (mainIx (legsAt bars runs a))]
def rodRows (bars : List Bar) (runs : List Run) (n : Nat) : List (List V) := (List.range n).map fun i : Nat => rodC bars runs i
theorem rodRows_len (bars : List Bar) (runs : List Run) (n : Nat) : (rodRows bars runs n).length = n := by simp [rodRows]
theorem rodRows_snoc (bars : List Bar) (runs : List Run) (n : Nat) : rodRows bars runs (n + 1) = rodRows bars runs n ++ [rodC bars runs (n : Int)] := rangeM_snoc _ _
theorem rodRows_at (bars : List Bar) (runs : List Run) {n : Nat} {a : Int} (h0 : 0 ≤ a) (h1 : a < n) : (rodRows bars runs n)[a.toNat]? = some (rodC bars runs a) := by
 have : a.toNat < n := by omega
 have e : ((a.toNat : Nat) : Int) = a := by omega
 rw [rodRows, List.getElem?_map, List.getElem?_range this, Option.map_some, e]
theorem ok98 (b : Bar) (m : ByteArray) : Ok Tryz.prog 98 [.ag b.c, .cp [.str m] 0] (.bool (beqB b.mark m)) := by
 refine zz 8 Tryz.func98 rfl Tryz.call98 rfl (zR (zo rfl (zo rfl (zw (zR (zo rfl (zo rfl (zo rfl (zo rfl ?_)))))))))
 exact zo rfl (zw (Sat.ret (ze rfl rfl)))
theorem ok97m (l : List Bar) (hl : l.length ≤ 1000) (m : ByteArray) : Ok Tryz.prog 97 [.sl (l.map Bar.c), .fn 98 [.cp [.str m] 0]] (vi (markIx l m)) :=
  ok97_1 l (by omega) 98 (.cp [.str m] 0) (fun i => beqB (gt l i).mark m) fun i _ => ok98 _ _
theorem ok100 (b : Bx) : Ok Tryz.prog 100 [.ag b.c] (.bool (isMain b)) := by
 unfold isMain
 refine zz 28 Tryz.func100 rfl Tryz.call100 rfl (zR (zo rfl (zo rfl (zw (zR (zo rfl (zo rfl (zo rfl (zo rfl ?_)))))))))
 refine zo rfl (zo rfl (zo rfl (zo rfl (zT rfl (fun h1 => ?_) (fun h1 => ?_)))))
 refine zO (fun _ => rfl) (zh rfl h1 rfl (zh rfl h1 rfl (zh rfl h1 rfl (zh rfl h1 rfl (zh rfl h1 rfl (zh rfl h1 rfl (zp rfl h1 rfl (zo rfl (zT rfl (fun h2 => ?_) (fun h2 => ?_))))))))))
 refine zO (fun _ => rfl) (zh rfl h2 rfl (zh rfl h2 rfl (zh rfl h2 rfl (zh rfl h2 rfl (zh rfl h2 rfl (zh rfl h2 rfl (zp rfl h2 rfl (zo rfl (zw (Sat.ret ?_))))))))))
 exact zg rfl
 refine zt rfl h2 (zt rfl h2 (zt rfl h2 (zt rfl h2 (zt rfl h2 (zt rfl h2 (zP rfl h2 rfl (zo rfl (zw (Sat.ret ?_)))))))))
 exact zg rfl
 refine zt rfl h1 (zt rfl h1 (zt rfl h1 (zt rfl h1 (zt rfl h1 (zt rfl h1 (zP rfl h1 rfl (zo rfl (zt rfl rfl (zt rfl rfl ?_)))))))))
 exact zt rfl rfl (zt rfl rfl (zt rfl rfl (zt rfl rfl (zt rfl rfl (zP rfl rfl rfl (zo rfl (zw (Sat.ret (zg rfl)))))))))
theorem ok99m (l : List Bx) (hl : l.length ≤ 1000) : Ok Tryz.prog 99 [.sl (l.map Bx.c), .fn 100 []] (vi (mainIx l)) :=
  ok99_0 l (by omega) 100 (fun i => isMain (gt l i)) fun i _ => ok100 _
theorem total_le {x : Det} (h : runsOk x.bars x.runs = true) : 0 ≤ total x.runs ∧ total x.runs ≤ 2000 := ⟨((runsP h).pre (Nat.le_refl _)).1, (runsP h).tot⟩
theorem ok47 (x : Det) (h : runsOk x.bars x.runs = true) : Ok Tryz.prog 47 [.ag x.c] (.tp [.sl (rodRows x.bars x.runs (total x.runs).toNat), vi 0]) := by
 have hp := runsP h
 have ht := total_le h
 have hbl := hp.bl
 refine zz 71 Tryz.func47 rfl Tryz.call47 rfl (zR (zo rfl (zo rfl (zo rfl (zw (zR (zo rfl (zo rfl (zo rfl ?_)))))))))
 refine zo rfl (zc rfl (ok62 x.bars x.runs h) (zo rfl (zo rfl (zo rfl (zo rfl (zo rfl (zw (zq (zR (zo rfl ?_))))))))))
 refine zo rfl (zw (zn rfl (rfl) (zk (zR (zo rfl (zw (zq (zR (zo rfl ?_)))))))))
 refine zo rfl (zw (Sat.loop' (fun _ => True) (fun i => ⟨71, lk [(1, .ptr 1 0), (6, slD 68 7 (rodRows x.bars x.runs i)), (22, .v (vi (total x.runs))), (23, .v (vi i))], lkO [(1, some ⟨.cells (x.c.map .v), false⟩), (68, slS 7 (rodRows x.bars x.runs i))]⟩) ((total x.runs).toNat) ?_ (trivial) (fun i hi hI => ?_) (fun hI => ?_)))
 exact weakO ⟨rfl, rfl, rfl, rfl, trivial⟩ ⟨so rfl, soS rfl, trivial⟩ (by repeat' (first | exact trivial | exact rfl | exact slD_ment rfl | exact moS | exact mo rfl | refine ⟨?_, ?_⟩)) (by repeat' (first | exact trivial | exact rfl | exact slD_ment rfl | exact moS | exact mo rfl | refine ⟨?_, ?_⟩))
 obtain ⟨g1, g2, g3, g4⟩ := place_spec hp (n := (i : Int)) (by omega) (by omega)
 obtain ⟨k1, k2, k3⟩ := hp.bar g1
 change 0 ≤ markIx x.bars (runAt x.runs i).mark at k1
 change markIx x.bars (runAt x.runs i).mark < x.bars.length at k2
 have hgl := legs_len x.bars x.runs i
 refine zR (zo rfl (zw (zq (zy rfl (by simp; omega) (zk (zq (zb rfl (zR (zo rfl ?_)))))))))
 refine zo rfl (zw (zR (zo rfl (zo rfl (zo rfl (zo rfl (zo rfl (zc rfl (ok95 x.bars x.runs h i (by omega) (by omega)) (zo rfl ?_)))))))))
 refine zo rfl (zo rfl (zo rfl (zd rfl rfl (zo rfl (zw (zq (zR (zo rfl (zo rfl ?_)))))))))
 refine zw (zn rfl (rfl) (zk (zR (zo rfl (zo rfl (zd rfl rfl (zw (zq (zR (zo rfl ?_))))))))))
 refine zo rfl (zo rfl (zo rfl (zo rfl (zc rfl (ok96 x.bars x.runs h i (by omega) (by omega)) (zo rfl (zo rfl (zo rfl (zo rfl (zd rfl rfl ?_)))))))))
 refine zo rfl (zw (zR (zo rfl (zo rfl (zw (zn rfl (rfl) (zk (zq (Sat.dwN tabOk mixed [1, 10] [5, 9] [0, 1, 2, 3, 4, 5, 6, 7, 8, 9] (by decide) (by kernel_rfl) ?_)))))))))
 refine walk_sil rfl rfl (zO (fun _ => rfl) ?_)
 refine walk_sil rfl rfl (zO (fun _ => rfl) ?_)
 refine walk_sil rfl rfl (zO (fun _ => rfl) ?_)
 refine walk_sil rfl rfl (zO (fun _ => rfl) ?_)
 refine walk_sil rfl rfl (zO (fun _ => rfl) ?_)
 refine walk_eff rfl rfl (step_call rfl rfl rfl (ok97m x.bars (by omega) (runAt x.runs i).mark) ⟨fun _ => ovr_eq ⟨rfl, rfl, trivial⟩, ?_⟩)
 refine walk_sil rfl rfl (sil_index rfl rfl rfl rfl (by omega) (gt_idx (by omega) (by omega)) rfl ?_)
 refine walk_sil rfl rfl (zO (fun _ => rfl) ?_)
 refine walk_sil rfl rfl (zO (fun _ => rfl) ?_)
 refine walk_eff rfl rfl (step_do rfl rfl ⟨lastly_no (by kernel_rfl), ?_⟩)
 refine kn (nq (zR (zo rfl (zo rfl (zc rfl (ok99m _ (by omega)) (zo rfl (zd rfl rfl (zw (zr ?_)))))))))
 refine zo rfl (zo rfl (zo rfl ?_))
 first | (refine step_app1 rfl (by first | exact .inl rfl | (right; simp)) rfl rfl rfl rfl rfl rfl (by rw [rodRows_len]; omega) rfl ?_) | (refine step_op rfl rfl rfl ?_)
 exact zo rfl (wn (nb (nq (zr (za rfl (zo rfl (wn (ns trivial (weakO ⟨rfl, slD_eq rfl (rodRows_snoc _ _ _).symm, rfl, rfl, trivial⟩ ⟨so rfl, soA rfl (rodRows_snoc _ _ _).symm, trivial⟩ (by repeat' (first | exact trivial | exact rfl | exact slD_ment rfl | exact moS | exact mo rfl | refine ⟨?_, ?_⟩)) (by repeat' (first | exact trivial | exact rfl | exact slD_ment rfl | exact moS | exact mo rfl | refine ⟨?_, ?_⟩)))))))))))
 refine zR (zo rfl (zw (zq (zn rfl (by simp; omega) (Sat.exit (xq (xe (nq (Sat.pubS 6 rfl rfl ?_)))))))))
 exact zR (zo rfl (zo rfl (zo rfl (zw (Sat.ret (ze rfl rfl))))))
theorem main_range {bars : List Bar} {runs : List Run} {n : Int} (h : hasMain bars runs n = true) : 0 ≤ mainIx (legsAt bars runs n) ∧ mainIx (legsAt bars runs n) < (legsAt bars runs n).length ∧ mainAt bars runs n = gt (legsAt bars runs n) (mainIx (legsAt bars runs n)) := by
 have hm := findN_lt (legsAt bars runs n).length fun i => isMain (gt (legsAt bars runs n) i)
 change -1 ≤ mainIx (legsAt bars runs n) ∧ _ at hm
 simp only [hasMain, Bool.not_eq_true', decide_eq_false_iff_not] at h
 refine ⟨by omega, hm.2, ?_⟩
 unfold mainAt
 rw [if_neg h]
theorem ok44 (bars : List Bar) (runs : List Run) (n : Int) (h : hasMain bars runs n = true) : Ok Tryz.prog 44 [.ag (rodC bars runs n)] (.ag (mainAt bars runs n).c) := by
 obtain ⟨h1, h2, h3⟩ := main_range h
 rw [h3]
 refine zz 9 Tryz.func44 rfl Tryz.call44 rfl (zR (zo rfl (zo rfl (zw (zR (zo rfl (zo rfl (zo rfl (zo rfl ?_)))))))))
 refine step_sil (sil_index rfl rfl rfl rfl h1 (gt_idx h1 h2) rfl ?_)
 exact zo rfl (zd rfl rfl (zw (Sat.ret (ze rfl rfl))))
theorem ok20 (x : Det) (h : detOk x = true) (n : Int) (h0 : 0 ≤ n) (hn : n < total x.runs) (hm : hasMain x.bars x.runs n = true) : Ok Tryz.prog 20 [.ag x.c, vi n] (.tp [.ag (mainAt x.bars x.runs n).c, vi 0]) := by
 have hP := detP h
 obtain ⟨h1, h2, h3⟩ := main_range hm
 have hrl := rodRows_len x.bars x.runs (total x.runs).toNat
 refine zz 45 Tryz.func20 rfl Tryz.call20 rfl (zR (zo rfl (zo rfl (zo rfl (zw (zq (zR (zo rfl (zc rfl (ok46 x h) ?_)))))))))
 refine zo rfl (zw (zn rfl (by first | rfl | (simp; omega)) (zk (zR (zo rfl (zc rfl (ok47 x hP.runs) (zo rfl (zo rfl (zo rfl ?_)))))))))
 refine zo rfl (zo rfl (zw (zq (zb rfl (zR (zo rfl (zo rfl (zo rfl (zw (zn rfl (by first | rfl | (simp; omega)) ?_))))))))))
 refine zq (Sat.to tabOk (⟨45, lk [(1, .v (vi n)), (4, .ptr 4 0), (6, .v (.sl (rodRows x.bars x.runs (total x.runs).toNat))), (22, .v (.bool false))], lk [(4, ⟨.cells ((Bx.mk 0 0 0 0 0 0).c.map .v), false⟩)]⟩) ?_ ?_)
 refine zo rfl (zo rfl (zo rfl (zF rfl (fun h1 => ?_) (fun h1 => ?_))))
 exact zO (fun _ => rfl) (zh rfl h1 rfl (zh rfl h1 rfl (zh rfl h1 rfl (zP rfl h1 rfl (zo rfl (wn (weak_of ⟨rfl, rfl, rfl, bool_eq rfl (by first | rfl | (simp_all; done) | (simp_all; omega)), trivial⟩ ⟨rfl, trivial⟩ rfl rfl)))))))
 exact zf rfl h1 (zf rfl h1 (zf rfl h1 (zp rfl h1 rfl (zo rfl (wn (weak_of ⟨rfl, rfl, rfl, bool_eq rfl (by first | rfl | (simp_all; done) | (simp_all; omega)), trivial⟩ ⟨rfl, trivial⟩ rfl rfl))))))
 refine nq (zn rfl (by first | rfl | (simp; omega)) (zR (zo rfl (zo rfl (step_sil (sil_index rfl rfl rfl rfl (by omega) (rodRows_at _ _ (by omega) (by omega)) rfl ?_))))))
 refine zo rfl (zo rfl (zo rfl (zo rfl (zw (zn rfl (by first | rfl | (simp; omega)) (Sat.skip (nb (nq (zR (zo rfl ?_))))))))))
 refine zo rfl (step_sil (sil_index rfl rfl rfl rfl (by omega) (rodRows_at _ _ (by omega) (by omega)) rfl ?_))
 exact zo rfl (zc rfl (ok44 x.bars x.runs n hm) (zd rfl rfl (zo rfl (zw (Sat.ret (ze rfl rfl))))))
end Go.Proofs.YtamjajacnfmgeaaGreat
