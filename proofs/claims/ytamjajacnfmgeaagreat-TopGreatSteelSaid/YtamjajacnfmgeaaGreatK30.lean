/-
  Contracts: main legs of all laid bars in the program. Condition: valid in the reference.
-/
import Derived.Test.YtamjajacnfmgeaaGreatK29
set_option linter.all false
namespace Go.Proofs.YtamjajacnfmgeaaGreat
open Go Go.RowKit
set_option maxHeartbeats 1000000
theorem run_mul {bars : List Bar} {r : Run} (hr : RunV bars r) {k : Int} (h0 : 0 ≤ k) (hk : k < r.count) : (-2097152000 ≤ k * r.sx ∧ k * r.sx ≤ 2097152000) ∧ (-2097152000 ≤ k * r.sy ∧ k * r.sy ≤ 2097152000) ∧ (-2097152000 ≤ k * r.sz ∧ k * r.sz ≤ 2097152000) := by
 rcases Int.lt_or_eq_of_le h0 with hp | rfl
 · obtain ⟨s1, s2, s3⟩ := hr.st (by omega)
   have hc := hr.cnt
   have m1 := mul_in (a := k) (b := r.sx) (A := 1000) (B := 2097152) (by omega) s1
   have m2 := mul_in (a := k) (b := r.sy) (A := 1000) (B := 2097152) (by omega) s2
   have m3 := mul_in (a := k) (b := r.sz) (A := 1000) (B := 2097152) (by omega) s3
   omega
 · simp
theorem img_zero (s t : Int) : img s t ⟨0, 0, 0⟩ = ⟨0, 0, 0⟩ := by simp [img]
theorem at_pt (r : Run) {k : Int} (h0 : 0 ≤ k) : r.at k = ⟨r.ax + k * r.sx, r.ay + k * r.sy, r.az + k * r.sz⟩ := by
 unfold Run.at
 split
 · simp only [Int.mul_comm]
 · obtain rfl : k = 0 := by omega
   simp
theorem pt_zero (b : Bar) (r : Run) (k : Int) : ptOf b r k 0 = r.at k := by
 have : posAt (movesOf b) 0 = ⟨0, 0, 0⟩ := rfl
 unfold ptOf
 rw [this]
 simp [Run.img, img_zero, addP]
theorem place_pts (b : Bar) (r : Run) {k : Int} (h0 : 0 ≤ k) : placeL r.tx r.ty ⟨r.ax + k * r.sx, r.ay + k * r.sy, r.az + k * r.sz⟩ (pathOf (movesOf b)) = ptsOf b r k := by
 unfold placeL ptsOf
 rw [show (pathOf (movesOf b)).length = (movesOf b).length + 1 by simp [pathOf]]
 refine List.map_congr_left fun i hi => ?_
 have hi := List.mem_range.1 hi
 rw [pathOf, rangeM_gt (by omega) (by omega), ← at_pt r h0]
 rfl
theorem ok210p {bars : List Bar} {r : Run} (hb : barsOk bars = true) (hr : runOk bars r = true) {k : Int} (h0 : 0 ≤ k) (hk : k < r.count) :
    Ok Tryz.prog 210 [.ag [vi r.tx, vi r.ty], .ag [vi (r.ax + k * r.sx), vi (r.ay + k * r.sy), vi (r.az + k * r.sz)], .sl ((pathOf (movesOf (barOf bars r))).map Pt.c)] (.tp [.sl ((ptsOf (barOf bars r) r k).map Pt.c), vi 0]) := by
 have hbp := barP (bar_ok hb (runV hr).ix)
 have hml := moves_len (barOf bars r)
 have hpl : (pathOf (movesOf (barOf bars r))).length = (movesOf (barOf bars r)).length + 1 := by simp [pathOf]
 have := ok210 r.tx r.ty ⟨r.ax + k * r.sx, r.ay + k * r.sy, r.az + k * r.sz⟩ (pathOf (movesOf (barOf bars r))) (runOk_turn hr) (by rw [← at_pt r h0, ← pt_zero (barOf bars r)]; exact near_mid hr h0 hk (by omega)) (by omega) fun i hi => by
   rw [pathOf, rangeM_gt (by omega) (by omega)]
   exact (posAt_in2 hbp (by omega)).mono (by omega)
 rwa [place_pts _ _ h0] at this
theorem at_ij {bars : List Bar} {runs : List Run} (hp : RunsP bars runs) {i k : Nat} (hi : i < runs.length) (hk : (k : Int) < (gt runs i).count) : plK runs (((preC runs i).toNat + k : Nat) : Int) = i ∧ plJ runs (((preC runs i).toNat + k : Nat) : Int) = k := by
 have h0 := (hp.pre (k := i) (by omega)).1
 have e : ((((preC runs i).toNat + k : Nat)) : Int) = preC runs i + k := by omega
 have e2 : preC runs (i + 1) = preC runs i + (gt runs i).count := rfl
 have h1 := plK_eq hp (n := preC runs i + k) hi (by omega) (by omega)
 rw [e]
 refine ⟨h1, ?_⟩
 unfold plJ
 rw [h1]; omega
theorem pts_ij {bars : List Bar} {runs : List Run} (hp : RunsP bars runs) {i k : Nat} (hi : i < runs.length) (hk : (k : Int) < (gt runs i).count) : barAt bars runs (((preC runs i).toNat + k : Nat) : Int) = barOf bars (gt runs i) ∧ ptsAt bars runs (((preC runs i).toNat + k : Nat) : Int) = ptsOf (barOf bars (gt runs i)) (gt runs i) k := by
 obtain ⟨h1, h2⟩ := at_ij hp hi hk
 have hr : runAt runs (((preC runs i).toNat + k : Nat) : Int) = gt runs i := by unfold runAt; rw [h1]
 have hb : barAt bars runs (((preC runs i).toNat + k : Nat) : Int) = barOf bars (gt runs i) := by unfold barAt; rw [hr]
 refine ⟨hb, ?_⟩
 unfold ptsAt
 rw [hb, hr, h2]
def mainRow (bars : List Bar) (runs : List Run) (n : Nat) : List V :=
  [vi (mainAt bars runs n).lx, vi (mainAt bars runs n).ly, vi (mainAt bars runs n).lz, vi (mainAt bars runs n).hx, vi (mainAt bars runs n).hy, vi (mainAt bars runs n).hz, .bool (hasMain bars runs n), vi (barAt bars runs n).size, .str (barAt bars runs n).mark]
def mainRows (bars : List Bar) (runs : List Run) (n : Nat) : List (List V) := (List.range n).map (mainRow bars runs)
theorem mainRows_len (bars : List Bar) (runs : List Run) (n : Nat) : (mainRows bars runs n).length = n := by simp [mainRows]
theorem mainRows_snoc (bars : List Bar) (runs : List Run) (n : Nat) : mainRows bars runs (n + 1) = mainRows bars runs n ++ [mainRow bars runs n] := rangeM_snoc _ _
structure MainI (L : List Pt) (j : Nat) (f : Bool) (b : Bx) : Prop where
  no : f = false → b = ⟨0, 0, 0, 0, 0, 0⟩ ∧ j ≤ L.length - 1 ∧ ∀ i, i < j → isMain (legAt L i) = false
  yes : f = true → ∃ i, i < L.length - 1 ∧ isMain (legAt L i) = true ∧ (∀ j, j < i → isMain (legAt L j) = false) ∧ b = legAt L i
  le : j ≤ L.length
theorem legs_gt {L : List Pt} {i : Nat} (h : i < L.length - 1) : gt (legsOf L) (i : Int) = legAt L i := by
 rw [legsOf, rangeM_gt (by omega) (by omega)]; rfl
theorem mainI_done {L : List Pt} {j : Nat} {f : Bool} {b : Bx} (h : MainI L j f b) (hx : f = true ∨ ¬ ((j : Int) + 1 < L.length)) : f = !decide (mainIx (legsOf L) < 0) ∧ b = if mainIx (legsOf L) < 0 then ⟨0, 0, 0, 0, 0, 0⟩ else gt (legsOf L) (mainIx (legsOf L)) := by
 have hll : (legsOf L).length = L.length - 1 := by simp [legsOf]
 cases f with
 | true =>
   obtain ⟨i, h1, h2, h3, h4⟩ := h.yes rfl
   have e : mainIx (legsOf L) = i := findN_eq (by omega) (by rw [legs_gt h1]; exact h2) fun j hj => by rw [legs_gt (by omega)]; exact h3 j hj
   rw [e, if_neg (by omega), legs_gt h1]
   exact ⟨by simp, h4⟩
 | false =>
   obtain ⟨h1, h2, h3⟩ := h.no rfl
   have hx := hx.resolve_left (fun h => by cases h)
   have e : mainIx (legsOf L) = -1 := findN_none fun k hk => by rw [legs_gt (by omega)]; exact h3 k (by omega)
   rw [e]
   exact ⟨rfl, h1⟩
theorem main_leg {p q : Pt} (h1 : (p.x != q.x) = true) (h2 : (p.y == q.y) = true) (h3 : (p.z == q.z) = true) : isMain (hull2 p q) = true ∧ (⟨mn p.x q.x, p.y, p.z, mx p.x q.x, p.y, p.z⟩ : Bx) = hull2 p q := by
 simp only [bne_iff_ne, ne_eq, beq_iff_eq] at h1 h2 h3
 have a1 := mn_le p.x q.x
 have a2 := le_mx p.x q.x
 unfold hull2
 rw [← h2, ← h3, mn_self, mx_self, mn_self, mx_self]
 refine ⟨?_, rfl⟩
 simp [isMain]
 omega
theorem main_no {p q : Pt} (h : ((p.x != q.x) && (p.y == q.y) && (p.z == q.z)) = false) : isMain (hull2 p q) = false := by
 have a1 := mn_le p.x q.x
 have a2 := le_mx p.x q.x
 have b1 := mn_le p.y q.y
 have b2 := le_mx p.y q.y
 have c1 := mn_le p.z q.z
 have c2 := le_mx p.z q.z
 cases hm : isMain (hull2 p q) with
 | false => rfl
 | true =>
   exfalso
   simp only [isMain, Bool.and_eq_true, decide_eq_true_eq, beq_iff_eq] at hm
   simp only [hull2] at hm
   have e2 : p.y = q.y := by omega
   have e3 : p.z = q.z := by omega
   rw [e2, e3] at h
   simp at h
   have hm1 := hm.1.1
   rw [h, mn_self, mx_self] at hm1
   omega
theorem mainI_next {L : List Pt} {j : Nat} {b : Bx} (h : MainI L j false b) (hj : (j : Int) + 1 < L.length) (hn : isMain (legAt L j) = false) : MainI L (j + 1) false b :=
  ⟨fun _ => ⟨(h.no rfl).1, by omega, fun i hi => by
    rcases Nat.lt_or_ge i j with h1 | h1
    · exact (h.no rfl).2.2 i h1
    · have : i = j := by omega
      rw [this]; exact hn⟩, (fun h => by cases h), by omega⟩
theorem mainI_found {L : List Pt} {j : Nat} {b c : Bx} (h : MainI L j false b) (hj : (j : Int) + 1 < L.length) (hn : isMain (legAt L j) = true) (hc : c = legAt L j) : MainI L (j + 1) true c :=
  ⟨(fun h => by cases h), (fun _ => ⟨j, by omega, hn, fun i hi => (h.no rfl).2.2 i hi, hc⟩), by omega⟩
theorem mainRow_eq {bars : List Bar} {runs : List Run} {n : Nat} {b : Bar} {L : List Pt} {f : Bool} {c : Bx} (q1 : barAt bars runs (n : Int) = b) (q2 : ptsAt bars runs n = L) (hd : f = (!decide (mainIx (legsOf L) < 0)) ∧ c = if mainIx (legsOf L) < 0 then ⟨0, 0, 0, 0, 0, 0⟩ else gt (legsOf L) (mainIx (legsOf L))) :
    mainRows bars runs n ++ [[vi c.lx, vi c.ly, vi c.lz, vi c.hx, vi c.hy, vi c.hz, .bool f, vi b.size, .str b.mark]] = mainRows bars runs (n + 1) := by
 rw [mainRows_snoc]
 unfold mainRow hasMain mainAt legsAt
 rw [q1, q2, ← hd.2, ← hd.1]
theorem ok159 (x : Det) (h : runsOk x.bars x.runs = true) : Ok Tryz.prog 159 [.ag x.c] (.sl (mainRows x.bars x.runs (total x.runs).toNat)) := by
 have hp := runsP h
 obtain ⟨hb, hr⟩ := runsOk_parts h
 have hrl := hp.rl
 have hbl := hp.bl
 refine zz 164 Tryz.func159 rfl Tryz.call159 rfl (zR (zo rfl (zo rfl (zw (zR (zo rfl (zw (zq (zR (zo rfl ?_))))))))))
 refine zo rfl (zo rfl (zo rfl (zw (Sat.loop' (fun _ => True) (fun i => ⟨164, lk [(1, .ptr 1 0), (3, slD 160 9 (mainRows x.bars x.runs (preC x.runs i).toNat)), (19, .v (.sl (x.runs.map Run.c))), (20, .v (vi (x.runs.map Run.c).length)), (21, .v (vi i))], lkO [(1, some ⟨.cells (x.c.map .v), false⟩), (160, slS 9 (mainRows x.bars x.runs (preC x.runs i).toNat))]⟩) (x.runs.length) ?_ (trivial) (fun i hi hI => ?_) (fun hI => ?_)))))
 exact weakO ⟨rfl, rfl, rfl, rfl, rfl, trivial⟩ ⟨so rfl, soS rfl, trivial⟩ (by repeat' (first | exact trivial | exact rfl | exact slD_ment rfl | exact moS | exact mo rfl | refine ⟨?_, ?_⟩)) (by repeat' (first | exact trivial | exact rfl | exact slD_ment rfl | exact moS | exact mo rfl | refine ⟨?_, ?_⟩))
 have hq := hp.pre (k := i) (by omega)
 have ht := preC_tot hp hi
 have hv := hp.rp i hi
 obtain ⟨hb1, hb2, hb3⟩ := hp.bar hi
 have hc := hv.cnt
 have hAt := hv.p.at'
 obtain ⟨t1, t2, t3⟩ := hAt
 simp only at t1 t2 t3
 have hbo := bar_ok hb hv.ix
 have e0 : (preC x.runs i).toNat + (gt x.runs i).count.toNat = (preC x.runs (i + 1)).toNat := by have : preC x.runs (i + 1) = preC x.runs i + (gt x.runs i).count := rfl; omega
 refine zR (zo rfl (zw (zq (zy rfl (by simp [hi]) (zk (zq (zb rfl (zR (zi rfl rfl rfl rfl rfl ?_)))))))))
 refine zo rfl (zo rfl (zd rfl rfl (zw (zR (zo rfl (zo rfl (zo rfl (zo rfl (zc rfl (ok208 x.bars hb _ hv.ix) ?_)))))))))
 refine zo rfl (zo rfl (zo rfl (zo rfl (zo rfl (zw (zq (zR (zo rfl (zo rfl ?_)))))))))
 refine zw (zn rfl (rfl) (zk (zR (zo rfl (zo rfl (zo rfl (zi rfl rfl rfl rfl rfl (zo rfl (zo rfl ?_)))))))))
 refine zd rfl rfl (zw (zR (zo rfl (zc rfl (ok209 (barOf x.bars (gt x.runs i)) hbo) (zo rfl (zo rfl (zo rfl (zo rfl (zo rfl ?_)))))))))
 refine zw (zq (zR (zo rfl (zo rfl (zw (zn rfl (rfl) (zk (zR (zo rfl ?_)))))))))
 refine zo rfl (zo rfl (zw (Sat.loop' (fun _ => True) (fun k => ⟨164, lk [(1, .ptr 1 0), (3, slD 160 9 (mainRows x.bars x.runs ((preC x.runs i).toNat + k))), (5, .ptr 5 0), (8, .ptr 8 0), (9, .v (.sl ((pathOf (movesOf (barOf x.bars (gt x.runs (i : Int))))).map Pt.c))), (19, .v (.sl (x.runs.map Run.c))), (20, .v (vi (x.runs.map Run.c).length)), (21, .v (vi i)), (48, .v (vi (gt x.runs (i : Int)).count)), (49, .v (vi k))], lkO [(1, some ⟨.cells (x.c.map .v), false⟩), (5, some ⟨.cells ((gt x.runs (i : Int)).c.map .v), false⟩), (8, some ⟨.cells ((barOf x.bars (gt x.runs (i : Int))).c.map .v), false⟩), (160, slS 9 (mainRows x.bars x.runs ((preC x.runs i).toNat + k)))]⟩) ((gt x.runs (i : Int)).count.toNat) ?_ (trivial) (fun k hk hK => ?_) (fun hK => ?_))))
 exact weakO ⟨rfl, rfl, rfl, rfl, rfl, rfl, rfl, rfl, rfl, rfl, trivial⟩ ⟨so rfl, so rfl, so rfl, soS rfl, trivial⟩ (by repeat' (first | exact trivial | exact rfl | exact slD_ment rfl | exact moS | exact mo rfl | refine ⟨?_, ?_⟩)) (by repeat' (first | exact trivial | exact rfl | exact slD_ment rfl | exact moS | exact mo rfl | refine ⟨?_, ?_⟩))
 have hmul := run_mul hv (k := k) (by omega) (by omega)
 obtain ⟨q1, q2⟩ := pts_ij hp hi (k := k) (by omega)
 refine zR (zo rfl (zw (zq (zy rfl (by simp; omega) (zk (zq (zb rfl (zR (zo rfl ?_)))))))))
 refine zo rfl (zw (zR (zo rfl (zo rfl (zo rfl (zo rfl (zo rfl (zo rfl (zo rfl ?_)))))))))
 refine zM rfl (by first | (constructor <;> omega) | (obtain ⟨e1, e2, e3⟩ := hmul; constructor <;> omega)) (zA rfl (by first | (constructor <;> omega) | (obtain ⟨e1, e2, e3⟩ := hmul; constructor <;> omega)) (zo rfl (zo rfl (zo rfl (zo rfl (zo rfl (zo rfl (zo rfl (zM rfl (by first | (constructor <;> omega) | (obtain ⟨e1, e2, e3⟩ := hmul; constructor <;> omega)) ?_)))))))))
 refine zA rfl (by first | (constructor <;> omega) | (obtain ⟨e1, e2, e3⟩ := hmul; constructor <;> omega)) (zo rfl (zo rfl (zo rfl (zo rfl (zo rfl (zo rfl (zo rfl (zM rfl (by first | (constructor <;> omega) | (obtain ⟨e1, e2, e3⟩ := hmul; constructor <;> omega)) (zA rfl (by first | (constructor <;> omega) | (obtain ⟨e1, e2, e3⟩ := hmul; constructor <;> omega)) ?_)))))))))
 refine zo rfl (zo rfl (zd rfl rfl (zw (zR (zo rfl (zo rfl (zo rfl (zo rfl (zc rfl (ok210p hb (hr i hi) (by omega) (by omega)) ?_)))))))))
 refine zo rfl (zo rfl (zo rfl (zo rfl (zo rfl (zw (zq (zR (zo rfl (zo rfl ?_)))))))))
 refine zw (zn rfl (rfl) (zk (zR (zo rfl (zo rfl (zo rfl (zo rfl (zo rfl (zo rfl ?_)))))))))
 refine zd rfl rfl (zw (zq (zR (zo rfl (zw (Sat.loopM (fun a => (ptsOf (barOf x.bars (gt x.runs (i : Int))) (gt x.runs (i : Int)) k).length + 1 - a.1) (fun a => MainI (ptsOf (barOf x.bars (gt x.runs (i : Int))) (gt x.runs (i : Int)) k) a.1 a.2.1 a.2.2) (fun a => ⟨164, lk [(1, .ptr 1 0), (3, slD 160 9 (mainRows x.bars x.runs ((preC x.runs i).toNat + k))), (5, .ptr 5 0), (8, .ptr 8 0), (9, .v (.sl ((pathOf (movesOf (barOf x.bars (gt x.runs (i : Int))))).map Pt.c))), (12, .v (.sl ((ptsOf (barOf x.bars (gt x.runs (i : Int))) (gt x.runs (i : Int)) k).map Pt.c))), (14, .ptr 14 0), (15, .v (vi (a.1 + 1))), (19, .v (.sl (x.runs.map Run.c))), (20, .v (vi (x.runs.map Run.c).length)), (21, .v (vi i)), (48, .v (vi (gt x.runs (i : Int)).count)), (49, .v (vi k))], lkO [(1, some ⟨.cells (x.c.map .v), false⟩), (5, some ⟨.cells ((gt x.runs (i : Int)).c.map .v), false⟩), (8, some ⟨.cells ((barOf x.bars (gt x.runs (i : Int))).c.map .v), false⟩), (14, some ⟨.cells (a.2.2.c.map .v ++ [.v (.bool a.2.1), .v (vi (barOf x.bars (gt x.runs (i : Int))).size), .v (.str (barOf x.bars (gt x.runs (i : Int))).mark)]), false⟩), (160, slS 9 (mainRows x.bars x.runs ((preC x.runs i).toNat + k)))]⟩) (((0 : Nat), false, Bx.mk 0 0 0 0 0 0)) ?_ (⟨fun _ => ⟨rfl, by omega, fun i hi => by omega⟩, (fun h => by cases h), by omega⟩) (fun a hA => ?_)))))))
 exact weakO ⟨rfl, rfl, rfl, rfl, rfl, rfl, rfl, rfl, rfl, rfl, rfl, rfl, rfl, trivial⟩ ⟨so rfl, so rfl, so rfl, so rfl, soS rfl, trivial⟩ (by repeat' (first | exact trivial | exact rfl | exact slD_ment rfl | exact moS | exact mo rfl | refine ⟨?_, ?_⟩)) (by repeat' (first | exact trivial | exact rfl | exact slD_ment rfl | exact moS | exact mo rfl | refine ⟨?_, ?_⟩))
 obtain ⟨j, f, c⟩ := a
 simp only at hA
 have hle := hA.le
 have hlen : (ptsOf (barOf x.bars (gt x.runs (i : Int))) (gt x.runs (i : Int)) k).length = (movesOf (barOf x.bars (gt x.runs (i : Int)))).length + 1 := by simp [ptsOf]
 have hml := moves_len (barOf x.bars (gt x.runs (i : Int)))
 have e1 : (j : Int) + 1 - 1 = j := by omega
 refine zq (zR (zo rfl (zo rfl (zo rfl (zo rfl (zo rfl (zT rfl (fun h1 => ?_) (fun h1 => ?_))))))))
 refine zO (fun _ => rfl) (zh rfl h1 rfl (zh rfl h1 rfl (zp rfl h1 rfl (zw (zC rfl (fun h2 => ?_) (fun h2 => ?_))))))
 refine zk (zq (zb rfl (zq ?_)))
 have hj : (j : Int) + 1 < (ptsOf (barOf x.bars (gt x.runs (i : Int))) (gt x.runs (i : Int)) k).length := by simp_all
 have hf : f = false := by simp_all
 refine Sat.dp tabOk mixed [] (.sil 0 (.sil 1 (.sil 2 (.sil 3 (.sil 4 (.sil 5 (.sil 6 (.sil 7 (.sil 8 (.two 9 10 (.one 10 (.one 11 (.one 12 (.done)))) (.one 9 (.one 11 (.one 12 (.done)))))))))))))) (⟨164, lk [(1, .ptr 1 0), (3, slD 160 9 (mainRows x.bars x.runs ((preC x.runs i).toNat + k))), (5, .ptr 5 0), (8, .ptr 8 0), (9, .v (.sl ((pathOf (movesOf (barOf x.bars (gt x.runs (i : Int))))).map Pt.c))), (12, .v (.sl ((ptsOf (barOf x.bars (gt x.runs (i : Int))) (gt x.runs (i : Int)) k).map Pt.c))), (14, .ptr 14 0), (15, .v (vi (j + 1))), (16, .ptr 16 0), (17, .ptr 17 0), (19, .v (.sl (x.runs.map Run.c))), (20, .v (vi (x.runs.map Run.c).length)), (21, .v (vi i)), (48, .v (vi (gt x.runs (i : Int)).count)), (49, .v (vi k))], lkO [(1, some ⟨.cells (x.c.map .v), false⟩), (5, some ⟨.cells ((gt x.runs (i : Int)).c.map .v), false⟩), (8, some ⟨.cells ((barOf x.bars (gt x.runs (i : Int))).c.map .v), false⟩), (14, some ⟨.cells (c.c.map .v ++ [.v (.bool f), .v (vi (barOf x.bars (gt x.runs (i : Int))).size), .v (.str (barOf x.bars (gt x.runs (i : Int))).mark)]), false⟩), (16, some ⟨.cells ((gt (ptsOf (barOf x.bars (gt x.runs (i : Int))) (gt x.runs (i : Int)) k) (j : Int)).c.map .v), false⟩), (17, some ⟨.cells ((gt (ptsOf (barOf x.bars (gt x.runs (i : Int))) (gt x.runs (i : Int)) k) ((j : Int) + 1)).c.map .v), false⟩), (160, slS 9 (mainRows x.bars x.runs ((preC x.runs i).toNat + k)))]⟩) (by decide) (by kernel_rfl) ?_ ?_
 refine p_sil rfl (zO (fun _ => rfl) ?_)
 refine p_sil rfl (zO (fun _ => rfl) ?_)
 refine p_sil rfl (sil_sub rfl rfl rfl (by first | (constructor <;> omega) | (obtain ⟨e1, e2, e3⟩ := hmul; constructor <;> omega)) ?_)
 refine p_sil rfl (sil_index rfl rfl rfl rfl (by omega) (gt_idx (by omega) (by omega)) rfl ?_)
 refine p_sil rfl (zO (fun _ => rfl) ?_)
 refine p_sil rfl (zO (fun _ => rfl) ?_)
 refine p_sil rfl (zO (fun _ => rfl) ?_)
 refine p_sil rfl (sil_index rfl rfl rfl rfl (by omega) (gt_idx (by omega) (by omega)) rfl ?_)
 refine p_sil rfl (zO (fun _ => rfl) ?_)
 refine p_two ?_ ?_
 refine p_one rfl (step_op rfl rfl rfl ⟨ovr_eq trivial, ?_⟩)
 refine p_one rfl (step_op rfl rfl rfl ⟨ovr_eq trivial, ?_⟩)
 refine p_one rfl (step_do rfl rfl ⟨ovr_eq trivial, ?_⟩)
 refine p_one rfl (step_do rfl rfl ⟨ovr_eq trivial, ?_⟩)
 exact pn (weakO ⟨rfl, rfl, rfl, rfl, rfl, rfl, rfl, rfl, rfl, rfl, rfl, rfl, rfl, rfl, rfl, trivial⟩ ⟨so rfl, so rfl, so rfl, so rfl, so (by rw [e1]; rfl), so rfl, soS rfl, trivial⟩ (by repeat' (first | exact trivial | exact rfl | exact slD_ment rfl | exact moS | exact mo rfl | refine ⟨?_, ?_⟩)) (by repeat' (first | exact trivial | exact rfl | exact slD_ment rfl | exact moS | exact mo rfl | refine ⟨?_, ?_⟩)))
 refine p_one rfl (step_op rfl rfl rfl ⟨ovr_eq trivial, ?_⟩)
 refine p_one rfl (step_op rfl rfl rfl ⟨ovr_eq trivial, ?_⟩)
 refine p_one rfl (step_do rfl rfl ⟨ovr_eq trivial, ?_⟩)
 refine p_one rfl (step_do rfl rfl ⟨ovr_eq trivial, ?_⟩)
 exact pn (weakO ⟨rfl, rfl, rfl, rfl, rfl, rfl, rfl, rfl, rfl, rfl, rfl, rfl, rfl, rfl, rfl, trivial⟩ ⟨so rfl, so rfl, so rfl, so rfl, so (by rw [e1]; rfl), so rfl, soS rfl, trivial⟩ (by repeat' (first | exact trivial | exact rfl | exact slD_ment rfl | exact moS | exact mo rfl | refine ⟨?_, ?_⟩)) (by repeat' (first | exact trivial | exact rfl | exact slD_ment rfl | exact moS | exact mo rfl | refine ⟨?_, ?_⟩)))
 refine nq (zR (zo rfl (zo rfl (zo rfl (zo rfl (zo rfl (zo rfl (zT rfl (fun h3 => ?_) (fun h3 => ?_)))))))))
 refine zO (fun _ => rfl) (zh rfl h3 rfl (zh rfl h3 rfl (zh rfl h3 rfl (zh rfl h3 rfl (zp rfl h3 rfl (zo rfl (zT rfl (fun h4 => ?_) (fun h4 => ?_))))))))
 refine zO (fun _ => rfl) (zh rfl h4 rfl (zh rfl h4 rfl (zh rfl h4 rfl (zh rfl h4 rfl (zp rfl h4 rfl (zw (zC rfl (fun h5 => ?_) (fun h5 => ?_))))))))
 refine zr (zo rfl (zo rfl (zo rfl (zo rfl (zo rfl (zo rfl (zo rfl (zo rfl (zo rfl ?_)))))))))
 refine zo rfl (zo rfl (zo rfl (zo rfl (zo rfl (zo rfl (zo rfl (zo rfl (zo rfl (zo rfl ?_)))))))))
 refine zo rfl (zo rfl (zo rfl (zd rfl rfl (zo rfl (zd rfl rfl (wn (nb (nq (zr ?_)))))))))
 refine zo rfl (zA rfl (by first | (constructor <;> omega) | (obtain ⟨e1, e2, e3⟩ := hmul; constructor <;> omega)) (zo rfl (wn ?_)))
 first | (exact nsM ((j + 1, true, ⟨mn (gt (ptsOf (barOf x.bars (gt x.runs (i : Int))) (gt x.runs (i : Int)) k) (j : Int)).x (gt (ptsOf (barOf x.bars (gt x.runs (i : Int))) (gt x.runs (i : Int)) k) ((j : Int) + 1)).x, (gt (ptsOf (barOf x.bars (gt x.runs (i : Int))) (gt x.runs (i : Int)) k) (j : Int)).y, (gt (ptsOf (barOf x.bars (gt x.runs (i : Int))) (gt x.runs (i : Int)) k) (j : Int)).z, mx (gt (ptsOf (barOf x.bars (gt x.runs (i : Int))) (gt x.runs (i : Int)) k) (j : Int)).x (gt (ptsOf (barOf x.bars (gt x.runs (i : Int))) (gt x.runs (i : Int)) k) ((j : Int) + 1)).x, (gt (ptsOf (barOf x.bars (gt x.runs (i : Int))) (gt x.runs (i : Int)) k) (j : Int)).y, (gt (ptsOf (barOf x.bars (gt x.runs (i : Int))) (gt x.runs (i : Int)) k) (j : Int)).z⟩)) (by subst hf; exact mainI_found hA hj (main_leg (by simp_all) (by simp_all) (by simp_all)).1 (main_leg (by simp_all) (by simp_all) (by simp_all)).2) (by show (ptsOf (barOf x.bars (gt x.runs (i : Int))) (gt x.runs (i : Int)) k).length + 1 - (j + 1) < (ptsOf (barOf x.bars (gt x.runs (i : Int))) (gt x.runs (i : Int)) k).length + 1 - j; omega) (weakO ⟨rfl, rfl, rfl, rfl, rfl, rfl, rfl, rfl, rfl, rfl, rfl, rfl, rfl, trivial⟩ ⟨so rfl, so rfl, so rfl, so rfl, soS rfl, trivial⟩ (by repeat' (first | exact trivial | exact rfl | exact slD_ment rfl | exact moS | exact mo rfl | refine ⟨?_, ?_⟩)) (by repeat' (first | exact trivial | exact rfl | exact slD_ment rfl | exact moS | exact mo rfl | refine ⟨?_, ?_⟩)))) | (exact nsM ((j + 1, false, c)) (by subst hf; exact mainI_next hA hj (main_no (by simp_all))) (by show (ptsOf (barOf x.bars (gt x.runs (i : Int))) (gt x.runs (i : Int)) k).length + 1 - (j + 1) < (ptsOf (barOf x.bars (gt x.runs (i : Int))) (gt x.runs (i : Int)) k).length + 1 - j; omega) (weakO ⟨rfl, rfl, rfl, rfl, rfl, rfl, rfl, rfl, rfl, rfl, rfl, rfl, rfl, trivial⟩ ⟨so rfl, so rfl, so rfl, so (by subst hf; rfl), soS rfl, trivial⟩ (by repeat' (first | exact trivial | exact rfl | exact slD_ment rfl | exact moS | exact mo rfl | refine ⟨?_, ?_⟩)) (by repeat' (first | exact trivial | exact rfl | exact slD_ment rfl | exact moS | exact mo rfl | refine ⟨?_, ?_⟩))))
 refine Sat.skip (nb (nq (zr (zo rfl (zA rfl (by first | (constructor <;> omega) | (obtain ⟨e1, e2, e3⟩ := hmul; constructor <;> omega)) (zo rfl (wn ?_)))))))
 first | (exact nsM ((j + 1, true, ⟨mn (gt (ptsOf (barOf x.bars (gt x.runs (i : Int))) (gt x.runs (i : Int)) k) (j : Int)).x (gt (ptsOf (barOf x.bars (gt x.runs (i : Int))) (gt x.runs (i : Int)) k) ((j : Int) + 1)).x, (gt (ptsOf (barOf x.bars (gt x.runs (i : Int))) (gt x.runs (i : Int)) k) (j : Int)).y, (gt (ptsOf (barOf x.bars (gt x.runs (i : Int))) (gt x.runs (i : Int)) k) (j : Int)).z, mx (gt (ptsOf (barOf x.bars (gt x.runs (i : Int))) (gt x.runs (i : Int)) k) (j : Int)).x (gt (ptsOf (barOf x.bars (gt x.runs (i : Int))) (gt x.runs (i : Int)) k) ((j : Int) + 1)).x, (gt (ptsOf (barOf x.bars (gt x.runs (i : Int))) (gt x.runs (i : Int)) k) (j : Int)).y, (gt (ptsOf (barOf x.bars (gt x.runs (i : Int))) (gt x.runs (i : Int)) k) (j : Int)).z⟩)) (by subst hf; exact mainI_found hA hj (main_leg (by simp_all) (by simp_all) (by simp_all)).1 (main_leg (by simp_all) (by simp_all) (by simp_all)).2) (by show (ptsOf (barOf x.bars (gt x.runs (i : Int))) (gt x.runs (i : Int)) k).length + 1 - (j + 1) < (ptsOf (barOf x.bars (gt x.runs (i : Int))) (gt x.runs (i : Int)) k).length + 1 - j; omega) (weakO ⟨rfl, rfl, rfl, rfl, rfl, rfl, rfl, rfl, rfl, rfl, rfl, rfl, rfl, trivial⟩ ⟨so rfl, so rfl, so rfl, so rfl, soS rfl, trivial⟩ (by repeat' (first | exact trivial | exact rfl | exact slD_ment rfl | exact moS | exact mo rfl | refine ⟨?_, ?_⟩)) (by repeat' (first | exact trivial | exact rfl | exact slD_ment rfl | exact moS | exact mo rfl | refine ⟨?_, ?_⟩)))) | (exact nsM ((j + 1, false, c)) (by subst hf; exact mainI_next hA hj (main_no (by simp_all))) (by show (ptsOf (barOf x.bars (gt x.runs (i : Int))) (gt x.runs (i : Int)) k).length + 1 - (j + 1) < (ptsOf (barOf x.bars (gt x.runs (i : Int))) (gt x.runs (i : Int)) k).length + 1 - j; omega) (weakO ⟨rfl, rfl, rfl, rfl, rfl, rfl, rfl, rfl, rfl, rfl, rfl, rfl, rfl, trivial⟩ ⟨so rfl, so rfl, so rfl, so (by subst hf; rfl), soS rfl, trivial⟩ (by repeat' (first | exact trivial | exact rfl | exact slD_ment rfl | exact moS | exact mo rfl | refine ⟨?_, ?_⟩)) (by repeat' (first | exact trivial | exact rfl | exact slD_ment rfl | exact moS | exact mo rfl | refine ⟨?_, ?_⟩))))
 refine zt rfl h4 (zt rfl h4 (zt rfl h4 (zt rfl h4 (zP rfl h4 rfl (zw (zn rfl rfl (Sat.skip (nb (nq ?_)))))))))
 refine zr (zo rfl (zA rfl (by first | (constructor <;> omega) | (obtain ⟨e1, e2, e3⟩ := hmul; constructor <;> omega)) (zo rfl (wn ?_))))
 first | (exact nsM ((j + 1, true, ⟨mn (gt (ptsOf (barOf x.bars (gt x.runs (i : Int))) (gt x.runs (i : Int)) k) (j : Int)).x (gt (ptsOf (barOf x.bars (gt x.runs (i : Int))) (gt x.runs (i : Int)) k) ((j : Int) + 1)).x, (gt (ptsOf (barOf x.bars (gt x.runs (i : Int))) (gt x.runs (i : Int)) k) (j : Int)).y, (gt (ptsOf (barOf x.bars (gt x.runs (i : Int))) (gt x.runs (i : Int)) k) (j : Int)).z, mx (gt (ptsOf (barOf x.bars (gt x.runs (i : Int))) (gt x.runs (i : Int)) k) (j : Int)).x (gt (ptsOf (barOf x.bars (gt x.runs (i : Int))) (gt x.runs (i : Int)) k) ((j : Int) + 1)).x, (gt (ptsOf (barOf x.bars (gt x.runs (i : Int))) (gt x.runs (i : Int)) k) (j : Int)).y, (gt (ptsOf (barOf x.bars (gt x.runs (i : Int))) (gt x.runs (i : Int)) k) (j : Int)).z⟩)) (by subst hf; exact mainI_found hA hj (main_leg (by simp_all) (by simp_all) (by simp_all)).1 (main_leg (by simp_all) (by simp_all) (by simp_all)).2) (by show (ptsOf (barOf x.bars (gt x.runs (i : Int))) (gt x.runs (i : Int)) k).length + 1 - (j + 1) < (ptsOf (barOf x.bars (gt x.runs (i : Int))) (gt x.runs (i : Int)) k).length + 1 - j; omega) (weakO ⟨rfl, rfl, rfl, rfl, rfl, rfl, rfl, rfl, rfl, rfl, rfl, rfl, rfl, trivial⟩ ⟨so rfl, so rfl, so rfl, so rfl, soS rfl, trivial⟩ (by repeat' (first | exact trivial | exact rfl | exact slD_ment rfl | exact moS | exact mo rfl | refine ⟨?_, ?_⟩)) (by repeat' (first | exact trivial | exact rfl | exact slD_ment rfl | exact moS | exact mo rfl | refine ⟨?_, ?_⟩)))) | (exact nsM ((j + 1, false, c)) (by subst hf; exact mainI_next hA hj (main_no (by simp_all))) (by show (ptsOf (barOf x.bars (gt x.runs (i : Int))) (gt x.runs (i : Int)) k).length + 1 - (j + 1) < (ptsOf (barOf x.bars (gt x.runs (i : Int))) (gt x.runs (i : Int)) k).length + 1 - j; omega) (weakO ⟨rfl, rfl, rfl, rfl, rfl, rfl, rfl, rfl, rfl, rfl, rfl, rfl, rfl, trivial⟩ ⟨so rfl, so rfl, so rfl, so (by subst hf; rfl), soS rfl, trivial⟩ (by repeat' (first | exact trivial | exact rfl | exact slD_ment rfl | exact moS | exact mo rfl | refine ⟨?_, ?_⟩)) (by repeat' (first | exact trivial | exact rfl | exact slD_ment rfl | exact moS | exact mo rfl | refine ⟨?_, ?_⟩))))
 refine zt rfl h3 (zt rfl h3 (zt rfl h3 (zt rfl h3 (zP rfl h3 rfl (zo rfl (zt rfl rfl (zt rfl rfl (zt rfl rfl (zt rfl rfl ?_)))))))))
 refine zt rfl rfl (zP rfl rfl rfl (zw (zn rfl rfl (Sat.skip (nb (nq (zr (zo rfl (zA rfl (by first | (constructor <;> omega) | (obtain ⟨e1, e2, e3⟩ := hmul; constructor <;> omega)) ?_)))))))))
 refine zo rfl (wn ?_)
 first | (exact nsM ((j + 1, true, ⟨mn (gt (ptsOf (barOf x.bars (gt x.runs (i : Int))) (gt x.runs (i : Int)) k) (j : Int)).x (gt (ptsOf (barOf x.bars (gt x.runs (i : Int))) (gt x.runs (i : Int)) k) ((j : Int) + 1)).x, (gt (ptsOf (barOf x.bars (gt x.runs (i : Int))) (gt x.runs (i : Int)) k) (j : Int)).y, (gt (ptsOf (barOf x.bars (gt x.runs (i : Int))) (gt x.runs (i : Int)) k) (j : Int)).z, mx (gt (ptsOf (barOf x.bars (gt x.runs (i : Int))) (gt x.runs (i : Int)) k) (j : Int)).x (gt (ptsOf (barOf x.bars (gt x.runs (i : Int))) (gt x.runs (i : Int)) k) ((j : Int) + 1)).x, (gt (ptsOf (barOf x.bars (gt x.runs (i : Int))) (gt x.runs (i : Int)) k) (j : Int)).y, (gt (ptsOf (barOf x.bars (gt x.runs (i : Int))) (gt x.runs (i : Int)) k) (j : Int)).z⟩)) (by subst hf; exact mainI_found hA hj (main_leg (by simp_all) (by simp_all) (by simp_all)).1 (main_leg (by simp_all) (by simp_all) (by simp_all)).2) (by show (ptsOf (barOf x.bars (gt x.runs (i : Int))) (gt x.runs (i : Int)) k).length + 1 - (j + 1) < (ptsOf (barOf x.bars (gt x.runs (i : Int))) (gt x.runs (i : Int)) k).length + 1 - j; omega) (weakO ⟨rfl, rfl, rfl, rfl, rfl, rfl, rfl, rfl, rfl, rfl, rfl, rfl, rfl, trivial⟩ ⟨so rfl, so rfl, so rfl, so rfl, soS rfl, trivial⟩ (by repeat' (first | exact trivial | exact rfl | exact slD_ment rfl | exact moS | exact mo rfl | refine ⟨?_, ?_⟩)) (by repeat' (first | exact trivial | exact rfl | exact slD_ment rfl | exact moS | exact mo rfl | refine ⟨?_, ?_⟩)))) | (exact nsM ((j + 1, false, c)) (by subst hf; exact mainI_next hA hj (main_no (by simp_all))) (by show (ptsOf (barOf x.bars (gt x.runs (i : Int))) (gt x.runs (i : Int)) k).length + 1 - (j + 1) < (ptsOf (barOf x.bars (gt x.runs (i : Int))) (gt x.runs (i : Int)) k).length + 1 - j; omega) (weakO ⟨rfl, rfl, rfl, rfl, rfl, rfl, rfl, rfl, rfl, rfl, rfl, rfl, rfl, trivial⟩ ⟨so rfl, so rfl, so rfl, so (by subst hf; rfl), soS rfl, trivial⟩ (by repeat' (first | exact trivial | exact rfl | exact slD_ment rfl | exact moS | exact mo rfl | refine ⟨?_, ?_⟩)) (by repeat' (first | exact trivial | exact rfl | exact slD_ment rfl | exact moS | exact mo rfl | refine ⟨?_, ?_⟩))))
 refine Sat.exit (xq (xsM (nq ?_)))
 have hrow := mainRow_eq q1 q2 (mainI_done hA (by simp_all))
 refine zr (zo rfl (zo rfl (zo rfl ?_)))
 first | (refine step_app1 rfl (by first | exact .inl rfl | (right; simp)) rfl rfl rfl rfl rfl rfl (by rw [mainRows_len]; omega) rfl ?_) | (refine step_op rfl rfl rfl ?_)
 exact zo rfl (wn (nb (nq (zr (zA rfl (by first | (constructor <;> omega) | (obtain ⟨e1, e2, e3⟩ := hmul; constructor <;> omega)) (zo rfl (wn (ns trivial (weakO ⟨rfl, slD_eq rfl hrow, rfl, rfl, rfl, rfl, rfl, rfl, rfl, rfl, trivial⟩ ⟨so rfl, so rfl, so rfl, soA rfl hrow, trivial⟩ (by repeat' (first | exact trivial | exact rfl | exact slD_ment rfl | exact moS | exact mo rfl | refine ⟨?_, ?_⟩)) (by repeat' (first | exact trivial | exact rfl | exact slD_ment rfl | exact moS | exact mo rfl | refine ⟨?_, ?_⟩)))))))))))
 refine zt rfl h1 (zt rfl h1 (zP rfl h1 rfl (zw (zn rfl rfl (Sat.exit (xq (xsM (nq ?_))))))))
 have hrow := mainRow_eq q1 q2 (mainI_done hA (by simp_all))
 refine zr (zo rfl (zo rfl (zo rfl ?_)))
 first | (refine step_app1 rfl (by first | exact .inl rfl | (right; simp)) rfl rfl rfl rfl rfl rfl (by rw [mainRows_len]; omega) rfl ?_) | (refine step_op rfl rfl rfl ?_)
 exact zo rfl (wn (nb (nq (zr (zA rfl (by first | (constructor <;> omega) | (obtain ⟨e1, e2, e3⟩ := hmul; constructor <;> omega)) (zo rfl (wn (ns trivial (weakO ⟨rfl, slD_eq rfl hrow, rfl, rfl, rfl, rfl, rfl, rfl, rfl, rfl, trivial⟩ ⟨so rfl, so rfl, so rfl, soA rfl hrow, trivial⟩ (by repeat' (first | exact trivial | exact rfl | exact slD_ment rfl | exact moS | exact mo rfl | refine ⟨?_, ?_⟩)) (by repeat' (first | exact trivial | exact rfl | exact slD_ment rfl | exact moS | exact mo rfl | refine ⟨?_, ?_⟩)))))))))))
 refine zR (zo rfl (zw (zq (zn rfl (by simp; omega) (Sat.exit (xq (xe (nb (nq ?_)))))))))
 exact zr (zA rfl (by first | (constructor <;> omega) | (obtain ⟨e1, e2, e3⟩ := hmul; constructor <;> omega)) (zo rfl (wn (ns trivial (weakO ⟨rfl, slD_eq rfl (by rw [e0]), rfl, rfl, rfl, trivial⟩ ⟨so rfl, soS (by rw [← e0]; rfl), trivial⟩ (by repeat' (first | exact trivial | exact rfl | exact slD_ment rfl | exact moS | exact mo rfl | refine ⟨?_, ?_⟩)) (by repeat' (first | exact trivial | exact rfl | exact slD_ment rfl | exact moS | exact mo rfl | refine ⟨?_, ?_⟩)))))))
 refine zR (zo rfl (zw (zq (zn rfl (by simp) (Sat.exit (xq (xe (nq (Sat.pubS 3 rfl rfl ?_)))))))))
 exact zR (zo rfl (zo rfl (zw (Sat.ret (ze rfl rfl)))))
end Go.Proofs.YtamjajacnfmgeaaGreat
