/-
  Contracts: runs and laid bars in the references, validity of a detail. Condition: as stated.
-/
import Derived.Test.YtamjajacnfmgeaaGreatK20
set_option linter.all false
namespace Go.Proofs.YtamjajacnfmgeaaGreat
open Go Go.RowKit
set_option maxHeartbeats 1000000
def barOf (bars : List Bar) (r : Run) : Bar := gt bars (markIx bars r.mark)
def runOk (bars : List Bar) (r : Run) : Bool := !decide (markIx bars r.mark < 0) && turnOk r.tx r.ty && !decide (r.count < 1) && !decide (r.count > 1000) && near3 r.ax r.ay r.az
  && !(decide (r.count > 1) && ([r.sx, r.sy, r.sz] == [0, 0, 0] || !twice3 r.sx r.sy r.sz)) && (nearAll (ptsOf (barOf bars r) r 0) && nearAll (ptsOf (barOf bars r) r (r.count - 1)))
theorem turnOk_axes {x y : Int} (h : turnOk x y = true) : isAxis x = true ∧ isAxis y = true := by
 simp only [turnOk, Bool.and_eq_true] at h
 exact ⟨h.1.1.1, h.1.1.2⟩
theorem pts_len (b : Bar) (r : Run) (k : Int) : (ptsOf b r k).length = (movesOf b).length + 1 := by simp [ptsOf]
theorem ok34 (bars : List Bar) (r : Run) (hl : bars.length ≤ 60) (hb : ∀ b ∈ bars, BarP b) : Ok Tryz.prog 34 [.sl (bars.map Bar.c), .ag r.c] (.bool (runOk bars r)) := by
 have hm := findN_lt bars.length fun i => beqB (gt bars i).mark r.mark
 change -1 ≤ markIx bars r.mark ∧ markIx bars r.mark < bars.length at hm
 have hq := (moves_len (barOf bars r)).2
 have hmv : ∀ b r k, (ptsOf b r k).length ≤ 1000 := fun b r k => by rw [pts_len]; have := (moves_len b).2; omega
 have hbar : ¬ markIx bars r.mark < 0 → BarP (gt bars (markIx bars r.mark)) := fun h => hb _ (gt_mem (by omega) hm.2)
 unfold runOk barOf
 refine zz 68 Tryz.func34 rfl Tryz.call34 rfl (zR (zo rfl (zo rfl (zw (zR (zo rfl (zo rfl (zo rfl (zc rfl (ok77 _ _ (by omega)) ?_)))))))))
 refine zo rfl (zw (zq (zR (zo rfl (zo rfl (zo rfl (zF rfl (fun h1 => ?_) (fun h1 => ?_))))))))
 refine zO (fun _ => rfl) (zh rfl h1 rfl (step_sil (sil_on rfl h1 (sil_call rfl rfl (fun _ => rfl) (fun _ => rfl) (ok78 _ _) ?_))))
 refine zh rfl h1 rfl (zP rfl h1 rfl (zo rfl (zF rfl (fun h2 => ?_) (fun h2 => ?_))))
 refine zO (fun _ => rfl) (zh rfl h2 rfl (zh rfl h2 rfl (zP rfl h2 rfl (zo rfl (zF rfl (fun h3 => ?_) (fun h3 => ?_))))))
 refine zO (fun _ => rfl) (zh rfl h3 rfl (zh rfl h3 rfl (zP rfl h3 rfl (zo rfl (zF rfl (fun h4 => ?_) (fun h4 => ?_))))))
 refine zO (fun _ => rfl) (zh rfl h4 rfl (step_sil (sil_on rfl h4 (sil_call rfl rfl (fun _ => rfl) (fun _ => rfl) (ok79 _ _ _) ?_))))
 refine zh rfl h4 rfl (zP rfl h4 rfl (zw (zC rfl (fun h5 => ?_) (fun h5 => ?_))))
 exact zR (zo rfl (zw (Sat.ret (rq (zg rfl)))))
 refine zk (zq (zR (zo rfl (zo rfl (zo rfl (zo rfl (zT rfl (fun h6 => ?_) (fun h6 => ?_))))))))
 refine zO (fun _ => rfl) (zh rfl h6 rfl (zh rfl h6 rfl (zh rfl h6 rfl (zh rfl h6 rfl (zF rfl (fun h7 => ?_) (fun h7 => ?_))))))
 refine zO (fun _ => rfl) (zh rfl h7 rfl (step_sil (sil_on rfl h7 (sil_call rfl rfl (fun _ => rfl) (fun _ => rfl) (ok80 _ _ _) ?_))))
 refine zh rfl h7 rfl (step_sil (sil_on rfl h6 (sil_pick (want := false) rfl rfl h7 rfl ?_)))
 refine zp rfl h6 rfl (zw (zC rfl (fun h8 => ?_) (fun h8 => ?_)))
 exact zR (zo rfl (zw (Sat.ret (rq (zg rfl)))))
 refine zk (zq (Sat.dr tabOk mixed (by kernel_rfl) (zO (fun _ => rfl) (zO (fun _ => rfl) (sil_index rfl rfl rfl rfl (by have := of_decide_eq_false h1; omega) (gt_idx (by have := of_decide_eq_false h1; omega) (by omega)) rfl (zO (fun _ => rfl) (zO (fun _ => rfl) (sil_call rfl rfl (fun _ => rfl) (fun _ => rfl) (ok82 _ _ _ (by omega) (hbar (of_decide_eq_false h1)) ⟨(turnOk_axes (x := r.tx) (y := r.ty) (by simp_all)).1, (turnOk_axes (x := r.tx) (y := r.ty) (by simp_all)).2, near3_iff.1 (by simp_all)⟩ (fun h => by omega)) (sil_call rfl rfl (fun _ => rfl) (fun _ => rfl) (ok81 _ (hmv _ _ _)) ?_)))))))))
 refine zO (fun _ => rfl) (sil_splitT rfl rfl (fun h9 => ?_) (fun h9 => ?_))
 refine zO (fun _ => rfl) (sil_on rfl h9 (zO (fun _ => rfl) ?_))
 refine sil_on rfl h9 (sil_index rfl rfl rfl rfl (by have := of_decide_eq_false h1; omega) (gt_idx (by have := of_decide_eq_false h1; omega) (by omega)) rfl ?_)
 refine sil_on rfl h9 (zO (fun _ => rfl) ?_)
 refine sil_on rfl h9 (zO (fun _ => rfl) ?_)
 refine sil_on rfl h9 (zO (fun _ => rfl) ?_)
 refine sil_on rfl h9 (zO (fun _ => rfl) ?_)
 refine sil_on rfl h9 (sil_sub rfl rfl rfl (by have := of_decide_eq_false h3; have := of_decide_eq_false h4; constructor <;> omega) ?_)
 refine sil_on rfl h9 (sil_call rfl rfl (fun _ => rfl) (fun _ => rfl) (ok82 _ _ _ (by have := of_decide_eq_false h3; have := of_decide_eq_false h4; omega) (hbar (of_decide_eq_false h1)) ⟨(turnOk_axes (x := r.tx) (y := r.ty) (by simp_all)).1, (turnOk_axes (x := r.tx) (y := r.ty) (by simp_all)).2, near3_iff.1 (by simp_all)⟩ (fun h => twice3_iff.1 (by simp_all; try omega))) ?_)
 refine sil_on rfl h9 (sil_call rfl rfl (fun _ => rfl) (fun _ => rfl) (ok81 _ (hmv _ _ _)) ?_)
 exact sil_pick (want := true) rfl rfl h9 rfl (zO (fun _ => rfl) (sn (nq (Sat.ret (zg rfl)))))
 refine sil_offT rfl rfl h9 (sil_offT rfl rfl h9 (sil_offT rfl rfl h9 (sil_offT rfl rfl h9 (sil_offT rfl rfl h9 (sil_offT rfl rfl h9 (sil_offT rfl rfl h9 (sil_offT rfl rfl h9 (sil_offT rfl rfl h9 (sil_pick (want := false) rfl rfl h9 rfl ?_)))))))))
 exact zO (fun _ => rfl) (sn (nq (Sat.ret (zg rfl))))
 refine zf rfl h7 (zf rfl h7 (zf rfl h7 (step_sil (sil_on rfl h6 (sil_pick (want := true) rfl rfl h7 rfl ?_)))))
 exact zp rfl h6 rfl (zw (zy rfl rfl (zR (zo rfl (zw (Sat.ret (rq (zg rfl))))))))
 refine zt rfl h6 (zt rfl h6 (zt rfl h6 (zt rfl h6 (zu rfl (zu rfl (zu rfl (zu rfl (zt rfl h6 (zP rfl h6 rfl ?_)))))))))
 refine zw (zn rfl rfl (zk (zq (Sat.dr tabOk mixed (by kernel_rfl) (zO (fun _ => rfl) (zO (fun _ => rfl) (sil_index rfl rfl rfl rfl (by have := of_decide_eq_false h1; omega) (gt_idx (by have := of_decide_eq_false h1; omega) (by omega)) rfl (zO (fun _ => rfl) (zO (fun _ => rfl) ?_)))))))))
 refine sil_call rfl rfl (fun _ => rfl) (fun _ => rfl) (ok82 _ _ _ (by omega) (hbar (of_decide_eq_false h1)) ⟨(turnOk_axes (x := r.tx) (y := r.ty) (by simp_all)).1, (turnOk_axes (x := r.tx) (y := r.ty) (by simp_all)).2, near3_iff.1 (by simp_all)⟩ (fun h => by omega)) (sil_call rfl rfl (fun _ => rfl) (fun _ => rfl) (ok81 _ (hmv _ _ _)) (zO (fun _ => rfl) (sil_splitT rfl rfl (fun h10 => ?_) (fun h10 => ?_))))
 refine zO (fun _ => rfl) (sil_on rfl h10 (zO (fun _ => rfl) ?_))
 refine sil_on rfl h10 (sil_index rfl rfl rfl rfl (by have := of_decide_eq_false h1; omega) (gt_idx (by have := of_decide_eq_false h1; omega) (by omega)) rfl ?_)
 refine sil_on rfl h10 (zO (fun _ => rfl) ?_)
 refine sil_on rfl h10 (zO (fun _ => rfl) ?_)
 refine sil_on rfl h10 (zO (fun _ => rfl) ?_)
 refine sil_on rfl h10 (zO (fun _ => rfl) ?_)
 refine sil_on rfl h10 (sil_sub rfl rfl rfl (by have := of_decide_eq_false h3; have := of_decide_eq_false h4; constructor <;> omega) ?_)
 refine sil_on rfl h10 (sil_call rfl rfl (fun _ => rfl) (fun _ => rfl) (ok82 _ _ _ (by have := of_decide_eq_false h3; have := of_decide_eq_false h4; omega) (hbar (of_decide_eq_false h1)) ⟨(turnOk_axes (x := r.tx) (y := r.ty) (by simp_all)).1, (turnOk_axes (x := r.tx) (y := r.ty) (by simp_all)).2, near3_iff.1 (by simp_all)⟩ (fun h => twice3_iff.1 (by simp_all; try omega))) ?_)
 refine sil_on rfl h10 (sil_call rfl rfl (fun _ => rfl) (fun _ => rfl) (ok81 _ (hmv _ _ _)) ?_)
 exact sil_pick (want := true) rfl rfl h10 rfl (zO (fun _ => rfl) (sn (nq (Sat.ret (zg rfl)))))
 refine sil_offT rfl rfl h10 (sil_offT rfl rfl h10 (sil_offT rfl rfl h10 (sil_offT rfl rfl h10 (sil_offT rfl rfl h10 (sil_offT rfl rfl h10 (sil_offT rfl rfl h10 (sil_offT rfl rfl h10 (sil_offT rfl rfl h10 (sil_pick (want := false) rfl rfl h10 rfl ?_)))))))))
 exact zO (fun _ => rfl) (sn (nq (Sat.ret (zg rfl))))
 refine zf rfl h4 (zf rfl h4 (zf rfl h4 (zp rfl h4 rfl (zw (zy rfl rfl (zR (zo rfl (zw (Sat.ret ?_)))))))))
 exact rq (zg rfl)
 refine zf rfl h3 (zf rfl h3 (zp rfl h3 rfl (zo rfl (zf rfl rfl (zf rfl rfl (zf rfl rfl (zf rfl rfl (zp rfl rfl rfl (zw (zy rfl rfl ?_))))))))))
 exact zR (zo rfl (zw (Sat.ret (rq (zg rfl)))))
 refine zf rfl h2 (zf rfl h2 (zp rfl h2 rfl (zo rfl (zf rfl rfl (zf rfl rfl (zf rfl rfl (zp rfl rfl rfl (zo rfl (zf rfl rfl ?_)))))))))
 refine zf rfl rfl (zf rfl rfl (zf rfl rfl (zp rfl rfl rfl (zw (zy rfl rfl (zR (zo rfl (zw (Sat.ret ?_)))))))))
 exact rq (zg rfl)
 refine zf rfl h1 (zf rfl h1 (zf rfl h1 (zp rfl h1 rfl (zo rfl (zf rfl rfl (zf rfl rfl (zf rfl rfl (zp rfl rfl rfl (zo rfl ?_)))))))))
 refine zf rfl rfl (zf rfl rfl (zf rfl rfl (zp rfl rfl rfl (zo rfl (zf rfl rfl (zf rfl rfl (zf rfl rfl (zf rfl rfl (zp rfl rfl rfl ?_)))))))))
 exact zw (zy rfl rfl (zR (zo rfl (zw (Sat.ret (rq (zg rfl)))))))
theorem barsP {bars : List Bar} (h : barsOk bars = true) : bars.length ≤ 60 ∧ ∀ b ∈ bars, BarP b := by
 simp only [barsOk, Bool.and_eq_true, Bool.not_eq_true', decide_eq_false_iff_not] at h
 refine ⟨by omega, fun b hb => ?_⟩
 obtain ⟨i, hi, rfl⟩ := List.mem_iff_getElem.1 hb
 have := allN_iff.1 h.2 i hi
 simp only [Bool.and_eq_true] at this
 rw [← gt_get hi]
 exact barP this.1
def preC (runs : List Run) (k : Nat) : Int := sumI k fun i => (gt runs i).count
def total (runs : List Run) : Int := preC runs runs.length
theorem preC_le {runs : List Run} {k : Nat} (h : ∀ i : Nat, i < k → 0 ≤ (gt runs i).count ∧ (gt runs i).count ≤ 1000) : 0 ≤ preC runs k ∧ preC runs k ≤ 1000 * k := sumI_le h
theorem ok35 (l : List Run) (hl : l.length ≤ 60) (hb : ∀ i : Nat, i < l.length → 0 ≤ (gt l i).count ∧ (gt l i).count ≤ 1000) : Ok Tryz.prog 35 [.sl (l.map Run.c)] (vi (total l)) := by
 refine zz 19 Tryz.func35 rfl Tryz.call35 rfl (zR (zo rfl (zw (zR (zo rfl (zw (zq (zR (zo rfl ?_)))))))))
 refine zw (Sat.loop' (fun _ => True) (fun i => ⟨19, lk [(0, .v (.sl (l.map Run.c))), (3, .v (vi (preC l i))), (4, .v (vi i))], lk []⟩) (l.length) ?_ (trivial) (fun i hi hI => ?_) (fun hI => ?_))
 exact zv rfl rfl rfl rfl
 have h1 := preC_le (k := i) (fun j hj => hb j (by omega))
 have h2 := hb i hi
 refine zq (zR (zo rfl (zo rfl (zo rfl (zo rfl (zw (zy rfl (by simp [hi]) (zk (zq (zb rfl ?_))))))))))
 refine zr (zo rfl (zo rfl (zo rfl (zi rfl rfl rfl rfl rfl (zo rfl (zo rfl (za rfl (zo rfl (wn (nb ?_))))))))))
 exact nq (zr (zo rfl (za rfl (zo rfl (wn (ns trivial (zv rfl rfl rfl rfl)))))))
 refine zq (zR (zo rfl (zo rfl (zo rfl (zo rfl (zw (zn rfl (by simp) (Sat.exit (xq ?_)))))))))
 exact xe (nq (zR (zo rfl (zo rfl (zw (Sat.ret (ze rfl rfl)))))))
def runsOk (bars : List Bar) (runs : List Run) : Bool := barsOk bars && !decide ((runs.length : Int) > 60) && (allN runs.length (fun i => runOk bars (gt runs i)) && decide (total runs ≤ 2000))
theorem runOk_count {bars : List Bar} {r : Run} (h : runOk bars r = true) : 1 ≤ r.count ∧ r.count ≤ 1000 := by
 simp only [runOk, Bool.and_eq_true, Bool.not_eq_true', decide_eq_false_iff_not] at h
 omega
theorem ok14 (bars : List Bar) (runs : List Run) : Ok Tryz.prog 14 [.sl (bars.map Bar.c), .sl (runs.map Run.c)] (.bool (runsOk bars runs)) := by
 unfold runsOk
 refine zz 30 Tryz.func14 rfl Tryz.call14 rfl (zR (zo rfl (zw (zq (zR (zo rfl (zc rfl (ok33 _) (zo rfl (zo rfl ?_)))))))))
 refine zF rfl (fun h1 => ?_) (fun h1 => ?_)
 refine zO (fun _ => rfl) (zh rfl h1 rfl (zh rfl h1 rfl (zP rfl h1 rfl (zw (zC rfl (fun h2 => ?_) (fun h2 => ?_))))))
 exact zR (zo rfl (zw (Sat.ret (rq (ze rfl (by first | (simp_all; done) | exact vb (by rw [allN_false hi (by first | omega | (simp_all []; done) | (simp_all []; omega))]; simp) | exact vb (by rw [allN_iff.2 hI]; simp_all)))))))
 refine zk (zq (zR (zo rfl (zw (Sat.loop' (fun z => ∀ j : Nat, j < z → runOk bars (gt runs j) = true) (fun i => ⟨30, lk [(0, .v (.sl (bars.map Bar.c))), (1, .v (.sl (runs.map Run.c))), (5, .v (vi i))], lk []⟩) (runs.length) ?_ (all_zero) (fun i hi hI => ?_) (fun hI => ?_))))))
 exact zv rfl rfl rfl rfl
 have hl : runs.length ≤ 60 := by simp at h2; omega
 refine zq (zR (zo rfl (zo rfl (zo rfl (zo rfl (zw (zy rfl (by simp [hi]) (zk (zq (zb rfl ?_))))))))))
 refine zR (zo rfl (zo rfl (zo rfl (zi rfl rfl rfl rfl rfl (zo rfl (zc rfl (ok34 _ _ (barsP (by simpa using h1)).1 (barsP (by simpa using h1)).2) (zo rfl (zw (zC rfl (fun h3 => ?_) (fun h3 => ?_))))))))))
 exact zR (zo rfl (zw (Sat.ret (rb (rq (rs (rq (ze rfl (by first | (simp_all; done) | exact vb (by rw [allN_false hi (by first | omega | (simp_all []; done) | (simp_all []; omega))]; simp) | exact vb (by rw [allN_iff.2 hI]; simp_all))))))))))
 exact Sat.skip (nb (nq (zr (zo rfl (za rfl (zo rfl (wn (ns (all_step hI (by first | omega | (simp_all []; done) | (simp_all []; omega))) (zv rfl rfl rfl rfl)))))))))
 refine zq (zR (zo rfl (zo rfl (zo rfl (zo rfl (zw (zn rfl (by simp) (Sat.exit (xq ?_)))))))))
 exact xe (nq (zR (zo rfl (zc rfl (ok35 _ (by have := of_decide_eq_false h2; simp at this; omega) (fun j hj => by have := runOk_count (hI j hj); omega)) (zo rfl (zo rfl (zw (Sat.ret (ze rfl (by first | (simp_all; done) | exact vb (by rw [allN_false hi (by first | omega | (simp_all []; done) | (simp_all []; omega))]; simp) | exact vb (by rw [allN_iff.2 hI]; simp_all)))))))))))
 refine zf rfl h1 (zf rfl h1 (zp rfl h1 rfl (zw (zy rfl rfl (zR (zo rfl (zw (Sat.ret (rq ?_)))))))))
 exact ze rfl (by first | (simp_all; done) | exact vb (by rw [allN_false hi (by first | omega | (simp_all []; done) | (simp_all []; omega))]; simp) | exact vb (by rw [allN_iff.2 hI]; simp_all))
structure RunV (bars : List Bar) (r : Run) : Prop where
  ix : 0 ≤ markIx bars r.mark
  p : RunP r
  cnt : 1 ≤ r.count ∧ r.count ≤ 1000
  st : 1 < r.count → (Pt.mk r.sx r.sy r.sz).In 2097152
structure RunsP (bars : List Bar) (runs : List Run) : Prop where
  bl : bars.length ≤ 60
  rl : runs.length ≤ 60
  bp : ∀ b ∈ bars, BarP b
  rp : ∀ i : Nat, i < runs.length → RunV bars (gt runs i)
  tot : total runs ≤ 2000
theorem runV {bars : List Bar} {r : Run} (h : runOk bars r = true) : RunV bars r := by
 have hc := runOk_count h
 simp only [runOk, Bool.and_eq_true, Bool.not_eq_true', decide_eq_false_iff_not, Bool.and_eq_false_iff, Bool.or_eq_false_iff] at h
 obtain ⟨⟨⟨⟨⟨⟨h1, h2⟩, h3⟩, h4⟩, h5⟩, h6⟩, h7⟩ := h
 refine ⟨by omega, ⟨(turnOk_axes h2).1, (turnOk_axes h2).2, near3_iff.1 h5⟩, hc, fun hg => ?_⟩
 rcases h6 with h6 | ⟨_, h6⟩
 · exact (h6 hg).elim
 · exact twice3_iff.1 (by simpa using h6)
theorem runsP {bars : List Bar} {runs : List Run} (h : runsOk bars runs = true) : RunsP bars runs := by
 simp only [runsOk, Bool.and_eq_true, Bool.not_eq_true', decide_eq_false_iff_not, decide_eq_true_eq] at h
 obtain ⟨⟨h1, h2⟩, h3, h4⟩ := h
 exact ⟨(barsP h1).1, by omega, (barsP h1).2, fun i hi => runV (allN_iff.1 h3 i hi), h4⟩
theorem RunsP.cnt {bars : List Bar} {runs : List Run} (h : RunsP bars runs) (i : Nat) (hi : i < runs.length) : 0 ≤ (gt runs i).count ∧ (gt runs i).count ≤ 1000 := by have := (h.rp i hi).cnt; omega
theorem RunsP.pre {bars : List Bar} {runs : List Run} (h : RunsP bars runs) {k : Nat} (hk : k ≤ runs.length) : 0 ≤ preC runs k ∧ preC runs k ≤ 60000 := by
 have := preC_le (runs := runs) (k := k) fun i hi => h.cnt i (by omega)
 have := h.rl
 omega
def plK (runs : List Run) (n : Int) : Nat := (findN runs.length fun k => decide (n < preC runs (k + 1))).toNat
def plJ (runs : List Run) (n : Int) : Int := n - preC runs (plK runs n)
theorem preC_mono {bars : List Bar} {runs : List Run} (h : RunsP bars runs) : ∀ {k m : Nat}, k ≤ m → m ≤ runs.length → preC runs k ≤ preC runs m := by
 intro k m hkm
 induction hkm with
 | refl => intro _; omega
 | @step m _ ih =>
   intro hm
   have h1 := ih (by omega)
   have h2 := h.cnt m (by omega)
   have : preC runs (m + 1) = preC runs m + (gt runs m).count := rfl
   show preC runs k ≤ preC runs (m + 1)
   omega
theorem place_spec {bars : List Bar} {runs : List Run} (h : RunsP bars runs) {n : Int} (h0 : 0 ≤ n) (hn : n < total runs) : plK runs n < runs.length ∧ 0 ≤ plJ runs n ∧ plJ runs n < (gt runs (plK runs n)).count ∧ n = preC runs (plK runs n) + plJ runs n := by
 unfold plJ
 rcases findN_cases runs.length fun k => decide (n < preC runs (k + 1)) with ⟨h1, h2⟩ | ⟨k, h1, h2, h3, h4⟩
 · exfalso
   have hl : runs.length ≠ 0 := by
     intro hl
     unfold total preC at hn
     rw [hl] at hn
     simp [sumI] at hn
     omega
   have := h2 (runs.length - 1) (by omega)
   have e : runs.length - 1 + 1 = runs.length := by omega
   simp only [e, decide_eq_false_iff_not] at this
   exact this hn
 · have hk : plK runs n = k := by unfold plK; rw [h1]; rfl
   rw [hk]
   simp only [decide_eq_true_eq] at h3
   have e : preC runs (k + 1) = preC runs k + (gt runs k).count := rfl
   refine ⟨h2, ?_, by omega, by omega⟩
   cases k with
   | zero => have : preC runs 0 = 0 := rfl; omega
   | succ k => have := h4 k (by omega); simp only [decide_eq_false_iff_not] at this; omega
theorem ok194 (bars : List Bar) (runs : List Run) (hp : RunsP bars runs) (n : Int) (h0 : 0 ≤ n) (hn : n < total runs) : Ok Tryz.prog 194 [.sl (runs.map Run.c), vi n] (.tp [vi (plK runs n), vi (plJ runs n)]) := by
 obtain ⟨g1, g2, g3, g4⟩ := place_spec hp h0 hn
 have hr := hp.rl
 have hpk := hp.pre (k := plK runs n) (by omega)
 have hck := hp.cnt _ g1
 refine zz 25 Tryz.func194 rfl Tryz.call194 rfl (zR (zo rfl (zo rfl (zw (zR (zo rfl (zw (zq (Sat.loop' (fun _ => True) (fun i => ⟨25, lk [(0, .v (.sl (runs.map Run.c))), (1, .v (vi (n - preC runs i))), (6, .v (vi i))], lk []⟩) (plK runs n) ?_ (trivial) (fun i hi hI => ?_) (fun hI => ?_))))))))))
 exact weak_of ⟨rfl, int_eq rfl (show n = n - 0 by omega), rfl, trivial⟩ trivial rfl rfl
 have h1 := preC_mono hp (show i + 1 ≤ plK runs n by omega) (by omega)
 have h1b : preC runs (i + 1) = preC runs i + (gt runs i).count := rfl
 have h2 := hp.pre (k := i) (by omega)
 have h3 := hp.cnt i (by omega)
 refine zq (zR (zo rfl (zo rfl (zo rfl (zi rfl rfl rfl rfl rfl (zo rfl (zo rfl (zo rfl (zw (zy rfl (by simp; omega) ?_))))))))))
 refine zk (zb rfl (zR (zo rfl (zo rfl (zo rfl (zi rfl rfl rfl rfl rfl (zo rfl (zo rfl (zs rfl ?_)))))))))
 exact zo rfl (zw (zr (zo rfl (za rfl (zo rfl (wn (nb (ns trivial (weak_of ⟨rfl, int_eq rfl (show n - preC runs i - (gt runs i).count = n - (preC runs i + (gt runs i).count) by omega), rfl, trivial⟩ trivial rfl rfl)))))))))
 refine zq (zR (zo rfl (zo rfl (zo rfl (zi rfl rfl rfl rfl rfl (zo rfl (zo rfl (zo rfl (zw (zn rfl (by simp; unfold plJ at g3; omega) ?_))))))))))
 refine Sat.exit (xq (xe (nq (zR (zo rfl (zo rfl (zo rfl (zo rfl (zw (Sat.ret ?_))))))))))
 exact ze rfl rfl
def runAt (runs : List Run) (n : Int) : Run := gt runs (plK runs n)
def barAt (bars : List Bar) (runs : List Run) (n : Int) : Bar := barOf bars (runAt runs n)
def ptsAt (bars : List Bar) (runs : List Run) (n : Int) : List Pt := ptsOf (barAt bars runs n) (runAt runs n) (plJ runs n)
theorem RunsP.bar {bars : List Bar} {runs : List Run} (hp : RunsP bars runs) {i : Nat} (hi : i < runs.length) : 0 ≤ markIx bars (gt runs i).mark ∧ markIx bars (gt runs i).mark < bars.length ∧ BarP (barOf bars (gt runs i)) := by
 have h0 := (hp.rp i hi).ix
 have h1 := (findN_lt bars.length fun j => beqB (gt bars j).mark (gt runs i).mark).2
 exact ⟨h0, h1, hp.bp _ (gt_mem h0 h1)⟩
theorem ok195 (bars : List Bar) (runs : List Run) (hp : RunsP bars runs) (n : Int) (h0 : 0 ≤ n) (hn : n < total runs) : Ok Tryz.prog 195 [.sl (bars.map Bar.c), .sl (runs.map Run.c), vi n] (.ag (barAt bars runs n).c) := by
 obtain ⟨g1, g2, g3, g4⟩ := place_spec hp h0 hn
 obtain ⟨k1, k2, k3⟩ := hp.bar g1
 have hb := hp.bl
 refine zz 25 Tryz.func195 rfl Tryz.call195 rfl (zR (zo rfl (zw (zR (zo rfl (zo rfl (zc rfl (ok194 _ _ hp _ h0 hn) (zo rfl (zo rfl ?_)))))))))
 refine zo rfl (zo rfl (zo rfl (zw (zR (zo rfl (zo rfl (zo rfl (zo rfl (zi rfl rfl rfl rfl rfl ?_)))))))))
 exact zo rfl (zo rfl (zc rfl (ok77 _ _ (by omega)) (zi rfl rfl rfl rfl rfl (zo rfl (zd rfl rfl (zw (Sat.ret (ze rfl rfl))))))))
theorem ok137 (bars : List Bar) (runs : List Run) (hp : RunsP bars runs) (n : Int) (h0 : 0 ≤ n) (hn : n < total runs) : Ok Tryz.prog 137 [.sl (bars.map Bar.c), .sl (runs.map Run.c), vi n] (.sl ((ptsAt bars runs n).map Pt.c)) := by
 obtain ⟨g1, g2, g3, g4⟩ := place_spec hp h0 hn
 obtain ⟨k1, k2, k3⟩ := hp.bar g1
 have hv := hp.rp _ g1
 have hc := hv.cnt
 refine zz 25 Tryz.func137 rfl Tryz.call137 rfl (zR (zo rfl (zw (zR (zo rfl (zo rfl (zc rfl (ok194 _ _ hp _ h0 hn) (zo rfl (zo rfl ?_)))))))))
 refine zo rfl (zo rfl (zo rfl (zw (zq (Sat.dr tabOk mixed (by kernel_rfl) (zO (fun _ => rfl) (zO (fun _ => rfl) (zO (fun _ => rfl) (sil_call rfl rfl (fun _ => rfl) (fun _ => rfl) (ok195 _ _ hp _ h0 hn) ?_)))))))))
 refine zO (fun _ => rfl) (zO (fun _ => rfl) (sil_index rfl rfl rfl rfl (by omega) (gt_idx (by omega) (by omega)) rfl (zO (fun _ => rfl) (zO (fun _ => rfl) (sil_call rfl rfl (fun _ => rfl) (fun _ => rfl) (ok82 _ _ _ (by omega) k3 hv.p (fun h => hv.st (by omega))) (zO (fun _ => rfl) (sn (nq (Sat.ret ?_)))))))))
 exact ze rfl rfl
def mn (a b : Int) : Int := if b < a then b else a
def mx (a b : Int) : Int := if b > a then b else a
theorem mn_le (a b : Int) : mn a b ≤ a ∧ mn a b ≤ b ∧ (mn a b = a ∨ mn a b = b) := by unfold mn; split <;> omega
theorem le_mx (a b : Int) : a ≤ mx a b ∧ b ≤ mx a b ∧ (mx a b = a ∨ mx a b = b) := by unfold mx; split <;> omega
def hull2 (p q : Pt) : Bx := ⟨mn p.x q.x, mn p.y q.y, mn p.z q.z, mx p.x q.x, mx p.y q.y, mx p.z q.z⟩
theorem ok138 (p q : Pt) : Ok Tryz.prog 138 [.sl ([p, q].map Pt.c)] (.ag (hull2 p q).c) := by
 refine zz 64 Tryz.func138 rfl Tryz.call138 rfl (zR (zo rfl (zw (zq (Sat.dwN tabOk mixed [] [7, 8] [0, 1, 2, 3, 4, 5, 6, 7, 8] (by decide) (by kernel_rfl) (walk_sil rfl rfl (zO (fun _ => rfl) ?_)))))))
 refine walk_sil rfl rfl (sil_index rfl rfl rfl rfl (by omega) (gt_idx (by omega) (by simp)) rfl ?_)
 refine walk_sil rfl rfl (zO (fun _ => rfl) ?_)
 refine walk_sil rfl rfl (zO (fun _ => rfl) ?_)
 refine walk_sil rfl rfl (sil_index rfl rfl rfl rfl (by omega) (gt_idx (by omega) (by simp)) rfl ?_)
 refine walk_sil rfl rfl (zO (fun _ => rfl) ?_)
 refine walk_sil rfl rfl (zO (fun _ => rfl) ?_)
 refine walk_eff rfl rfl (step_op rfl rfl rfl ⟨fun _ => ovr_eq trivial, ?_⟩)
 refine walk_eff rfl rfl (step_do rfl rfl ⟨lastly_no (by kernel_rfl), ?_⟩)
 refine kn (nq (zq (zR (zo rfl (zw (Sat.loop' (fun _ => True) (fun i => if i = 0 then ⟨64, lk [(0, .v (.sl ([p, q].map Pt.c))), (2, .ptr 2 0), (3, .ptr 3 0), (4, .v (vi 1))], lk [(2, ⟨.cells ((Bx.mk 0 0 0 0 0 0).c.map .v), false⟩), (3, ⟨.cells ((Bx.mk p.x p.y p.z p.x p.y p.z).c.map .v), false⟩)]⟩ else ⟨64, lk [(0, .v (.sl ([p, q].map Pt.c))), (2, .ptr 2 0), (3, .ptr 3 0), (4, .v (vi 2))], lk [(2, ⟨.cells ((Bx.mk 0 0 0 0 0 0).c.map .v), false⟩), (3, ⟨.cells ((hull2 p q).c.map .v), false⟩)]⟩) (1) ?_ (trivial) (fun i hi hI => ?_) (fun hI => ?_)))))))
 exact zv rfl rfl rfl rfl
 obtain rfl : i = 0 := by omega
 refine zq (zR (zo rfl (zo rfl (zo rfl (zo rfl (zw (zy rfl (by rfl) (zk (zq (zb rfl ?_))))))))))
 refine zR (zo rfl (zo rfl (step_sil (sil_index rfl rfl rfl rfl (by omega) (gt_idx (by omega) (by simp)) rfl ?_))))
 refine zo rfl (zo rfl (zd rfl rfl (zw (zR (zo rfl (zo rfl (zo rfl (zo rfl (zo rfl ?_)))))))))
 refine zo rfl (zo rfl (zo rfl (zo rfl (zo rfl (zo rfl (zo rfl (zo rfl (zo rfl (zo rfl ?_)))))))))
 refine zo rfl (zo rfl (zo rfl (zo rfl (zo rfl (zd rfl rfl (zw (zr (zo rfl (zo rfl ?_)))))))))
 refine zo rfl (zo rfl (zo rfl (zo rfl (zo rfl (zo rfl (zo rfl (zo rfl (zo rfl (zo rfl ?_)))))))))
 refine zo rfl (zo rfl (zo rfl (zo rfl (zo rfl (zo rfl (zo rfl (zo rfl (zd rfl rfl (wn (nb ?_))))))))))
 exact nq (zr (zo rfl (za rfl (zo rfl (wn (ns trivial (zv rfl rfl rfl rfl)))))))
 refine zq (zR (zo rfl (zo rfl (zo rfl (zo rfl (zw (zn rfl (by rfl) (Sat.exit (xq ?_)))))))))
 exact xe (nq (zR (zo rfl (zd rfl rfl (zw (Sat.ret (ze rfl rfl)))))))
def legAt (l : List Pt) (i : Nat) : Bx := hull2 (gt l i) (gt l ((i : Int) + 1))
def legsOf (l : List Pt) : List Bx := (List.range (l.length - 1)).map (legAt l)
theorem ok87 (bars : List Bar) (runs : List Run) (hp : RunsP bars runs) (n : Int) (h0 : 0 ≤ n) (hn : n < total runs) : Ok Tryz.prog 87 [.sl (bars.map Bar.c), .sl (runs.map Run.c), vi n] (.sl ((legsOf (ptsAt bars runs n)).map Bx.c)) := by
 have hlen : (ptsAt bars runs n).length = (movesOf (barAt bars runs n)).length + 1 := by simp [ptsAt, ptsOf]
 have hmv := moves_len (barAt bars runs n)
 have h137 := ok137 bars runs hp n h0 hn
 generalize ptsAt bars runs n = l at *
 refine zz 31 Tryz.func87 rfl Tryz.call87 rfl (zR (zo rfl (zw (zR (zo rfl (zo rfl (zo rfl (zc rfl h137 (zo rfl ?_)))))))))
 refine zw (zR (zo rfl (zw (zq (zR (zo rfl (zw (Sat.loop' (fun _ => True) (fun i => ⟨31, lk [(7, .v (.sl (l.map Pt.c))), (8, slD 29 6 ((List.range i).map fun j => (legAt l j).c)), (9, .v (vi (i + 1)))], lkO [(29, slS 6 ((List.range i).map fun j => (legAt l j).c))]⟩) (l.length - 1) ?_ (trivial) (fun i hi hI => ?_) (fun hI => ?_)))))))))
 exact weakO ⟨rfl, rfl, rfl, trivial⟩ ⟨soS rfl, trivial⟩ (by repeat' (first | exact trivial | exact rfl | exact slD_ment rfl | exact moS | exact mo rfl | refine ⟨?_, ?_⟩)) (by repeat' (first | exact trivial | exact rfl | exact slD_ment rfl | exact moS | exact mo rfl | refine ⟨?_, ?_⟩))
 have e1 : (i : Int) + 1 - 1 = i := by omega
 refine zq (zR (zo rfl (zo rfl (zo rfl (zo rfl (zw (zy rfl (by simp; omega) (zk (zq (zb rfl ?_))))))))))
 refine zr (zo rfl (zo rfl (zo rfl (zs rfl (zo rfl (za rfl (step_sil (sil_slice2 rfl rfl rfl rfl rfl (by omega) (by omega) (by omega) (fun _ => rfl) ?_))))))))
 refine zc rfl (ok138 _ _) (zo rfl ?_)
 first | (refine step_app1 rfl (by first | exact .inl rfl | (right; simp)) rfl rfl rfl rfl rfl rfl (by simp; omega) rfl ?_) | (refine step_op rfl rfl rfl ?_)
 exact zo rfl (wn (nb (nq (zr (zo rfl (za rfl (zo rfl (wn (ns trivial (weakO ⟨rfl, slD_eq rfl (by rw [rangeM_snoc, e1]; rfl), rfl, trivial⟩ ⟨soA rfl (by rw [rangeM_snoc, e1]; rfl), trivial⟩ (by repeat' (first | exact trivial | exact rfl | exact slD_ment rfl | exact moS | exact mo rfl | refine ⟨?_, ?_⟩)) (by repeat' (first | exact trivial | exact rfl | exact slD_ment rfl | exact moS | exact mo rfl | refine ⟨?_, ?_⟩))))))))))))
 refine zq (zR (zo rfl (zo rfl (zo rfl (zo rfl (zw (zn rfl (by simp; omega) (Sat.exit (xq ?_)))))))))
 exact xe (nq (Sat.pubS 8 rfl rfl (zR (zo rfl (zo rfl (zw (Sat.ret (ze rfl (by simp only [legsOf, List.map_map]; rfl)))))))))
def isMain (b : Bx) : Bool := decide (b.lx < b.hx) && b.ly == b.hy && b.lz == b.hz
theorem ok139 (b : Bx) : Ok Tryz.prog 139 [.ag b.c] (.bool (isMain b)) := by
 unfold isMain
 refine zz 28 Tryz.func139 rfl Tryz.call139 rfl (zR (zo rfl (zo rfl (zw (zR (zo rfl (zo rfl (zo rfl (zo rfl ?_)))))))))
 refine zo rfl (zo rfl (zo rfl (zo rfl (zT rfl (fun h1 => ?_) (fun h1 => ?_)))))
 refine zO (fun _ => rfl) (zh rfl h1 rfl (zh rfl h1 rfl (zh rfl h1 rfl (zh rfl h1 rfl (zh rfl h1 rfl (zh rfl h1 rfl (zp rfl h1 rfl (zo rfl (zT rfl (fun h2 => ?_) (fun h2 => ?_))))))))))
 refine zO (fun _ => rfl) (zh rfl h2 rfl (zh rfl h2 rfl (zh rfl h2 rfl (zh rfl h2 rfl (zh rfl h2 rfl (zh rfl h2 rfl (zp rfl h2 rfl (zo rfl (zw (Sat.ret ?_))))))))))
 exact zg rfl
 refine zt rfl h2 (zt rfl h2 (zt rfl h2 (zt rfl h2 (zt rfl h2 (zt rfl h2 (zP rfl h2 rfl (zo rfl (zw (Sat.ret ?_)))))))))
 exact zg rfl
 refine zt rfl h1 (zt rfl h1 (zt rfl h1 (zt rfl h1 (zt rfl h1 (zt rfl h1 (zP rfl h1 rfl (zo rfl (zt rfl rfl (zt rfl rfl ?_)))))))))
 exact zt rfl rfl (zt rfl rfl (zt rfl rfl (zt rfl rfl (zt rfl rfl (zP rfl rfl rfl (zo rfl (zw (Sat.ret (zg rfl)))))))))
def mainIx (l : List Bx) : Int := findN l.length fun i => isMain (gt l i)
theorem ok88 (l : List Bx) (hl : l.length ≤ 1000) : Ok Tryz.prog 88 [.sl (l.map Bx.c)] (vi (mainIx l)) := by
 refine zz 16 Tryz.func88 rfl Tryz.call88 rfl (zR (zo rfl (zw (zq (zR (zo rfl (zw (Sat.loop' (fun z => ∀ j : Nat, j < z → isMain (gt l j) = false) (fun i => ⟨16, lk [(0, .v (.sl (l.map Bx.c))), (3, .v (vi i))], lk []⟩) (l.length) ?_ (all_zero) (fun i hi hI => ?_) (fun hI => ?_)))))))))
 exact zv rfl rfl rfl rfl
 refine zq (zR (zo rfl (zo rfl (zo rfl (zo rfl (zw (zy rfl (by simp [hi]) (zk (zq (zb rfl ?_))))))))))
 refine zR (zo rfl (zo rfl (zi rfl rfl rfl rfl rfl (zo rfl (zc rfl (ok139 _) (zw (zC rfl (fun h1 => ?_) (fun h1 => ?_))))))))
 exact zR (zo rfl (zo rfl (zw (Sat.ret (rb (rq (rs (rq (ze rfl (by first | exact vint (findN_eq hi (by assumption) hI).symm | exact vint (findN_none hI).symm))))))))))
 exact Sat.skip (nb (nq (zr (zo rfl (za rfl (zo rfl (wn (ns (all_step hI (by assumption)) (zv rfl rfl rfl rfl)))))))))
 refine zq (zR (zo rfl (zo rfl (zo rfl (zo rfl (zw (zn rfl (by simp) (Sat.exit (xq ?_)))))))))
 exact xe (nq (zR (zo rfl (zw (Sat.ret (ze rfl (by first | exact vint (findN_eq hi (by assumption) hI).symm | exact vint (findN_none hI).symm)))))))
def legsAt (bars : List Bar) (runs : List Run) (n : Int) : List Bx := legsOf (ptsAt bars runs n)
def hasMain (bars : List Bar) (runs : List Run) (n : Int) : Bool := !decide (mainIx (legsAt bars runs n) < 0)
def mainAt (bars : List Bar) (runs : List Run) (n : Int) : Bx := if mainIx (legsAt bars runs n) < 0 then ⟨0, 0, 0, 0, 0, 0⟩ else gt (legsAt bars runs n) (mainIx (legsAt bars runs n))
theorem legs_len (bars : List Bar) (runs : List Run) (n : Int) : 1 ≤ (legsAt bars runs n).length ∧ (legsAt bars runs n).length ≤ 6 := by
 have := moves_len (barAt bars runs n)
 simp only [legsAt, legsOf, ptsAt, ptsOf, List.length_map, List.length_range]
 omega
theorem ok41 (x : Det) (hp : RunsP x.bars x.runs) (n : Int) (h0 : 0 ≤ n) (hn : n < total x.runs) : Ok Tryz.prog 41 [.ag x.c, vi n] (.tp [.ag (mainAt x.bars x.runs n).c, .bool (hasMain x.bars x.runs n)]) := by
 have hl := legs_len x.bars x.runs n
 have hm := findN_lt (legsAt x.bars x.runs n).length fun i => isMain (gt (legsAt x.bars x.runs n) i)
 change -1 ≤ mainIx (legsAt x.bars x.runs n) ∧ _ at hm
 unfold mainAt hasMain
 refine zz 23 Tryz.func41 rfl Tryz.call41 rfl (zR (zo rfl (zo rfl (zo rfl (zw (zR (zo rfl (zo rfl (zo rfl ?_)))))))))
 refine zo rfl (zo rfl (zc rfl (ok87 _ _ hp _ h0 hn) (zo rfl (zw (zR (zo rfl (zc rfl (ok88 (legsAt x.bars x.runs n) (by omega)) (zo rfl (zw (zq (zR (zo rfl ?_))))))))))))
 refine zo rfl (zw (zC rfl (fun h1 => ?_) (fun h1 => ?_)))
 exact zR (zo rfl (zd rfl rfl (zo rfl (zw (Sat.ret (rq (ze rfl (by first | (have := of_decide_eq_true h1; simp only [if_pos this, decide_eq_true this]; rfl) | (have := of_decide_eq_false h1; simp only [if_neg this, decide_eq_false this]; rfl)))))))))
 refine zk (zR (zo rfl (zo rfl (step_sil (sil_index rfl rfl rfl rfl (by have := of_decide_eq_false h1; omega) (gt_idx (l := legsAt x.bars x.runs n) (by have := of_decide_eq_false h1; omega) (by exact hm.2)) rfl ?_)))))
 exact zo rfl (zd rfl rfl (zo rfl (zw (Sat.ret (ze rfl (by first | (have := of_decide_eq_true h1; simp only [if_pos this, decide_eq_true this]; rfl) | (have := of_decide_eq_false h1; simp only [if_neg this, decide_eq_false this]; rfl)))))))
theorem ok40 (x : Det) (hp : RunsP x.bars x.runs) : Ok Tryz.prog 40 [.ag x.c] (vi (total x.runs)) := by
 refine zz 6 Tryz.func40 rfl Tryz.call40 rfl (zR (zo rfl (zo rfl (zw (zR (zo rfl (zo rfl (zc rfl (ok35 _ hp.rl (fun i hi => hp.cnt i hi)) (zo rfl ?_)))))))))
 exact zw (Sat.ret (ze rfl rfl))
def jointOk (x : Det) (j : Jnt) : Bool := !decide (j.a < 0) && !decide (j.a ≥ total x.runs) && !decide (j.b < 0) && !decide (j.b ≥ total x.runs)
  && (hasMain x.bars x.runs j.a && hasMain x.bars x.runs j.b && decide ((mainAt x.bars x.runs j.a).lx < (mainAt x.bars x.runs j.b).lx) && decide ((mainAt x.bars x.runs j.a).hx < (mainAt x.bars x.runs j.b).hx) && decide ((mainAt x.bars x.runs j.a).hx ≥ (mainAt x.bars x.runs j.b).lx))
theorem ok17 (x : Det) (hp : RunsP x.bars x.runs) (j : Jnt) : Ok Tryz.prog 17 [.ag x.c, .ag j.c] (.bool (jointOk x j)) := by
 unfold jointOk
 refine zz 77 Tryz.func17 rfl Tryz.call17 rfl (zR (zo rfl (zo rfl (zo rfl (zw (zR (zo rfl (zc rfl (ok40 x hp) (zo rfl ?_)))))))))
 refine zw (zq (zR (zo rfl (zo rfl (zo rfl (zo rfl (zF rfl (fun h1 => ?_) (fun h1 => ?_))))))))
 refine zO (fun _ => rfl) (zh rfl h1 rfl (zh rfl h1 rfl (zh rfl h1 rfl (zP rfl h1 rfl (zo rfl (zF rfl (fun h2 => ?_) (fun h2 => ?_)))))))
 refine zO (fun _ => rfl) (zh rfl h2 rfl (zh rfl h2 rfl (zP rfl h2 rfl (zo rfl (zF rfl (fun h3 => ?_) (fun h3 => ?_))))))
 refine zO (fun _ => rfl) (zh rfl h3 rfl (zh rfl h3 rfl (zh rfl h3 rfl (zP rfl h3 rfl (zw (zC rfl (fun h4 => ?_) (fun h4 => ?_)))))))
 exact zR (zo rfl (zw (Sat.ret (rq (zg rfl)))))
 refine zk (zR (zo rfl (zo rfl (zo rfl (zc rfl (ok41 x hp _ (by have := of_decide_eq_false h1; omega) (by have := of_decide_eq_false h2; omega)) (zo rfl (zo rfl (zo rfl (zo rfl ?_)))))))))
 refine zd rfl rfl (zo rfl (zw (zR (zo rfl (zo rfl (zo rfl (zc rfl (ok41 x hp _ (by have := of_decide_eq_false h3; omega) (by have := of_decide_eq_false h4; omega)) (zo rfl (zo rfl ?_)))))))))
 refine zo rfl (zo rfl (zd rfl rfl (zo rfl (zw (zR (zo rfl (zo rfl (zT rfl (fun h5 => ?_) (fun h5 => ?_)))))))))
 refine zO (fun _ => rfl) (zp rfl h5 rfl (zo rfl (zT rfl (fun h6 => ?_) (fun h6 => ?_))))
 refine zO (fun _ => rfl) (zh rfl h6 rfl (zh rfl h6 rfl (zh rfl h6 rfl (zh rfl h6 rfl (zh rfl h6 rfl (zh rfl h6 rfl (zp rfl h6 rfl (zo rfl (zT rfl (fun h7 => ?_) (fun h7 => ?_))))))))))
 refine zO (fun _ => rfl) (zh rfl h7 rfl (zh rfl h7 rfl (zh rfl h7 rfl (zh rfl h7 rfl (zh rfl h7 rfl (zh rfl h7 rfl (zp rfl h7 rfl (zo rfl (zT rfl (fun h8 => ?_) (fun h8 => ?_))))))))))
 refine zO (fun _ => rfl) (zh rfl h8 rfl (zh rfl h8 rfl (zh rfl h8 rfl (zh rfl h8 rfl (zh rfl h8 rfl (zh rfl h8 rfl (zp rfl h8 rfl (zo rfl (zw (Sat.ret ?_))))))))))
 exact zg rfl
 refine zt rfl h8 (zt rfl h8 (zt rfl h8 (zt rfl h8 (zt rfl h8 (zt rfl h8 (zP rfl h8 rfl (zo rfl (zw (Sat.ret ?_)))))))))
 exact zg rfl
 refine zt rfl h7 (zt rfl h7 (zt rfl h7 (zt rfl h7 (zt rfl h7 (zt rfl h7 (zP rfl h7 rfl (zo rfl (zt rfl rfl (zt rfl rfl ?_)))))))))
 exact zt rfl rfl (zt rfl rfl (zt rfl rfl (zt rfl rfl (zt rfl rfl (zP rfl rfl rfl (zo rfl (zw (Sat.ret (zg rfl)))))))))
 refine zt rfl h6 (zt rfl h6 (zt rfl h6 (zt rfl h6 (zt rfl h6 (zt rfl h6 (zP rfl h6 rfl (zo rfl (zt rfl rfl (zt rfl rfl ?_)))))))))
 refine zt rfl rfl (zt rfl rfl (zt rfl rfl (zt rfl rfl (zt rfl rfl (zP rfl rfl rfl (zo rfl (zt rfl rfl (zt rfl rfl (zt rfl rfl ?_)))))))))
 exact zt rfl rfl (zt rfl rfl (zt rfl rfl (zt rfl rfl (zP rfl rfl rfl (zo rfl (zw (Sat.ret (zg rfl))))))))
 refine zP rfl h5 rfl (zo rfl (zt rfl rfl (zt rfl rfl (zt rfl rfl (zt rfl rfl (zt rfl rfl (zt rfl rfl (zt rfl rfl (zP rfl rfl rfl ?_)))))))))
 refine zo rfl (zt rfl rfl (zt rfl rfl (zt rfl rfl (zt rfl rfl (zt rfl rfl (zt rfl rfl (zt rfl rfl (zP rfl rfl rfl (zo rfl ?_)))))))))
 refine zt rfl rfl (zt rfl rfl (zt rfl rfl (zt rfl rfl (zt rfl rfl (zt rfl rfl (zt rfl rfl (zP rfl rfl rfl (zo rfl (zw (Sat.ret ?_))))))))))
 exact zg rfl
 refine zf rfl h3 (zf rfl h3 (zf rfl h3 (zp rfl h3 rfl (zw (zy rfl rfl (zR (zo rfl (zw (Sat.ret ?_)))))))))
 exact rq (zg rfl)
 refine zf rfl h2 (zf rfl h2 (zp rfl h2 rfl (zo rfl (zf rfl rfl (zf rfl rfl (zf rfl rfl (zf rfl rfl (zp rfl rfl rfl (zw (zy rfl rfl ?_))))))))))
 exact zR (zo rfl (zw (Sat.ret (rq (zg rfl)))))
 refine zf rfl h1 (zf rfl h1 (zf rfl h1 (zp rfl h1 rfl (zo rfl (zf rfl rfl (zf rfl rfl (zf rfl rfl (zp rfl rfl rfl (zo rfl ?_)))))))))
 refine zf rfl rfl (zf rfl rfl (zf rfl rfl (zf rfl rfl (zp rfl rfl rfl (zw (zy rfl rfl (zR (zo rfl (zw (Sat.ret ?_))))))))))
 exact rq (zg rfl)
def lapOk (x : Det) (i : Nat) : Bool := jointOk x (gt x.laps i) && allN i fun k => !((gt x.laps k).a == (gt x.laps i).a) && !((gt x.laps k).b == (gt x.laps i).b)
def detOk (x : Det) : Bool := memOk x.mem && runsOk x.bars x.runs && demsOk x.dems && ruleOk x.rule && !decide ((x.laps.length : Int) > 1000) && allN x.laps.length (lapOk x)
theorem ok6 (x : Det) : Ok Tryz.prog 6 [.ag x.c] (.bool (detOk x)) := by
 unfold detOk
 refine zz 83 Tryz.func6 rfl Tryz.call6 rfl (zR (zo rfl (zo rfl (zw (zq (zR (zo rfl (zo rfl (zc rfl (ok13 x.mem) ?_)))))))))
 refine zo rfl (zo rfl (zF rfl (fun h1 => ?_) (fun h1 => ?_)))
 refine zO (fun _ => rfl) (zh rfl h1 rfl (zh rfl h1 rfl (zh rfl h1 rfl (step_sil (sil_on rfl h1 (sil_call rfl rfl (fun _ => rfl) (fun _ => rfl) (ok14 _ _) ?_))))))
 refine zh rfl h1 rfl (zP rfl h1 rfl (zo rfl (zF rfl (fun h2 => ?_) (fun h2 => ?_))))
 refine zO (fun _ => rfl) (zh rfl h2 rfl (step_sil (sil_on rfl h2 (sil_call rfl rfl (fun _ => rfl) (fun _ => rfl) (ok15 _) ?_))))
 refine zh rfl h2 rfl (zP rfl h2 rfl (zo rfl (zF rfl (fun h3 => ?_) (fun h3 => ?_))))
 refine zO (fun _ => rfl) (zh rfl h3 rfl (step_sil (sil_on rfl h3 (sil_call rfl rfl (fun _ => rfl) (fun _ => rfl) (ok16 x.rule) ?_))))
 refine zh rfl h3 rfl (zP rfl h3 rfl (zo rfl (zF rfl (fun h4 => ?_) (fun h4 => ?_))))
 refine zO (fun _ => rfl) (zh rfl h4 rfl (zh rfl h4 rfl (zh rfl h4 rfl (zP rfl h4 rfl (zw (zC rfl (fun h5 => ?_) (fun h5 => ?_)))))))
 exact zR (zo rfl (zw (Sat.ret (rq (ze rfl (by first | (simp_all; done) | exact vb (and_allN_false hi (by rw [lapOk, allN_false hk (by first | omega | (simp_all []; done) | (simp_all []; omega))]; simp)).symm | exact vb (and_allN_false hi (by simp_all [lapOk])).symm | exact vb (and_allN_true (by simp_all) hI).symm))))))
 refine zk (zq (zR (zo rfl (zw (Sat.loop' (fun z => ∀ j : Nat, j < z → lapOk x j = true) (fun i => ⟨83, lk [(1, .ptr 1 0), (3, .v (vi i))], lk [(1, ⟨.cells (x.c.map .v), false⟩)]⟩) (x.laps.length) ?_ (all_zero) (fun i hi hI => ?_) (fun hI => ?_))))))
 exact zv rfl rfl rfl rfl
 have hl : x.laps.length ≤ 1000 := by simp at h5; omega
 refine zq (zR (zo rfl (zo rfl (zo rfl (zo rfl (zo rfl (zw (zy rfl (by simp [hi]) (zk (zq (zb rfl ?_)))))))))))
 refine zq (zq (Sat.dr tabOk mixed (by kernel_rfl) (zO (fun _ => rfl) (zO (fun _ => rfl) (zO (fun _ => rfl) (zO (fun _ => rfl) (sil_index rfl rfl rfl rfl (by omega) (gt_idx (by omega) (by omega)) rfl (zO (fun _ => rfl) (sil_call rfl rfl (fun _ => rfl) (fun _ => rfl) (ok17 x (runsP (by simp_all)) _) ?_)))))))))
 refine zO (fun _ => rfl) (sn (nq (zC rfl (fun h6 => ?_) (fun h6 => ?_))))
 exact zR (zo rfl (zw (Sat.ret (rq (rb (rq (rs (rq (ze rfl (by first | (simp_all; done) | exact vb (and_allN_false hi (by rw [lapOk, allN_false hk (by first | omega | (simp_all []; done) | (simp_all []; omega))]; simp)).symm | exact vb (and_allN_false hi (by simp_all [lapOk])).symm | exact vb (and_allN_true (by simp_all) hI).symm))))))))))
 refine zk (zR (zo rfl (zw (Sat.loop' (fun z => ∀ j : Nat, j < z → (!((gt x.laps j).a == (gt x.laps i).a) && !((gt x.laps j).b == (gt x.laps i).b)) = true) (fun k => ⟨83, lk [(1, .ptr 1 0), (3, .v (vi i)), (4, .v (vi k))], lk [(1, ⟨.cells (x.c.map .v), false⟩)]⟩) (i) ?_ (all_zero) (fun k hk hK => ?_) (fun hK => ?_)))))
 exact zv rfl rfl rfl rfl
 refine zq (zR (zo rfl (zo rfl (zo rfl (zw (zy rfl (by simp [hk]) (zk (zq (zb rfl ?_)))))))))
 refine zq (Sat.dr tabOk mixed (by kernel_rfl) (zO (fun _ => rfl) (zO (fun _ => rfl) (zO (fun _ => rfl) (sil_index rfl rfl rfl rfl (by omega) (gt_idx (by omega) (by omega)) rfl (zO (fun _ => rfl) (zO (fun _ => rfl) (zO (fun _ => rfl) (zO (fun _ => rfl) ?_)))))))))
 refine zO (fun _ => rfl) (sil_index rfl rfl rfl rfl (by omega) (gt_idx (by omega) (by omega)) rfl (zO (fun _ => rfl) (zO (fun _ => rfl) (zO (fun _ => rfl) (zO (fun _ => rfl) (sil_splitF rfl rfl (fun h7 => ?_) (fun h7 => ?_)))))))
 refine zO (fun _ => rfl) (sil_on rfl h7 (zO (fun _ => rfl) ?_))
 refine sil_on rfl h7 (zO (fun _ => rfl) ?_)
 refine sil_on rfl h7 (sil_index rfl rfl rfl rfl (by omega) (gt_idx (by omega) (by omega)) rfl ?_)
 refine sil_on rfl h7 (zO (fun _ => rfl) ?_)
 refine sil_on rfl h7 (zO (fun _ => rfl) ?_)
 refine sil_on rfl h7 (zO (fun _ => rfl) ?_)
 refine sil_on rfl h7 (zO (fun _ => rfl) ?_)
 refine sil_on rfl h7 (zO (fun _ => rfl) ?_)
 refine sil_on rfl h7 (sil_index rfl rfl rfl rfl (by omega) (gt_idx (by omega) (by omega)) rfl ?_)
 refine sil_on rfl h7 (zO (fun _ => rfl) ?_)
 refine sil_on rfl h7 (zO (fun _ => rfl) ?_)
 refine sil_on rfl h7 (zO (fun _ => rfl) ?_)
 refine sil_pick (want := false) rfl rfl h7 rfl (sn (nq (zC rfl (fun h8 => ?_) (fun h8 => ?_))))
 refine zR (zo rfl (zw (Sat.ret (rb (rq (rs (rb (rq (rs ?_)))))))))
 exact rq (ze rfl (by first | (simp_all; done) | exact vb (and_allN_false hi (by rw [lapOk, allN_false hk (by first | omega | (simp_all []; done) | (simp_all []; omega))]; simp)).symm | exact vb (and_allN_false hi (by simp_all [lapOk])).symm | exact vb (and_allN_true (by simp_all) hI).symm))
 exact Sat.skip (nb (nq (zr (zo rfl (za rfl (zo rfl (wn (ns (all_step hK (by first | omega | (simp_all []; done) | (simp_all []; omega))) (zv rfl rfl rfl rfl)))))))))
 refine sil_offF rfl rfl h7 (sil_offF rfl rfl h7 (sil_offF rfl rfl h7 (sil_offF rfl rfl h7 (sil_offF rfl rfl h7 (sil_offF rfl rfl h7 (sil_offF rfl rfl h7 (sil_offF rfl rfl h7 (sil_offF rfl rfl h7 (sil_offF rfl rfl h7 ?_)))))))))
 refine sil_offF rfl rfl h7 (sil_offF rfl rfl h7 (sil_pick (want := true) rfl rfl h7 rfl (sn (nq (zy rfl rfl (zR (zo rfl (zw (Sat.ret ?_)))))))))
 exact rb (rq (rs (rb (rq (rs (rq (ze rfl (by first | (simp_all; done) | exact vb (and_allN_false hi (by rw [lapOk, allN_false hk (by first | omega | (simp_all []; done) | (simp_all []; omega))]; simp)).symm | exact vb (and_allN_false hi (by simp_all [lapOk])).symm | exact vb (and_allN_true (by simp_all) hI).symm))))))))
 refine zq (zR (zo rfl (zo rfl (zo rfl (zw (zn rfl (by simp) (Sat.exit (xq (xe ?_)))))))))
 exact nb (nq (zr (zo rfl (za rfl (zo rfl (wn (ns (all_step hI (by rw [lapOk, allN_iff.2 hK]; simp_all)) (zv rfl rfl rfl rfl))))))))
 refine zq (zR (zo rfl (zo rfl (zo rfl (zo rfl (zo rfl (zw (zn rfl (by simp) (Sat.exit ?_)))))))))
 exact xq (xe (nq (zR (zo rfl (zw (Sat.ret (ze rfl (by first | (simp_all; done) | exact vb (and_allN_false hi (by rw [lapOk, allN_false hk (by first | omega | (simp_all []; done) | (simp_all []; omega))]; simp)).symm | exact vb (and_allN_false hi (by simp_all [lapOk])).symm | exact vb (and_allN_true (by simp_all) hI).symm))))))))
 refine zf rfl h4 (zf rfl h4 (zf rfl h4 (zp rfl h4 rfl (zw (zy rfl rfl (zR (zo rfl (zw (Sat.ret ?_)))))))))
 exact rq (ze rfl (by first | (simp_all; done) | exact vb (and_allN_false hi (by rw [lapOk, allN_false hk (by first | omega | (simp_all []; done) | (simp_all []; omega))]; simp)).symm | exact vb (and_allN_false hi (by simp_all [lapOk])).symm | exact vb (and_allN_true (by simp_all) hI).symm))
 refine zf rfl h3 (zf rfl h3 (zf rfl h3 (zp rfl h3 rfl (zo rfl (zf rfl rfl (zf rfl rfl (zf rfl rfl (zf rfl rfl (zp rfl rfl rfl ?_)))))))))
 exact zw (zy rfl rfl (zR (zo rfl (zw (Sat.ret (rq (ze rfl (by first | (simp_all; done) | exact vb (and_allN_false hi (by rw [lapOk, allN_false hk (by first | omega | (simp_all []; done) | (simp_all []; omega))]; simp)).symm | exact vb (and_allN_false hi (by simp_all [lapOk])).symm | exact vb (and_allN_true (by simp_all) hI).symm))))))))
 refine zf rfl h2 (zf rfl h2 (zf rfl h2 (zp rfl h2 rfl (zo rfl (zf rfl rfl (zf rfl rfl (zf rfl rfl (zf rfl rfl (zp rfl rfl rfl ?_)))))))))
 refine zo rfl (zf rfl rfl (zf rfl rfl (zf rfl rfl (zf rfl rfl (zp rfl rfl rfl (zw (zy rfl rfl (zR (zo rfl ?_)))))))))
 exact zw (Sat.ret (rq (ze rfl (by first | (simp_all; done) | exact vb (and_allN_false hi (by rw [lapOk, allN_false hk (by first | omega | (simp_all []; done) | (simp_all []; omega))]; simp)).symm | exact vb (and_allN_false hi (by simp_all [lapOk])).symm | exact vb (and_allN_true (by simp_all) hI).symm))))
 refine zf rfl h1 (zf rfl h1 (zf rfl h1 (zf rfl h1 (zf rfl h1 (zp rfl h1 rfl (zo rfl (zf rfl rfl (zf rfl rfl (zf rfl rfl ?_)))))))))
 refine zf rfl rfl (zp rfl rfl rfl (zo rfl (zf rfl rfl (zf rfl rfl (zf rfl rfl (zf rfl rfl (zp rfl rfl rfl (zo rfl (zf rfl rfl ?_)))))))))
 refine zf rfl rfl (zf rfl rfl (zf rfl rfl (zp rfl rfl rfl (zw (zy rfl rfl (zR (zo rfl (zw (Sat.ret ?_)))))))))
 exact rq (ze rfl (by first | (simp_all; done) | exact vb (and_allN_false hi (by rw [lapOk, allN_false hk (by first | omega | (simp_all []; done) | (simp_all []; omega))]; simp)).symm | exact vb (and_allN_false hi (by simp_all [lapOk])).symm | exact vb (and_allN_true (by simp_all) hI).symm))
end Go.Proofs.YtamjajacnfmgeaaGreat
