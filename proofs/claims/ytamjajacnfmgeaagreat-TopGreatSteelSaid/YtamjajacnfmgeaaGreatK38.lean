/-
  Contracts: sections: parts and failing spans. Condition: valid in the reference.
  Contracts: sections: the failing spans, and the shelf's and the row's questions to them. Condition: valid in the reference.
-/
import Derived.Test.YtamjajacnfmgeaaGreatK37
set_option linter.all false
namespace Go.Proofs.YtamjajacnfmgeaaGreat
open Go Go.RowKit
set_option maxHeartbeats 1000000
theorem ok51 (x : Det) (h : detOk x = true) (hf : ∀ d : Nat, d < x.dems.length → (raw x d).length ≤ 200) : Ok Tryz.prog 51 [.ag x.c] (.tp [.sl (((List.range x.dems.length).map fun d : Nat => ofF x d).map slC), vi 0]) := by
 have hdl := (demsOk_parts (detP h).dems).1
 refine zz 32 Tryz.func51 rfl Tryz.call51 rfl (zR (zo rfl (zo rfl (zo rfl (zw (zq (zR (zo rfl (zc rfl (ok46 x h) ?_)))))))))
 refine zo rfl (zw (zn rfl (rfl) (zk (zR (zo rfl (zw (zq (zR (zo rfl ?_)))))))))
 refine zo rfl (zo rfl (zo rfl (zw (Sat.loop' (fun _ => True) (fun i => ⟨32, lk [(1, .ptr 1 0), (4, slD 29 1 ((List.range i).map fun d : Nat => slC (ofF x d))), (12, .v (.sl (x.dems.map Dem.c))), (13, .v (vi (x.dems.map Dem.c).length)), (14, .v (vi i))], lkO [(1, some ⟨.cells (x.c.map .v), false⟩), (29, slS 1 ((List.range i).map fun d : Nat => slC (ofF x d)))]⟩) (x.dems.length) ?_ (trivial) (fun i hi hI => ?_) (fun hI => ?_)))))
 exact zV ⟨rfl, rfl, rfl, rfl, rfl, trivial⟩ ⟨so rfl, soS rfl, trivial⟩
 refine zR (zo rfl (zw (zq (zy rfl (by simp [hi]) (zk (zq (zb rfl (zR (zo rfl ?_)))))))))
 refine zo rfl (zw (zR (zo rfl (zo rfl (zc rfl (ok55 x h i (by omega) (by omega) (hf i hi)) (zo rfl (zo rfl (zo rfl (zo rfl ?_)))))))))
 refine zo rfl (zw (zq (zR (zo rfl (zo rfl (zw (zn rfl (rfl) (zk (zr ?_)))))))))
 refine zo rfl (zo rfl (zo rfl ?_))
 first | (refine step_app1 rfl (by first | exact .inl rfl | (right; simp)) rfl rfl rfl rfl rfl rfl (by simp; omega) rfl ?_) | (refine step_op rfl rfl rfl ?_)
 exact zo rfl (wn (nb (nq (zr (za rfl (zo rfl (wn (ns trivial (zV ⟨rfl, slD_eq rfl (rangeM_snoc _ _).symm, rfl, rfl, rfl, trivial⟩ ⟨so rfl, soA rfl (rangeM_snoc _ _).symm, trivial⟩)))))))))
 refine zR (zo rfl (zw (zq (zn rfl (by simp) (Sat.exit (xq (xe (nq (Sat.pubS 4 rfl rfl ?_)))))))))
 exact zR (zo rfl (zo rfl (zo rfl (zw (Sat.ret (ze rfl (by simp only [List.map_map]; rfl)))))))
theorem ok105 (n : Int) : Ok Tryz.prog 105 [vi n] (.bool (isLen n)) := by
 unfold isLen
 refine zz 9 Tryz.func105 rfl Tryz.call105 rfl (zR (zo rfl (zw (zR (zo rfl (zo rfl (zo rfl (zT rfl (fun h1 => ?_) (fun h1 => ?_)))))))))
 exact zO (fun _ => rfl) (zh rfl h1 rfl (zp rfl h1 rfl (zo rfl (zw (Sat.ret (zg rfl))))))
 exact zt rfl h1 (zP rfl h1 rfl (zo rfl (zw (Sat.ret (zg rfl)))))
theorem ok103 (x : Det) (h : detOk x = true) (d : Int) (h0 : 0 ≤ d) (h1 : d < x.dems.length) : Ok Tryz.prog 103 [.ag x.c, vi d] (vi 0) := by
 refine zz 19 Tryz.func103 rfl Tryz.call103 rfl (zR (zo rfl (zo rfl (zw (zq (zb rfl (zR (zo rfl (zc rfl (ok46 x h) ?_)))))))))
 refine zo rfl (zo rfl (zw (zn rfl (rfl) (zq (Sat.to tabOk (⟨19, lk [(9, .v (.bool false))], lk []⟩) ?_ ?_)))))
 refine zo rfl (zo rfl (zo rfl (zF rfl (fun h1 => ?_) (fun h1 => ?_))))
 exact zO (fun _ => rfl) (zh rfl h1 rfl (zh rfl h1 rfl (zh rfl h1 rfl (zh rfl h1 rfl (zP rfl h1 rfl (zo rfl (wn (weak_of ⟨bool_eq rfl (by first | rfl | (simp_all; done) | (simp_all; omega)), trivial⟩ trivial rfl rfl))))))))
 exact zf rfl h1 (zf rfl h1 (zf rfl h1 (zf rfl h1 (zp rfl h1 rfl (zo rfl (wn (weak_of ⟨bool_eq rfl (by first | rfl | (simp_all; done) | (simp_all; omega)), trivial⟩ trivial rfl rfl)))))))
 exact nq (zn rfl (rfl) (Sat.skip (nb (nq (zR (zo rfl (zw (Sat.ret (ze rfl rfl)))))))))
theorem shortN_mem {l : List Stp} : ∀ {n : Nat} {s : Stp}, s ∈ shortN l n → ∃ k : Nat, k < n ∧ s = gt l k
  | n + 1, s, hs => by
    simp only [shortN] at hs
    split at hs
    · rcases List.mem_append.1 hs with hs | hs
      · obtain ⟨k, h1, h2⟩ := shortN_mem hs; exact ⟨k, by omega, h2⟩
      · simp at hs; exact ⟨n, by omega, hs⟩
    · obtain ⟨k, h1, h2⟩ := shortN_mem hs; exact ⟨k, by omega, h2⟩
theorem StepsP.lt {l : List Stp} (h : StepsP l) {a b : Nat} (hab : a < b) (hb : b < l.length) : (gt l a).fr < (gt l b).fr :=
  Int.lt_of_lt_of_le (h.inc a (by omega)) (h.mono (show a + 1 ≤ b from hab) hb)
theorem shortN_pair {l : List Stp} (h : StepsP l) : ∀ {n : Nat}, n ≤ l.length → (shortN l n).Pairwise fun a b => a.fr < b.fr
  | 0, _ => List.Pairwise.nil
  | n + 1, hn => by
    simp only [shortN]
    split
    · rw [List.pairwise_append]
      refine ⟨shortN_pair h (by omega), List.pairwise_singleton _ _, fun a ha b hb => ?_⟩
      obtain ⟨k, h1, rfl⟩ := shortN_mem ha
      simp at hb; subst hb
      exact h.lt h1 (by omega)
    · exact shortN_pair h (by omega)
theorem ofF_ok {x : Det} (h : detOk x = true) {d : Int} (hl : (raw x d).length ≤ 200) : stepsOk (ofF x d) = true := by
 have hp := stepsP (raw_ok h hl)
 refine stepsOk_of (by have := shortN_len (raw x d) (raw x d).length; unfold ofF; omega) (shortN_pair hp (Nat.le_refl _)) fun s hs => ?_
 obtain ⟨k, h1, rfl⟩ := shortN_mem hs
 exact ⟨hp.fr k h1, hp.va k h1⟩
theorem dstep_ok {x : Det} (h : detOk x = true) {d : Int} (h0 : 0 ≤ d) (h1 : d < x.dems.length) : stepsOk (gt x.dems d).steps = true := (demR_parts (dem_ok h h0 h1)).2
def both (x : Det) (d : Int) : List Stp := ofF x d ++ (gt x.dems d).steps
def pls (x : Det) (d : Int) : List Int := cpt (srt ((both x d).map Stp.fr))
def pEnd (x : Det) (d : Int) (i : Nat) : Int := if i + 1 < (pls x d).length then gt (pls x d) ((i : Int) + 1) - 1 else 1048576
structure Prt where
  lo : Int
  hi : Int
  there : Int
  wants : Int
  deriving Inhabited
def Prt.c (p : Prt) : List V := [vi p.lo, vi p.hi, vi p.there, vi p.wants]
def prt (x : Det) (d : Int) (i : Nat) : Prt := ⟨gt (pls x d) i, pEnd x d i, stepAt (ofF x d) (gt (pls x d) i), stepAt (gt x.dems d).steps (gt (pls x d) i)⟩
def prts (x : Det) (d : Int) : List Prt := (List.range (pls x d).length).map (prt x d)
theorem both_in {x : Det} (h : detOk x = true) {d : Int} (h0 : 0 ≤ d) (h1 : d < x.dems.length) (hl : (raw x d).length ≤ 200) : (both x d).length ≤ 400 ∧ ∀ i : Nat, i < (both x d).length → isLen (gt (both x d) i).fr = true := by
 have p1 := stepsP (ofF_ok h hl)
 have p2 := stepsP (dstep_ok h h0 h1)
 have q1 := p1.len
 have q2 := p2.len
 refine ⟨by unfold both; simp; omega, fun i hi => ?_⟩
 rw [isLen_iff]
 have hm : gt (both x d) (i : Int) ∈ both x d := gt_mem (by omega) (by omega)
 rcases List.mem_append.1 hm with hm | hm
 · obtain ⟨k, hk, e⟩ := List.mem_iff_getElem.1 hm
   have := p1.fr k hk
   rwa [gt_get hk, e] at this
 · obtain ⟨k, hk, e⟩ := List.mem_iff_getElem.1 hm
   have := p2.fr k hk
   rwa [gt_get hk, e] at this
theorem pls_in {x : Det} (h : detOk x = true) {d : Int} (h0 : 0 ≤ d) (h1 : d < x.dems.length) (hl : (raw x d).length ≤ 200) : (pls x d).length ≤ 400 ∧ ∀ a ∈ pls x d, -1048576 ≤ a ∧ a ≤ 1048576 := by
 obtain ⟨b1, b2⟩ := both_in h h0 h1 hl
 have h2 := cpt_le (srt ((both x d).map Stp.fr))
 rw [srt_len, List.length_map] at h2
 refine ⟨by unfold pls; omega, fun a ha => ?_⟩
 unfold pls at ha
 rw [cpt_mem, srt_mem, List.mem_map] at ha
 obtain ⟨s, hs, rfl⟩ := ha
 obtain ⟨k, hk, e⟩ := List.mem_iff_getElem.1 hs
 have := b2 k hk
 rw [gt_get hk, e, isLen_iff] at this
 exact this
theorem pls_gt {x : Det} (h : detOk x = true) {d : Int} (h0 : 0 ≤ d) (h1 : d < x.dems.length) (hl : (raw x d).length ≤ 200) {k : Int} (hk0 : 0 ≤ k) (hk : k < (pls x d).length) : -1048576 ≤ gt (pls x d) k ∧ gt (pls x d) k ≤ 1048576 := (pls_in h h0 h1 hl).2 _ (gt_mem hk0 hk)
theorem prt_t {x : Det} {d : Int} {i : Nat} (h : decide ((i : Int) + 1 < ((pls x d).map ic).length) = true) : gt (pls x d) ((i : Int) + 1) - 1 = pEnd x d i := by
 have h := of_decide_eq_true h
 rw [List.length_map] at h
 unfold pEnd; rw [if_pos (by omega)]
theorem prt_f {x : Det} {d : Int} {i : Nat} (h : decide ((i : Int) + 1 < ((pls x d).map ic).length) = false) : (1048576 : Int) = pEnd x d i := by
 have h := of_decide_eq_false h
 rw [List.length_map] at h
 unfold pEnd; rw [if_neg (by omega)]
theorem prt_row {x : Det} {d : Int} {i : Nat} {e : Int} (h : e = pEnd x d i) : ((List.range i).map fun k : Nat => (prt x d k).c) ++ [[vi (gt (pls x d) i), vi e, vi (stepAt (ofF x d) (gt (pls x d) i)), vi (stepAt (gt x.dems d).steps (gt (pls x d) i))]] = (List.range (i + 1)).map fun k : Nat => (prt x d k).c := by
 subst h; exact (rangeM_snoc _ _).symm
def frN (x : Det) (d : Int) (n : Nat) : List Int := ((both x d).take n).map Stp.fr
theorem frN_succ {x : Det} {d : Int} {n : Nat} (h : n < (both x d).length) : (frN x d n).map ic ++ [[vi (gt (both x d) n).fr]] = (frN x d (n + 1)).map ic := by
 unfold frN
 rw [take_snoc h, List.map_append, List.map_append]
 rfl
theorem ok50f (x : Det) (h : detOk x = true) (d : Int) (h0 : 0 ≤ d) (h1 : d < x.dems.length) (hf : 200 < (raw x d).length) : Ok Tryz.prog 50 [.ag x.c, vi d] (.tp [.sl [], vi 4]) := by
 refine zz 113 Tryz.func50 rfl Tryz.call50 rfl (zR (zo rfl (zo rfl (zo rfl (zw (zq (zR (zo rfl (zo rfl ?_)))))))))
 refine zc rfl (ok103 x h d h0 h1) (zo rfl (zw (zR (zo rfl (zo rfl (zw (zn rfl (rfl) (zk (zR (zo rfl ?_))))))))))
 refine zo rfl (zc rfl (ok55f x h d h0 h1 hf) (zo rfl (zo rfl (zo rfl (zo rfl (zo rfl (zw (zq (zR (zo rfl ?_))))))))))
 refine zo rfl (zw (zy rfl (rfl) (zR (zo rfl (zo rfl (zo rfl (zw (Sat.ret (rq ?_)))))))))
 exact ze rfl rfl
theorem ok50 (x : Det) (h : detOk x = true) (d : Int) (hd0 : 0 ≤ d) (hd1 : d < x.dems.length) (hf : (raw x d).length ≤ 200) : Ok Tryz.prog 50 [.ag x.c, vi d] (.tp [.sl ((prts x d).map Prt.c), vi 0]) := by
 obtain ⟨hbl, hbi⟩ := both_in h hd0 hd1 hf
 have hpl := (pls_in h hd0 hd1 hf).1
 have hof := ofF_ok h hf
 have hds := dstep_ok h hd0 hd1
 have q1 := (stepsP hof).len
 have q2 := (stepsP hds).len
 refine zz 113 Tryz.func50 rfl Tryz.call50 rfl (zR (zo rfl (zo rfl (zo rfl (zw (zq (zR (zo rfl (zo rfl ?_)))))))))
 refine zc rfl (ok103 x h d hd0 hd1) (zo rfl (zw (zR (zo rfl (zo rfl (zw (zn rfl (by first | rfl | exact hbi i hi) (zk (zR (zo rfl ?_))))))))))
 refine zo rfl (zc rfl (ok55 x h d hd0 hd1 hf) (zo rfl (zo rfl (zo rfl (zo rfl (zo rfl (zw (zq (zR (zo rfl ?_))))))))))
 refine zo rfl (zw (zn rfl (by first | rfl | exact hbi i hi) (zk (zR (zo rfl (zw (zq (zR (zo rfl ?_)))))))))
 refine zo rfl (zo rfl (zo rfl (step_sil (sil_index rfl rfl rfl rfl (by omega) (gt_idx (by omega) (by first | omega | (have := of_decide_eq_true h1; rw [List.length_map] at this; omega))) rfl ?_))))
 refine zo rfl (zo rfl (zo rfl (step_call rfl rfl rfl (ok104 (ofF x d) (gt x.dems d).steps (by omega) (by omega)) (zo rfl (zo rfl (zw (Sat.loop' (fun _ => True) (fun i => ⟨113, lk [(1, .v (vi d)), (2, .ptr 2 0), (7, .v (.sl ((ofF x d).map Stp.c))), (9, slD 55 1 ((frN x d i).map ic)), (42, .v (.sl ((both x d).map Stp.c))), (43, .v (vi ((both x d).map Stp.c).length)), (44, .v (vi i))], lkO [(2, some ⟨.cells (x.c.map .v), false⟩), (55, slS 1 ((frN x d i).map ic))]⟩) ((both x d).length) ?_ (trivial) (fun i hi hI => ?_) (fun hI => ?_))))))))
 exact zV ⟨rfl, rfl, rfl, rfl, rfl, rfl, rfl, trivial⟩ ⟨so rfl, soS rfl, trivial⟩
 refine zR (zo rfl (zw (zq (zy rfl (by simp [hi]) (zk (zq (zb rfl (zR (step_sil (sil_index rfl rfl rfl rfl (by omega) (gt_idx (by omega) (by first | omega | (have := of_decide_eq_true h1; rw [List.length_map] at this; omega))) rfl ?_))))))))))
 refine zo rfl (zo rfl (zd rfl rfl (zw (zR (zo rfl (zo rfl (zc rfl (ok105 _) (zw (zy rfl (by first | rfl | exact hbi i hi) ?_)))))))))
 refine zr (zo rfl (zo rfl (zo rfl (zo rfl ?_))))
 first | (refine step_app1 rfl (by first | exact .inl rfl | (right; simp)) rfl rfl rfl rfl rfl rfl (by first | (simp [frN]; omega) | (simp; omega)) rfl ?_) | (refine step_op rfl rfl rfl ?_)
 exact zo rfl (wn (nb (nq (zr (zA rfl (by first | (constructor <;> omega) | (have hq := pls_gt h hd0 hd1 hf (k := (i : Int) + 1) (by omega) (by have := of_decide_eq_true h1; rw [List.length_map] at this; omega); constructor <;> omega)) (zo rfl (wn (ns trivial (zV ⟨rfl, rfl, rfl, slD_eq rfl (frN_succ hi), rfl, rfl, rfl, trivial⟩ ⟨so rfl, soA rfl (frN_succ hi), trivial⟩)))))))))
 refine zR (zo rfl (zw (zq (zn rfl (by simp) (Sat.exit (xq (xe (nq ?_))))))))
 rw [show frN x d (both x d).length = ((both x d).map Stp.fr) by rw [frN, List.take_length]]
 refine zq (Sat.xto tabOk (⟨113, lk [(1, .v (vi d)), (2, .ptr 2 0), (7, .v (.sl ((ofF x d).map Stp.c))), (9, slD 55 1 ((srt ((both x d).map Stp.fr)).map ic))], lkO [(2, some ⟨.cells (x.c.map .v), false⟩), (55, slS 1 ((srt ((both x d).map Stp.fr)).map ic))]⟩) ?_ ?_)
 refine wx (step_sil (zO (fun _ => rfl) ?_))
 exact x_call rfl rfl (sort_do 55 ((both x d).map Stp.fr) (by rw [List.length_map]; omega) rfl) (wnX (zV ⟨rfl, rfl, rfl, d_eq rfl (slD_congr (by simp [srt_len])), trivial⟩ ⟨so rfl, soS rfl, trivial⟩))
 refine nq (zq (Sat.rx tabOk (wx (step_sil (zO (fun _ => rfl) ?_)))))
 refine x_takeS (x := .sl ((pls x d).map ic)) (rg := [(1, .v (vi d)), (2, .ptr 2 0), (7, .v (.sl ((ofF x d).map Stp.c)))]) (s1 := lkO [(2, some ⟨.cells (x.c.map .v), false⟩)]) rfl rfl (fun he => by have e : srt ((both x d).map Stp.fr) = [] := List.map_eq_nil_iff.1 he; unfold pls; rw [e]; exact ok106_nil) (fun _ => compactC (srt ((both x d).map Stp.fr)) (by rw [srt_len, List.length_map]; omega)) rfl rfl (frz_nil _) (zV ⟨rfl, rfl, rfl, trivial⟩ ⟨so rfl, trivial⟩) rfl (wx (step_sil (zO (fun _ => rfl) ?_)))
 refine wnX (nq (zR (zo rfl (zw (zq (zR (zo rfl (zo rfl (zo rfl ?_)))))))))
 refine zw (Sat.loop' (fun _ => True) (fun i => ⟨113, lk [(1, .v (vi d)), (2, .ptr 2 0), (7, .v (.sl ((ofF x d).map Stp.c))), (9, .v (.sl ((pls x d).map ic))), (12, slD 110 4 ((List.range i).map fun k : Nat => (prt x d k).c)), (61, .v (.sl ((pls x d).map ic))), (62, .v (vi ((pls x d).map ic).length)), (63, .v (vi i))], lkO [(2, some ⟨.cells (x.c.map .v), false⟩), (110, slS 4 ((List.range i).map fun k : Nat => (prt x d k).c))]⟩) ((pls x d).length) ?_ (trivial) (fun i hi hI => ?_) (fun hI => ?_))
 exact zV ⟨rfl, rfl, rfl, rfl, rfl, rfl, rfl, rfl, trivial⟩ ⟨so rfl, soS rfl, trivial⟩
 refine zR (zo rfl (zw (zq (zy rfl (by simp [hi]) (zk (zq (zb rfl (zR (zo rfl ?_)))))))))
 refine step_sil (sil_index rfl rfl rfl rfl (by omega) (gt_idx (by omega) (by first | omega | (have := of_decide_eq_true h1; rw [List.length_map] at this; omega))) rfl ?_)
 refine zo rfl (zo rfl (zo rfl (zw (zR (zo rfl (zw (zq (zR (zo rfl ?_)))))))))
 refine zA rfl (by first | (constructor <;> omega) | (have hq := pls_gt h hd0 hd1 hf (k := (i : Int) + 1) (by omega) (by have := of_decide_eq_true h1; rw [List.length_map] at this; omega); constructor <;> omega)) (zo rfl (zo rfl (zo rfl (zw (zC rfl (fun h1 => ?_) (fun h1 => ?_))))))
 refine zr (zo rfl (zo rfl (zA rfl (by first | (constructor <;> omega) | (have hq := pls_gt h hd0 hd1 hf (k := (i : Int) + 1) (by omega) (by have := of_decide_eq_true h1; rw [List.length_map] at this; omega); constructor <;> omega)) (step_sil (sil_index rfl rfl rfl rfl (by omega) (gt_idx (by omega) (by first | omega | (have := of_decide_eq_true h1; rw [List.length_map] at this; omega))) rfl ?_)))))
 refine zo rfl (zS rfl (by first | (constructor <;> omega) | (have hq := pls_gt h hd0 hd1 hf (k := (i : Int) + 1) (by omega) (by have := of_decide_eq_true h1; rw [List.length_map] at this; omega); constructor <;> omega)) (zo rfl (zw (zR (zo rfl (zo rfl (zc rfl (ok43 (ofF x d) _ hof) (zo rfl (zo rfl ?_)))))))))
 refine zo rfl (zo rfl (zo rfl (zw (zq (zR (zo rfl (zo rfl (zw (zn rfl (by first | rfl | exact hbi i hi) ?_)))))))))
 refine zk (zR (zo rfl (zo rfl (zo rfl (step_sil (sil_index rfl rfl rfl rfl (by omega) (gt_idx (by omega) (by first | omega | (have := of_decide_eq_true h1; rw [List.length_map] at this; omega))) rfl ?_))))))
 refine zo rfl (zo rfl (zo rfl (zc rfl (ok43 (gt x.dems d).steps _ hds) (zo rfl (zo rfl (zo rfl (zo rfl (zo rfl (zw (zq (zR (zo rfl ?_))))))))))))
 refine zo rfl (zw (zn rfl (by first | rfl | exact hbi i hi) (zk ?_)))
 first | have hr := prt_t h1 | have hr := prt_f h1
 refine zr (zo rfl (zo rfl (zo rfl (zo rfl (zo rfl (zo rfl (zo rfl (zo rfl ?_))))))))
 first | (refine step_app1 rfl (by first | exact .inl rfl | (right; simp)) rfl rfl rfl rfl rfl rfl (by first | (simp [frN]; omega) | (simp; omega)) rfl ?_) | (refine step_op rfl rfl rfl ?_)
 exact zo rfl (wn (nb (nq (zr (zA rfl (by first | (constructor <;> omega) | (have hq := pls_gt h hd0 hd1 hf (k := (i : Int) + 1) (by omega) (by have := of_decide_eq_true h1; rw [List.length_map] at this; omega); constructor <;> omega)) (zo rfl (wn (ns trivial (zV ⟨rfl, rfl, rfl, rfl, slD_eq rfl (prt_row hr), rfl, rfl, rfl, trivial⟩ ⟨so rfl, soA rfl (prt_row hr), trivial⟩)))))))))
 refine zk (zR (zo rfl (zo rfl (zc rfl (ok43 (ofF x d) _ hof) (zo rfl (zo rfl (zo rfl (zo rfl (zo rfl ?_)))))))))
 refine zw (zq (zR (zo rfl (zo rfl (zw (zn rfl (by first | rfl | exact hbi i hi) (zk (zR (zo rfl ?_)))))))))
 refine zo rfl (zo rfl (step_sil (sil_index rfl rfl rfl rfl (by omega) (gt_idx (by omega) (by first | omega | (have := of_decide_eq_true h1; rw [List.length_map] at this; omega))) rfl ?_)))
 refine zo rfl (zo rfl (zo rfl (zc rfl (ok43 (gt x.dems d).steps _ hds) (zo rfl (zo rfl (zo rfl (zo rfl (zo rfl (zw (zq (zR (zo rfl ?_))))))))))))
 refine zo rfl (zw (zn rfl (by first | rfl | exact hbi i hi) (zk ?_)))
 first | have hr := prt_t h1 | have hr := prt_f h1
 refine zr (zo rfl (zo rfl (zo rfl (zo rfl (zo rfl (zo rfl (zo rfl (zo rfl ?_))))))))
 first | (refine step_app1 rfl (by first | exact .inl rfl | (right; simp)) rfl rfl rfl rfl rfl rfl (by first | (simp [frN]; omega) | (simp; omega)) rfl ?_) | (refine step_op rfl rfl rfl ?_)
 exact zo rfl (wn (nb (nq (zr (zA rfl (by first | (constructor <;> omega) | (have hq := pls_gt h hd0 hd1 hf (k := (i : Int) + 1) (by omega) (by have := of_decide_eq_true h1; rw [List.length_map] at this; omega); constructor <;> omega)) (zo rfl (wn (ns trivial (zV ⟨rfl, rfl, rfl, rfl, slD_eq rfl (prt_row hr), rfl, rfl, rfl, trivial⟩ ⟨so rfl, soA rfl (prt_row hr), trivial⟩)))))))))
 refine zR (zo rfl (zw (zq (zn rfl (by simp) (Sat.exit (xq (xe (nq (Sat.pubS 12 rfl rfl ?_)))))))))
 exact zR (zo rfl (zo rfl (zo rfl (zw (Sat.ret (ze rfl (by simp only [prts, List.map_map]; rfl)))))))
end Go.Proofs.YtamjajacnfmgeaaGreat
namespace Go.Proofs.YtamjajacnfmgeaaGreat
open Go Go.RowKit
set_option maxHeartbeats 1000000
structure Spn where
  lo : Int
  hi : Int
  deriving Inhabited
def Spn.c (s : Spn) : List V := [vi s.lo, vi s.hi]
def lst (l : List Spn) : Spn := gt l ((l.length : Int) - 1)
def spN (l : List Prt) : Nat → List Spn
  | 0 => []
  | n + 1 => if (gt l n).wants ≤ (gt l n).there then spN l n
    else if 0 < (spN l n).length ∧ (lst (spN l n)).hi + 1 = (gt l n).lo then (spN l n).set ((spN l n).length - 1) ⟨(lst (spN l n)).lo, (gt l n).hi⟩
    else spN l n ++ [⟨(gt l n).lo, (gt l n).hi⟩]
def spans (x : Det) (d : Int) : List Spn := spN (prts x d) (prts x d).length
theorem spN_len (l : List Prt) : ∀ n, (spN l n).length ≤ n
  | 0 => Nat.le_refl _
  | n + 1 => by
    have := spN_len l n
    simp only [spN]
    split
    · omega
    · split
      · rw [List.length_set]; omega
      · simp; omega
theorem lst_mem {l : List Spn} (h : 0 < l.length) : lst l ∈ l := gt_mem (by omega) (by omega)
theorem spN_in {l : List Prt} (hl : ∀ p ∈ l, -1048576 ≤ p.hi ∧ p.hi ≤ 1048576) : ∀ n, n ≤ l.length → ∀ s ∈ spN l n, -1048576 ≤ s.hi ∧ s.hi ≤ 1048576
  | 0, _, s, hs => by simp [spN] at hs
  | n + 1, hn, s, hs => by
    have ih := spN_in hl n (by omega)
    have hp := hl (gt l n) (gt_mem (by omega) (by omega))
    simp only [spN] at hs
    split at hs
    · exact ih s hs
    · split at hs
      · rcases List.mem_or_eq_of_mem_set hs with hs | rfl
        · exact ih s hs
        · exact hp
      · rcases List.mem_append.1 hs with hs | hs
        · exact ih s hs
        · simp at hs; subst hs; exact hp
theorem prts_len (x : Det) (d : Int) : (prts x d).length = (pls x d).length := by simp [prts]
theorem prts_in {x : Det} (h : detOk x = true) {d : Int} (h0 : 0 ≤ d) (h1 : d < x.dems.length) (hl : (raw x d).length ≤ 200) : ∀ p ∈ prts x d, -1048576 ≤ p.hi ∧ p.hi ≤ 1048576 := by
 intro p hp
 obtain ⟨k, hk, rfl⟩ := List.mem_map.1 hp
 rw [List.mem_range] at hk
 show -1048576 ≤ pEnd x d k ∧ pEnd x d k ≤ 1048576
 unfold pEnd
 split
 · rename_i hk2
   have := pls_gt h h0 h1 hl (k := (k : Int) + 1) (by omega) (by omega)
   have h3 := (pls_in h h0 h1 hl).2
   have a := pls_gt h h0 h1 hl (k := (k : Int)) (by omega) (by omega)
   have h4 : gt (pls x d) k < gt (pls x d) ((k : Int) + 1) := gt_pair (cpt_pairwise (srt_pairwise _)) (i := k) (j := k + 1) (by omega) (show k + 1 < (pls x d).length by omega)
   omega
 · omega
theorem sp_skip {l : List Prt} {n : Nat} (h : decide ((gt l n).wants ≤ (gt l n).there) = true) : (spN l n).map Spn.c = (spN l (n + 1)).map Spn.c := by
 rw [spN, if_pos (of_decide_eq_true h)]
theorem sp_add2 {l : List Prt} {n : Nat} (h : decide ((gt l n).wants ≤ (gt l n).there) = false) (h2 : decide ((0 : Int) < ((spN l n).map Spn.c).length) = false) : (spN l n).map Spn.c ++ [[vi (gt l n).lo, vi (gt l n).hi]] = (spN l (n + 1)).map Spn.c := by
 have h2 := of_decide_eq_false h2
 rw [List.length_map] at h2
 rw [spN, if_neg (of_decide_eq_false h), if_neg (by omega), List.map_append]; rfl
theorem sp_add1 {l : List Prt} {n : Nat} (h : decide ((gt l n).wants ≤ (gt l n).there) = false) (h3 : decide ((lst (spN l n)).hi + 1 = (gt l n).lo) = false) : (spN l n).map Spn.c ++ [[vi (gt l n).lo, vi (gt l n).hi]] = (spN l (n + 1)).map Spn.c := by
 have h3 := of_decide_eq_false h3
 rw [spN, if_neg (of_decide_eq_false h), if_neg (fun h => h3 h.2), List.map_append]; rfl
theorem sp_join {l : List Prt} {n : Nat} (h : decide ((gt l n).wants ≤ (gt l n).there) = false) (h2 : decide ((0 : Int) < ((spN l n).map Spn.c).length) = true) (h3 : decide ((lst (spN l n)).hi + 1 = (gt l n).lo) = true) : ((spN l n).map Spn.c).set ((spN l n).length - 1) [vi (lst (spN l n)).lo, vi (gt l n).hi] = (spN l (n + 1)).map Spn.c := by
 have h2 := of_decide_eq_true h2
 rw [List.length_map] at h2
 rw [spN, if_neg (of_decide_eq_false h), if_pos ⟨by omega, of_decide_eq_true h3⟩, List.map_set]; rfl
theorem lst_ho {l : List Spn} {o : Nat} (c : Nat) (h : o = ((((l.map Spn.c).length : Nat) : Int) - 1).toNat * 2 + c) : o = (l.length - 1) * 2 + c := by
 rw [h, List.length_map]; congr 2; omega
theorem lst_at {l : List Spn} (h : 0 < l.length) : (l.map Spn.c)[l.length - 1]? = some (lst l).c := by
 have e := gt_idx (f := Spn.c) (l := l) (k := (l.length : Int) - 1) (by omega) (by omega)
 have e2 : ((l.length : Int) - 1).toNat = l.length - 1 := by omega
 rw [e2] at e; exact e
theorem ok23f (x : Det) (h : detOk x = true) (d : Int) (h0 : 0 ≤ d) (h1 : d < x.dems.length) (hf : 200 < (raw x d).length) : Ok Tryz.prog 23 [.ag x.c, vi d] (.tp [.sl [], vi 4]) := by
 refine zz 66 Tryz.func23 rfl Tryz.call23 rfl (zR (zo rfl (zo rfl (zo rfl (zw (zR (zo rfl (zo rfl (zc rfl (ok50f x h d h0 h1 hf) ?_)))))))))
 refine zo rfl (zo rfl (zo rfl (zo rfl (zo rfl (zw (zq (zR (zo rfl (zo rfl ?_)))))))))
 exact zw (zy rfl (rfl) (zR (zo rfl (zo rfl (zo rfl (zw (Sat.ret (rq (ze rfl rfl)))))))))
theorem ok23 (x : Det) (h : detOk x = true) (d : Int) (hd0 : 0 ≤ d) (hd1 : d < x.dems.length) (hf : (raw x d).length ≤ 200) : Ok Tryz.prog 23 [.ag x.c, vi d] (.tp [.sl ((spans x d).map Spn.c), vi 0]) := by
 have hpl := (pls_in h hd0 hd1 hf).1
 have hln := prts_len x d
 have hin := prts_in h hd0 hd1 hf
 have hal : (prts x d).length ≤ 400 := by omega
 refine zz 66 Tryz.func23 rfl Tryz.call23 rfl (zR (zo rfl (zo rfl (zo rfl (zw (zR (zo rfl (zo rfl (zc rfl (ok50 x h d hd0 hd1 hf) ?_)))))))))
 refine zo rfl (zo rfl (zo rfl (zo rfl (zo rfl (zw (zq (zR (zo rfl (zo rfl ?_)))))))))
 refine zw (zn rfl (rfl) (zk (zR (zo rfl (zw (zq (zR (zo rfl (zo rfl ?_)))))))))
 refine zo rfl (zw (Sat.loop' (fun _ => True) (fun i => ⟨66, lk [(8, slD 33 2 ((spN (prts x d) i).map Spn.c)), (21, .v (.sl ((prts x d).map Prt.c))), (22, .v (vi ((prts x d).map Prt.c).length)), (23, .v (vi i))], lkO [(33, slS 2 ((spN (prts x d) i).map Spn.c))]⟩) ((prts x d).length) ?_ (trivial) (fun i hi hI => ?_) (fun hI => ?_)))
 exact zV ⟨rfl, rfl, rfl, rfl, trivial⟩ ⟨soS rfl, trivial⟩
 refine zR (zo rfl (zw (zq (zy rfl (by simp [hi]) (zk (zq (zb rfl (zR (zi rfl rfl rfl rfl rfl ?_)))))))))
 refine zo rfl (zo rfl (zd rfl rfl (zw (zR (zo rfl (step_sil (sil_lenS rfl rfl rfl rfl (fun _ => rfl) ?_)))))))
 refine zo rfl (zw (zb rfl (zR (zo rfl (zo rfl (zo rfl (zo rfl (zo rfl (zo rfl ?_)))))))))
 refine zw (zC rfl (fun h1 => ?_) (fun h1 => ?_))
 refine Sat.skip (nb (nb (nq ?_)))
 first | have hr := sp_skip h1 | have hr := sp_join h1 h2 h3 | have hr := sp_add1 h1 h3 | have hr := sp_add2 h1 h2
 exact zr (zA rfl (by first | (constructor <;> omega) | (have := spN_len (prts x d) i; simp only [List.length_map]; constructor <;> omega) | (have hq := spN_in hin i (by omega) _ (lst_mem (by have := of_decide_eq_true h2; rw [List.length_map] at this; omega)); constructor <;> omega)) (zo rfl (wn (ns trivial (zV ⟨by first | exact slD_eq rfl hr | exact d_eq rfl (slD_congr (by rw [← hr]; simp)), rfl, rfl, rfl, trivial⟩ ⟨by first | exact soA rfl hr | exact soS (congrArg (slS 2) hr), trivial⟩)))))
 refine zq (Sat.dr tabOk mixed (by kernel_rfl) (zO (fun _ => rfl) (zO (fun _ => rfl) (zO (fun _ => rfl) (sil_splitT rfl rfl (fun h2 => ?_) (fun h2 => ?_))))))
 refine zO (fun _ => rfl) (sil_on rfl h2 (zO (fun _ => rfl) ?_))
 refine sil_on rfl h2 (sil_sub rfl rfl rfl (by first | (constructor <;> omega) | (have := spN_len (prts x d) i; simp only [List.length_map]; constructor <;> omega) | (have hq := spN_in hin i (by omega) _ (lst_mem (by have := of_decide_eq_true h2; rw [List.length_map] at this; omega)); constructor <;> omega)) ?_)
 refine sil_on rfl h2 (sil_ixS rfl rfl rfl rfl (fun _ => rfl) (by have := of_decide_eq_true h2; omega) (by have := of_decide_eq_true h2; omega) ?_)
 refine sil_on rfl h2 (zO (fun _ => rfl) ?_)
 refine sil_on rfl h2 (sil_ldS rfl rfl rfl (fun _ => rfl) rfl (lst_ho 1 rfl) rfl (lst_at (by have := of_decide_eq_true h2; rw [List.length_map] at this; omega)) rfl ?_)
 refine sil_on rfl h2 (sil_add rfl rfl rfl (by first | (constructor <;> omega) | (have := spN_len (prts x d) i; simp only [List.length_map]; constructor <;> omega) | (have hq := spN_in hin i (by omega) _ (lst_mem (by have := of_decide_eq_true h2; rw [List.length_map] at this; omega)); constructor <;> omega)) ?_)
 refine sil_on rfl h2 (zO (fun _ => rfl) ?_)
 refine sil_on rfl h2 (zO (fun _ => rfl) ?_)
 refine sil_on rfl h2 (zO (fun _ => rfl) ?_)
 refine sil_on rfl h2 (zO (fun _ => rfl) ?_)
 refine sil_pick (want := true) rfl rfl h2 rfl (zO (fun _ => rfl) (sn (nq (zC rfl (fun h3 => ?_) (fun h3 => ?_)))))
 refine zr (zo rfl (zo rfl (zS rfl (by first | (constructor <;> omega) | (have := spN_len (prts x d) i; simp only [List.length_map]; constructor <;> omega) | (have hq := spN_in hin i (by omega) _ (lst_mem (by have := of_decide_eq_true h2; rw [List.length_map] at this; omega)); constructor <;> omega)) (zo rfl (zo rfl (zo rfl (step_sil (sil_ixS rfl rfl rfl rfl (fun _ => rfl) (by have := of_decide_eq_true h2; omega) (by have := of_decide_eq_true h2; omega) ?_))))))))
 refine zo rfl (step_stS rfl rfl rfl rfl rfl (lst_ho 1 rfl) rfl (lst_at (by have := of_decide_eq_true h2; rw [List.length_map] at this; omega)) rfl (wn (nb (nb (nq ?_)))))
 first | have hr := sp_skip h1 | have hr := sp_join h1 h2 h3 | have hr := sp_add1 h1 h3 | have hr := sp_add2 h1 h2
 exact zr (zA rfl (by first | (constructor <;> omega) | (have := spN_len (prts x d) i; simp only [List.length_map]; constructor <;> omega) | (have hq := spN_in hin i (by omega) _ (lst_mem (by have := of_decide_eq_true h2; rw [List.length_map] at this; omega)); constructor <;> omega)) (zo rfl (wn (ns trivial (zV ⟨by first | exact slD_eq rfl hr | exact d_eq rfl (slD_congr (by rw [← hr]; simp)), rfl, rfl, rfl, trivial⟩ ⟨by first | exact soA rfl hr | exact soS (congrArg (slS 2) hr), trivial⟩)))))
 refine zr (zo rfl (zo rfl (zo rfl (zo rfl ?_))))
 first | (refine step_app1 rfl (by first | exact .inl rfl | (right; simp)) rfl rfl rfl rfl rfl rfl (by have := spN_len (prts x d) i; simp; omega) rfl ?_) | (refine step_op rfl rfl rfl ?_)
 refine zo rfl (wn (nb (nb (nq ?_))))
 first | have hr := sp_skip h1 | have hr := sp_join h1 h2 h3 | have hr := sp_add1 h1 h3 | have hr := sp_add2 h1 h2
 exact zr (zA rfl (by first | (constructor <;> omega) | (have := spN_len (prts x d) i; simp only [List.length_map]; constructor <;> omega) | (have hq := spN_in hin i (by omega) _ (lst_mem (by have := of_decide_eq_true h2; rw [List.length_map] at this; omega)); constructor <;> omega)) (zo rfl (wn (ns trivial (zV ⟨by first | exact slD_eq rfl hr | exact d_eq rfl (slD_congr (by rw [← hr]; simp)), rfl, rfl, rfl, trivial⟩ ⟨by first | exact soA rfl hr | exact soS (congrArg (slS 2) hr), trivial⟩)))))
 refine sil_offT rfl rfl h2 (sil_offT rfl rfl h2 (sil_offT rfl rfl h2 (sil_offT rfl rfl h2 (sil_offT rfl rfl h2 (sil_offT rfl rfl h2 (sil_offT rfl rfl h2 (sil_offT rfl rfl h2 (sil_offT rfl rfl h2 (sil_offT rfl rfl h2 ?_)))))))))
 refine sil_pick (want := false) rfl rfl h2 rfl (zO (fun _ => rfl) (sn (nq (zn rfl rfl (zr (zo rfl (zo rfl (zo rfl (zo rfl ?_)))))))))
 first | (refine step_app1 rfl (by first | exact .inl rfl | (right; simp)) rfl rfl rfl rfl rfl rfl (by have := spN_len (prts x d) i; simp; omega) rfl ?_) | (refine step_op rfl rfl rfl ?_)
 refine zo rfl (wn (nb (nb (nq ?_))))
 first | have hr := sp_skip h1 | have hr := sp_join h1 h2 h3 | have hr := sp_add1 h1 h3 | have hr := sp_add2 h1 h2
 exact zr (zA rfl (by first | (constructor <;> omega) | (have := spN_len (prts x d) i; simp only [List.length_map]; constructor <;> omega) | (have hq := spN_in hin i (by omega) _ (lst_mem (by have := of_decide_eq_true h2; rw [List.length_map] at this; omega)); constructor <;> omega)) (zo rfl (wn (ns trivial (zV ⟨by first | exact slD_eq rfl hr | exact d_eq rfl (slD_congr (by rw [← hr]; simp)), rfl, rfl, rfl, trivial⟩ ⟨by first | exact soA rfl hr | exact soS (congrArg (slS 2) hr), trivial⟩)))))
 refine zR (zo rfl (zw (zq (zn rfl (by simp) (Sat.exit (xq (xe (nq (Sat.pubS 8 rfl rfl ?_)))))))))
 exact zR (zo rfl (zo rfl (zo rfl (zw (Sat.ret (ze rfl rfl))))))
theorem ok22f (x : Det) (h : detOk x = true) (d : Int) (h0 : 0 ≤ d) (h1 : d < x.dems.length) (hf : 200 < (raw x d).length) : Ok Tryz.prog 22 [.ag x.c, vi d] (.tp [vi 0, vi 4]) := by
 refine zz 26 Tryz.func22 rfl Tryz.call22 rfl (zR (zo rfl (zo rfl (zo rfl (zw (zR (zo rfl (zo rfl (zc rfl (ok23f x h d h0 h1 hf) ?_)))))))))
 refine zo rfl (zo rfl (zo rfl (zo rfl (zo rfl (zw (zq (zb rfl (zR (zo rfl ?_)))))))))
 refine zo rfl (zo rfl (zw (zy rfl (rfl) (zR (zo rfl (zo rfl (zo rfl (zw (Sat.ret ?_)))))))))
 exact rb (rq (ze rfl rfl))
theorem ok22n (x : Det) (h : detOk x = true) (d : Int) (h0 : 0 ≤ d) (h1 : d < x.dems.length) (hf : (raw x d).length ≤ 200) (he : spans x d = []) : Ok Tryz.prog 22 [.ag x.c, vi d] (.tp [vi 0, vi 12]) := by
 have k23 := ok23 x h d h0 h1 hf
 rw [he] at k23
 refine zz 26 Tryz.func22 rfl Tryz.call22 rfl (zR (zo rfl (zo rfl (zo rfl (zw (zR (zo rfl (zo rfl (zc rfl k23 ?_)))))))))
 refine zo rfl (zo rfl (zo rfl (zo rfl (zo rfl (zw (zq (zb rfl (zR (zo rfl ?_)))))))))
 refine zo rfl (zo rfl (zw (zn rfl (rfl) (zR (zo rfl (zo rfl (zo rfl (zo rfl (zw (zy rfl (rfl) ?_))))))))))
 exact zR (zo rfl (zo rfl (zw (Sat.ret (rb (rq (ze rfl rfl)))))))
theorem ok22 (x : Det) (h : detOk x = true) (d : Int) (h0 : 0 ≤ d) (h1 : d < x.dems.length) (hf : (raw x d).length ≤ 200) (s : Spn) (r : List Spn) (he : spans x d = s :: r) : Ok Tryz.prog 22 [.ag x.c, vi d] (.tp [vi s.lo, vi 0]) := by
 have k23 := ok23 x h d h0 h1 hf
 rw [he] at k23
 have hne : 0 < (s :: r).length := by simp
 refine zz 26 Tryz.func22 rfl Tryz.call22 rfl (zR (zo rfl (zo rfl (zo rfl (zw (zR (zo rfl (zo rfl (zc rfl k23 ?_)))))))))
 refine zo rfl (zo rfl (zo rfl (zo rfl (zo rfl (zw (zq (zb rfl (zR (zo rfl ?_)))))))))
 refine zo rfl (zo rfl (zw (zn rfl (by first | rfl | (simp; done) | (simp; omega)) (zR (zo rfl (zo rfl (zo rfl (zo rfl (zw (zn rfl (by first | rfl | (simp; done) | (simp; omega)) ?_))))))))))
 refine Sat.skip (nb (nq (zR (zo rfl (step_sil (sil_index rfl rfl rfl rfl (by omega) (gt_idx (l := s :: r) (k := 0) (by omega) (by omega)) rfl ?_))))))
 exact zo rfl (zo rfl (zo rfl (zo rfl (zw (Sat.ret (ze rfl rfl))))))
def failN (x : Det) (n : Nat) : List Dem := (x.dems.take n).zipIdx.filterMap fun (y : Dem × Nat) => if spans x y.2 = [] then none else some y.1
def fRow (d : Dem) : List V := [vi 1, .str d.name]
theorem failN_succ {x : Det} {n : Nat} (h : n < x.dems.length) : failN x (n + 1) = failN x n ++ if spans x n = [] then [] else [gt x.dems n] := by
 unfold failN
 rw [take_snoc h, List.zipIdx_append, List.filterMap_append, List.length_take, Nat.min_eq_left (by omega)]
 congr 1
 simp only [List.zipIdx_cons, List.zipIdx_nil, Nat.zero_add]
 split <;> rename_i he
 · simp [he]
 · simp [he]
theorem fail_t {x : Det} {n : Nat} (hn : n < x.dems.length) (h : decide ((0 : Int) < ((spans x n).map Spn.c).length) = true) : (failN x n).map fRow ++ [[vi 1, .str (gt x.dems n).name]] = (failN x (n + 1)).map fRow := by
 have h := of_decide_eq_true h
 rw [List.length_map] at h
 rw [failN_succ hn, if_neg (by intro e; rw [e] at h; simp at h), List.map_append]; rfl
theorem fail_f {x : Det} {n : Nat} (hn : n < x.dems.length) (h : decide ((0 : Int) < ((spans x n).map Spn.c).length) = false) : (failN x n).map fRow = (failN x (n + 1)).map fRow := by
 have h := of_decide_eq_false h
 rw [List.length_map] at h
 rw [failN_succ hn, if_pos (by rcases hs : spans x n with _ | ⟨a, b⟩; rfl; rw [hs] at h; simp at h), List.append_nil]
theorem failN_len (x : Det) (n : Nat) : (failN x n).length ≤ n := by
 refine Nat.le_trans (List.length_filterMap_le _ _) ?_
 rw [List.length_zipIdx, List.length_take]; omega
theorem ok27 (x : Det) (h : detOk x = true) (hf : ∀ d : Nat, d < x.dems.length → (raw x d).length ≤ 200) : Ok Tryz.prog 27 [.ag x.c] (.tp [.sl ((failN x x.dems.length).map fRow), vi 0]) := by
 have hdl := (demsOk_parts (detP h).dems).1
 refine zz 40 Tryz.func27 rfl Tryz.call27 rfl (zR (zo rfl (zo rfl (zo rfl (zw (zq (zR (zo rfl (zc rfl (ok46 x h) ?_)))))))))
 refine zo rfl (zw (zn rfl (rfl) (zk (zR (zo rfl (zw (zq (zR (zo rfl ?_)))))))))
 refine zo rfl (zo rfl (zo rfl (zw (Sat.loop' (fun _ => True) (fun i => ⟨40, lk [(1, .ptr 1 0), (4, slD 37 2 ((failN x i).map fRow)), (13, .v (.sl (x.dems.map Dem.c))), (14, .v (vi (x.dems.map Dem.c).length)), (15, .v (vi i))], lkO [(1, some ⟨.cells (x.c.map .v), false⟩), (37, slS 2 ((failN x i).map fRow))]⟩) (x.dems.length) ?_ (trivial) (fun i hi hI => ?_) (fun hI => ?_)))))
 exact zV ⟨rfl, rfl, rfl, rfl, rfl, trivial⟩ ⟨so rfl, soS rfl, trivial⟩
 refine zR (zo rfl (zw (zq (zy rfl (by simp [hi]) (zk (zq (zb rfl (zR (zo rfl ?_)))))))))
 refine zi rfl rfl rfl rfl rfl (zo rfl (zo rfl (zo rfl (zd rfl rfl (zw (zR (zo rfl (zo rfl (zc rfl (ok23 x h i (by omega) (by omega) (hf i hi)) ?_)))))))))
 refine zo rfl (zo rfl (zo rfl (zo rfl (zo rfl (zw (zq (zR (zo rfl (zo rfl ?_)))))))))
 refine zw (zn rfl (rfl) (zk (zR (zo rfl (zo rfl (zo rfl (zw (zC rfl (fun h1 => ?_) (fun h1 => ?_)))))))))
 refine zr (zo rfl (zo rfl (zo rfl (zo rfl (zo rfl ?_)))))
 first | (refine step_app1 rfl (by first | exact .inl rfl | (right; simp)) rfl rfl rfl rfl rfl rfl (by have := failN_len x i; simp; omega) rfl ?_) | (refine step_op rfl rfl rfl ?_)
 refine zo rfl (wn (nb (nq ?_)))
 first | have hr := fail_t hi h1 | have hr := fail_f hi h1
 exact zr (za rfl (zo rfl (wn (ns trivial (zV ⟨rfl, slD_eq rfl hr, rfl, rfl, rfl, trivial⟩ ⟨so rfl, by first | exact soA rfl hr | exact soS (congrArg (slS 2) hr), trivial⟩)))))
 refine Sat.skip (nb (nq ?_))
 first | have hr := fail_t hi h1 | have hr := fail_f hi h1
 exact zr (za rfl (zo rfl (wn (ns trivial (zV ⟨rfl, slD_eq rfl hr, rfl, rfl, rfl, trivial⟩ ⟨so rfl, by first | exact soA rfl hr | exact soS (congrArg (slS 2) hr), trivial⟩)))))
 refine zR (zo rfl (zw (zq (zn rfl (by simp) (Sat.exit (xq (xe (nq (Sat.pubS 4 rfl rfl ?_)))))))))
 exact zR (zo rfl (zo rfl (zo rfl (zw (Sat.ret (ze rfl rfl))))))
theorem ok8 (x : Det) (h : detOk x = true) (hf : ∀ d : Nat, d < x.dems.length → (raw x d).length ≤ 200) : Ok Tryz.prog 8 [.ag x.c] (.tp [.bool (decide (failN x x.dems.length = [])), vi 0]) := by
 refine zz 19 Tryz.func8 rfl Tryz.call8 rfl (zR (zo rfl (zo rfl (zo rfl (zw (zR (zo rfl (zc rfl (ok27 x h hf) (zo rfl ?_)))))))))
 refine zo rfl (zo rfl (zo rfl (zo rfl (zw (zR (zo rfl (zo rfl (zo rfl (zT rfl (fun h1 => ?_) (fun h1 => ?_))))))))))
 exact zO (fun _ => rfl) (zh rfl h1 rfl (zh rfl h1 rfl (zp rfl h1 rfl (zo rfl (zo rfl (zo rfl (zw (Sat.ret (ze rfl (by first | exact absurd h1 (by decide) | (cases h1; done) | by_cases hn : failN x x.dems.length = [] <;> simp [hn]))))))))))
 exact zt rfl h1 (zt rfl h1 (zP rfl h1 rfl (zo rfl (zo rfl (zo rfl (zw (Sat.ret (ze rfl (by first | exact absurd h1 (by decide) | (cases h1; done) | by_cases hn : failN x x.dems.length = [] <;> simp [hn])))))))))
end Go.Proofs.YtamjajacnfmgeaaGreat
