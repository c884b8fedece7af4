/-
  Contracts: supply.Of, supply.All. Condition: valid in the reference.
  Contracts: slices.Grow of nil, slices.Concat of two lists of steps. No condition but on lengths.
-/
import Derived.Test.YtamjajacnfmgeaaGreatK36
set_option linter.all false
namespace Go.Proofs.YtamjajacnfmgeaaGreat
open Go Go.RowKit
set_option maxHeartbeats 1000000
def two (c : Chn) : List Int := [c.lo, c.hi]
def plN (x : Det) (d : Int) (n : Nat) : List Int := ((supF x d).take n).flatMap two
def cps (x : Det) (d : Int) : List Int := cpt (srt ((supF x d).flatMap two))
def lastN (x : Det) (d : Int) : Nat → Int
  | 0 => 0
  | n + 1 => valF (supF x d) (gt (cps x d) n)
def rawN (x : Det) (d : Int) : Nat → List Stp
  | 0 => []
  | n + 1 => if (valF (supF x d) (gt (cps x d) n) != lastN x d n) = true then rawN x d n ++ [⟨gt (cps x d) n, valF (supF x d) (gt (cps x d) n)⟩] else rawN x d n
def raw (x : Det) (d : Int) : List Stp := rawN x d (cps x d).length
def ofF (x : Det) (d : Int) : List Stp := shortN (raw x d) (raw x d).length
theorem rawN_t {x : Det} {d : Int} {n : Nat} (h : (valF (supF x d) (gt (cps x d) n) != lastN x d n) = true) : (rawN x d n).map Stp.c ++ [[vi (gt (cps x d) n), vi (valF (supF x d) (gt (cps x d) n))]] = (rawN x d (n + 1)).map Stp.c := by
 simp only [rawN]
 rw [if_pos h]
 simp [Stp.c]
theorem rawN_f {x : Det} {d : Int} {n : Nat} (h : (valF (supF x d) (gt (cps x d) n) != lastN x d n) = false) : rawN x d n = rawN x d (n + 1) ∧ lastN x d n = lastN x d (n + 1) := by
 simp only [rawN]
 rw [if_neg (by simp [h])]
 exact ⟨rfl, (by simpa using h : valF (supF x d) (gt (cps x d) n) = lastN x d n).symm⟩
theorem rawN_len (x : Det) (d : Int) : ∀ n, (rawN x d n).length ≤ n
  | 0 => Nat.le_refl _
  | n + 1 => by have := rawN_len x d n; simp only [rawN]; split <;> simp <;> omega
theorem plN_len (x : Det) (d : Int) (n : Nat) : (plN x d n).length ≤ 2 * n := by
 have : ∀ l : List Chn, (l.flatMap two).length = 2 * l.length := by
   intro l
   induction l with
   | nil => rfl
   | cons c l ih => rw [List.flatMap_cons, List.length_append, ih, List.length_cons]; simp [two]; omega
 unfold plN
 rw [this]
 simp; omega
theorem plN_succ {x : Det} {d : Int} {n : Nat} (h : n < (supF x d).length) : (plN x d n).map ic ++ [[vi (gt (supF x d) n).lo], [vi (gt (supF x d) n).hi]] = (plN x d (n + 1)).map ic := by
 unfold plN
 rw [take_snoc h, List.flatMap_append, List.map_append]
 congr 1
theorem plN_all (x : Det) (d : Int) : plN x d (supF x d).length = (supF x d).flatMap two := by rw [plN, List.take_length]
theorem cps_mem {x : Det} {d a : Int} : a ∈ cps x d ↔ ∃ c ∈ supF x d, a = c.lo ∨ a = c.hi := by
 unfold cps
 rw [cpt_mem, srt_mem, List.mem_flatMap]
 simp [two]
theorem cps_lt (x : Det) (d : Int) : (cps x d).Pairwise (· < ·) := cpt_pairwise (srt_pairwise _)
theorem chn_in {x : Det} (h : detOk x = true) {d : Int} {c : Chn} (hc : c ∈ supF x d) : -1048576 ≤ c.lo ∧ c.lo < c.hi ∧ c.hi ≤ 1048576 := by
 have hP := supP h hc
 have hch := chainP h hP.ch
 have hf : inTot x (chFirst c.bars) := hch.at (by omega) (by have := hch.pos; omega)
 have hl : inTot x (chLast c.bars) := hch.at (by have := hch.pos; omega) (by omega)
 have h1 := main_in (detP h).runs hf
 have h2 := main_in (detP h).runs hl
 have hD := detP h
 have n1 := lenF_in (rulP hD.rule) (size_in (barOk_size (barO_ok hD.runs hf))) (poorF x.mem (mainOf (legO x (chFirst c.bars)))) (bentLo (legO x (chFirst c.bars)))
 have n2 := lenF_in (rulP hD.rule) (size_in (barOk_size (barO_ok hD.runs hl))) (poorF x.mem (mainOf (legO x (chLast c.bars)))) (bentHi (legO x (chLast c.bars)))
 have his := hP.is
 have e1 : c.lo = chLo x c.bars := by rw [hP.eq]; simp [chnOf, his]
 have e2 : c.hi = chHi x c.bars := by rw [hP.eq]; simp [chnOf, his]
 simp only [chIs, Bool.and_eq_true, decide_eq_true_eq] at his
 have h3 := his.2
 rw [e1, e2]
 refine ⟨?_, h3, ?_⟩
 · unfold chLo endLo; omega
 · unfold chHi endHi; omega
theorem val_in {x : Det} (h : detOk x = true) (d p : Int) : 0 ≤ valF (supF x d) p ∧ valF (supF x d) p ≤ 400000000 := by
 have hl := supF_len x h d
 have ha := sup_area h (l := supF x d) fun c hc => hc
 have := sumI_le (n := (supF x d).length) (f := valI (supF x d) p) (B := 200000) fun j hj => by
   have := ha j hj
   unfold valI; split <;> omega
 unfold valF
 omega
theorem rawN_fr {x : Det} {d : Int} : ∀ {n : Nat} {s : Stp}, s ∈ rawN x d n → ∃ k : Nat, k < n ∧ s = ⟨gt (cps x d) k, valF (supF x d) (gt (cps x d) k)⟩
  | n + 1, s, hs => by
    simp only [rawN] at hs
    split at hs
    · rcases List.mem_append.1 hs with hs | hs
      · obtain ⟨k, h1, h2⟩ := rawN_fr hs; exact ⟨k, by omega, h2⟩
      · simp at hs; exact ⟨n, by omega, hs⟩
    · obtain ⟨k, h1, h2⟩ := rawN_fr hs; exact ⟨k, by omega, h2⟩
theorem rawN_pair {x : Det} {d : Int} : ∀ {n : Nat}, n ≤ (cps x d).length → (rawN x d n).Pairwise fun a b => a.fr < b.fr
  | 0, _ => List.Pairwise.nil
  | n + 1, hn => by
    simp only [rawN]
    split
    · rw [List.pairwise_append]
      refine ⟨rawN_pair (by omega), List.pairwise_singleton _ _, fun a ha b hb => ?_⟩
      obtain ⟨k, h1, rfl⟩ := rawN_fr ha
      simp at hb; subst hb
      exact gt_pair (cps_lt x d) h1 (by omega)
    · exact rawN_pair (by omega)
theorem stepsOk_of {l : List Stp} (hl : l.length ≤ 200) (hp : l.Pairwise fun a b => a.fr < b.fr) (h : ∀ s ∈ l, (-1048576 ≤ s.fr ∧ s.fr ≤ 1048576) ∧ 0 ≤ s.va ∧ s.va ≤ 1099511627776) : stepsOk l = true := by
 simp only [stepsOk, Bool.and_eq_true, Bool.not_eq_true', decide_eq_false_iff_not]
 refine ⟨by omega, allN_iff.2 fun i hi => ?_⟩
 obtain ⟨h1, h2, h3⟩ := h _ (gt_mem (l := l) (k := (i : Int)) (by omega) (by omega))
 simp only [stepOk, Bool.and_eq_true, isLen_iff, decide_eq_true_eq, Bool.not_eq_true', Bool.and_eq_false_iff, decide_eq_false_iff_not]
 refine ⟨⟨h1, h2, h3⟩, ?_⟩
 rcases Nat.eq_zero_or_pos i with h0 | h0
 · subst h0; exact .inl (by omega)
 · refine .inr ?_
   have e : ((i : Int) - 1) = ((i - 1 : Nat) : Int) := by omega
   rw [e, gt_get hi, gt_get (by omega)]
   have := List.pairwise_iff_getElem.1 hp (i - 1) i (by omega) hi (by omega)
   omega
theorem raw_ok {x : Det} (h : detOk x = true) {d : Int} (hl : (raw x d).length ≤ 200) : stepsOk (raw x d) = true := by
 refine stepsOk_of hl (rawN_pair (Nat.le_refl _)) fun s hs => ?_
 obtain ⟨k, h1, rfl⟩ := rawN_fr hs
 have hv := val_in h d (gt (cps x d) k)
 have hm : gt (cps x d) (k : Int) ∈ cps x d := gt_mem (by omega) (by omega)
 obtain ⟨c, hc, he⟩ := cps_mem.1 hm
 have := chn_in h hc
 refine ⟨?_, by simp only; omega⟩
 simp only
 omega
theorem cps_len (x : Det) (d : Int) : (cps x d).length ≤ 2 * (supF x d).length := by
 have h1 := cpt_le (srt ((supF x d).flatMap two))
 rw [srt_len] at h1
 have h2 := plN_len x d (supF x d).length
 rw [plN_all] at h2
 unfold cps; omega
theorem ok55 (x : Det) (h : detOk x = true) (d : Int) (h0 : 0 ≤ d) (h1 : d < x.dems.length) (hf : (raw x d).length ≤ 200) : Ok Tryz.prog 55 [.ag x.c, vi d] (.tp [.sl ((ofF x d).map Stp.c), vi 0]) := by
 have hl := supF_len x h d
 have hpl := plN_len x d (supF x d).length
 rw [plN_all] at hpl
 have hcl := cps_len x d
 refine zz 73 Tryz.func55 rfl Tryz.call55 rfl (zR (zo rfl (zo rfl (zo rfl (zw (zR (zo rfl (zo rfl (zc rfl ((ok64 x h d h0 h1).ok) ?_)))))))))
 refine zo rfl (zo rfl (zo rfl (zo rfl (zo rfl (zo rfl (zo rfl (zw (zq (zR (zo rfl ?_))))))))))
 refine zo rfl (zw (zn rfl (by first | rfl | (simp; done) | (simp; unfold raw at hf; omega)) (zk (zR (zo rfl (zw (zq (zR (zo rfl ?_)))))))))
 refine zo rfl (zo rfl (zw (Sat.loop' (fun _ => True) (fun i => ⟨73, lk [(7, .v (.sl ((supF x d).map Chn.c))), (9, slD 41 1 ((plN x d i).map ic)), (27, .v (.sl ((supF x d).map Chn.c))), (28, .v (vi ((supF x d).map Chn.c).length)), (29, .v (vi i))], lkO [(41, slS 1 ((plN x d i).map ic))]⟩) ((supF x d).length) ?_ (trivial) (fun i hi hI => ?_) (fun hI => ?_))))
 exact weakO ⟨rfl, rfl, rfl, rfl, rfl, trivial⟩ ⟨soS rfl, trivial⟩ (by repeat' (first | exact trivial | exact rfl | exact slD_ment rfl | exact moS | exact mo rfl | refine ⟨?_, ?_⟩)) (by repeat' (first | exact trivial | exact rfl | exact slD_ment rfl | exact moS | exact mo rfl | refine ⟨?_, ?_⟩))
 refine zR (zo rfl (zw (zq (zy rfl (by simp [hi]) (zk (zq (zb rfl (zR (zi rfl rfl rfl rfl rfl ?_)))))))))
 refine zo rfl (zo rfl (zd rfl rfl (zw (zr (zo rfl (zo rfl (zo rfl (zo rfl (zo rfl ?_)))))))))
 refine zo rfl (zo rfl (zo rfl (step_app (new := [[vi (gt (supF x d) (i : Int)).lo], [vi (gt (supF x d) (i : Int)).hi]]) rfl (.inl rfl) rfl rfl rfl rfl rfl (by simp) rfl (by have := plN_len x d i; simp; omega) rfl (zo rfl (wn (nb (nq (zr (za rfl ?_)))))))))
 exact zo rfl (wn (ns trivial (weakO ⟨rfl, slD_eq rfl (plN_succ hi), rfl, rfl, rfl, trivial⟩ ⟨soA rfl (plN_succ hi), trivial⟩ (by repeat' (first | exact trivial | exact rfl | exact slD_ment rfl | exact moS | exact mo rfl | refine ⟨?_, ?_⟩)) (by repeat' (first | exact trivial | exact rfl | exact slD_ment rfl | exact moS | exact mo rfl | refine ⟨?_, ?_⟩)))))
 refine zR (zo rfl (zw (zq (zn rfl (by simp) (Sat.exit (xq (xe (nq ?_))))))))
 rw [plN_all]
 refine zq (Sat.xto tabOk (⟨73, lk [(7, .v (.sl ((supF x d).map Chn.c))), (9, slD 41 1 ((srt ((supF x d).flatMap two)).map ic))], lkO [(41, slS 1 ((srt ((supF x d).flatMap two)).map ic))]⟩) ?_ ?_)
 refine wx (step_sil (zO (fun _ => rfl) ?_))
 exact x_call rfl rfl (sort_do 41 ((supF x d).flatMap two) (by omega) rfl) (wnX (weakO ⟨rfl, d_eq rfl (slD_congr (by simp [srt_len])), trivial⟩ ⟨soS rfl, trivial⟩ (by repeat' (first | exact trivial | exact rfl | exact slD_ment rfl | exact moS | exact mo rfl | refine ⟨?_, ?_⟩)) (by repeat' (first | exact trivial | exact rfl | exact slD_ment rfl | exact moS | exact mo rfl | refine ⟨?_, ?_⟩))))
 refine nq (zR (zo rfl (zw (zR (zo rfl (zw (zq (zq (Sat.rx tabOk ?_)))))))))
 refine wx (step_sil (zO (fun _ => rfl) ?_))
 refine x_takeS (x := .sl ((cps x d).map ic)) (rg := [(7, .v (.sl ((supF x d).map Chn.c))), (12, .nil), (13, .v (vi 0))]) (s1 := lkO []) rfl rfl (fun he => by have e : srt ((supF x d).flatMap two) = [] := List.map_eq_nil_iff.1 he; unfold cps; rw [e]; exact ok106_nil) (fun _ => compactC (srt ((supF x d).flatMap two)) (by rw [srt_len]; omega)) rfl rfl (frz_nil _) (weakO ⟨rfl, rfl, rfl, trivial⟩ trivial (by repeat' (first | exact trivial | exact rfl | exact slD_ment rfl | exact moS | exact mo rfl | refine ⟨?_, ?_⟩)) (by repeat' (first | exact trivial | exact rfl | exact slD_ment rfl | exact moS | exact mo rfl | refine ⟨?_, ?_⟩))) rfl ?_
 refine wx (step_sil (zO (fun _ => rfl) ?_))
 refine wx (step_sil (zO (fun _ => rfl) ?_))
 refine wnX (nq (Sat.loop' (fun _ => True) (fun i => ⟨73, lk [(7, .v (.sl ((supF x d).map Chn.c))), (12, slD 63 2 ((rawN x d i).map Stp.c)), (13, .v (vi (lastN x d i))), (46, .v (.sl ((cps x d).map ic))), (47, .v (vi ((cps x d).map ic).length)), (48, .v (vi i))], lkO [(63, slS 2 ((rawN x d i).map Stp.c))]⟩) ((cps x d).length) ?_ (trivial) (fun i hi hI => ?_) (fun hI => ?_)))
 exact weakO ⟨rfl, rfl, rfl, rfl, rfl, rfl, trivial⟩ ⟨soS rfl, trivial⟩ (by repeat' (first | exact trivial | exact rfl | exact slD_ment rfl | exact moS | exact mo rfl | refine ⟨?_, ?_⟩)) (by repeat' (first | exact trivial | exact rfl | exact slD_ment rfl | exact moS | exact mo rfl | refine ⟨?_, ?_⟩))
 refine zR (zo rfl (zw (zq (zy rfl (by simp [hi]) (zk (zq (zb rfl (zR (zi rfl rfl rfl rfl rfl ?_)))))))))
 refine zo rfl (zo rfl (zw (zR (zo rfl (zo rfl (zc rfl (ok29 (supF x d) _ (by omega) (sup_area h fun c hc => hc)) (zo rfl (zw (zR (zo rfl ?_))))))))))
 refine zo rfl (zo rfl (zw (zC rfl (fun h1 => ?_) (fun h1 => ?_))))
 refine zR (zo rfl (zo rfl (zo rfl (zo rfl (zo rfl ?_)))))
 first | (refine step_app1 rfl (by first | exact .inl rfl | (right; simp)) rfl rfl rfl rfl rfl rfl (by have := rawN_len x d i; simp; omega) rfl ?_) | (refine step_op rfl rfl rfl ?_)
 refine zo rfl (zw (zr (zo rfl (zo rfl (wn (nb (nq ?_)))))))
 first | have hr := rawN_t h1 | have hr := rawN_f h1
 exact zr (za rfl (zo rfl (wn (ns trivial (weakO ⟨rfl, slD_eq rfl (by first | exact hr | exact congrArg (List.map Stp.c) hr.1), by first | exact int_eq rfl hr.2 | rfl, rfl, rfl, rfl, trivial⟩ ⟨by first | exact soA rfl hr | exact soS (congrArg (fun y : List Stp => slS 2 (y.map Stp.c)) hr.1), trivial⟩ (by repeat' (first | exact trivial | exact rfl | exact slD_ment rfl | exact moS | exact mo rfl | refine ⟨?_, ?_⟩)) (by repeat' (first | exact trivial | exact rfl | exact slD_ment rfl | exact moS | exact mo rfl | refine ⟨?_, ?_⟩)))))))
 refine Sat.skip (nb (nq ?_))
 first | have hr := rawN_t h1 | have hr := rawN_f h1
 exact zr (za rfl (zo rfl (wn (ns trivial (weakO ⟨rfl, slD_eq rfl (by first | exact hr | exact congrArg (List.map Stp.c) hr.1), by first | exact int_eq rfl hr.2 | rfl, rfl, rfl, rfl, trivial⟩ ⟨by first | exact soA rfl hr | exact soS (congrArg (fun y : List Stp => slS 2 (y.map Stp.c)) hr.1), trivial⟩ (by repeat' (first | exact trivial | exact rfl | exact slD_ment rfl | exact moS | exact mo rfl | refine ⟨?_, ?_⟩)) (by repeat' (first | exact trivial | exact rfl | exact slD_ment rfl | exact moS | exact mo rfl | refine ⟨?_, ?_⟩)))))))
 refine zR (zo rfl (zw (zq (zn rfl (by simp) (Sat.exit (xq (xe (nq (zq (zR (zo rfl ?_)))))))))))
 refine step_sil (sil_lenS rfl rfl rfl rfl (fun _ => rfl) ?_)
 refine zo rfl (zw (zn rfl (by first | rfl | (simp; done) | (simp; unfold raw at hf; omega)) (zk (zq (Sat.pubS 12 rfl rfl (zr (zo rfl (zc rfl (ok109 (raw x d) (raw_ok h hf)) (zo rfl ?_)))))))))
 exact zo rfl (zo rfl (zo rfl (zw (Sat.ret (ze rfl rfl)))))
theorem ok55f (x : Det) (h : detOk x = true) (d : Int) (h0 : 0 ≤ d) (h1 : d < x.dems.length) (hf : 200 < (raw x d).length) : Ok Tryz.prog 55 [.ag x.c, vi d] (.tp [.sl [], vi 4]) := by
 have hl := supF_len x h d
 have hpl := plN_len x d (supF x d).length
 rw [plN_all] at hpl
 have hcl := cps_len x d
 refine zz 73 Tryz.func55 rfl Tryz.call55 rfl (zR (zo rfl (zo rfl (zo rfl (zw (zR (zo rfl (zo rfl (zc rfl ((ok64 x h d h0 h1).ok) ?_)))))))))
 refine zo rfl (zo rfl (zo rfl (zo rfl (zo rfl (zo rfl (zo rfl (zw (zq (zR (zo rfl ?_))))))))))
 refine zo rfl (zw (zn rfl (by first | rfl | (simp; done) | (simp; unfold raw at hf; omega)) (zk (zR (zo rfl (zw (zq (zR (zo rfl ?_)))))))))
 refine zo rfl (zo rfl (zw (Sat.loop' (fun _ => True) (fun i => ⟨73, lk [(7, .v (.sl ((supF x d).map Chn.c))), (9, slD 41 1 ((plN x d i).map ic)), (27, .v (.sl ((supF x d).map Chn.c))), (28, .v (vi ((supF x d).map Chn.c).length)), (29, .v (vi i))], lkO [(41, slS 1 ((plN x d i).map ic))]⟩) ((supF x d).length) ?_ (trivial) (fun i hi hI => ?_) (fun hI => ?_))))
 exact weakO ⟨rfl, rfl, rfl, rfl, rfl, trivial⟩ ⟨soS rfl, trivial⟩ (by repeat' (first | exact trivial | exact rfl | exact slD_ment rfl | exact moS | exact mo rfl | refine ⟨?_, ?_⟩)) (by repeat' (first | exact trivial | exact rfl | exact slD_ment rfl | exact moS | exact mo rfl | refine ⟨?_, ?_⟩))
 refine zR (zo rfl (zw (zq (zy rfl (by simp [hi]) (zk (zq (zb rfl (zR (zi rfl rfl rfl rfl rfl ?_)))))))))
 refine zo rfl (zo rfl (zd rfl rfl (zw (zr (zo rfl (zo rfl (zo rfl (zo rfl (zo rfl ?_)))))))))
 refine zo rfl (zo rfl (zo rfl (step_app (new := [[vi (gt (supF x d) (i : Int)).lo], [vi (gt (supF x d) (i : Int)).hi]]) rfl (.inl rfl) rfl rfl rfl rfl rfl (by simp) rfl (by have := plN_len x d i; simp; omega) rfl (zo rfl (wn (nb (nq (zr (za rfl ?_)))))))))
 exact zo rfl (wn (ns trivial (weakO ⟨rfl, slD_eq rfl (plN_succ hi), rfl, rfl, rfl, trivial⟩ ⟨soA rfl (plN_succ hi), trivial⟩ (by repeat' (first | exact trivial | exact rfl | exact slD_ment rfl | exact moS | exact mo rfl | refine ⟨?_, ?_⟩)) (by repeat' (first | exact trivial | exact rfl | exact slD_ment rfl | exact moS | exact mo rfl | refine ⟨?_, ?_⟩)))))
 refine zR (zo rfl (zw (zq (zn rfl (by simp) (Sat.exit (xq (xe (nq ?_))))))))
 rw [plN_all]
 refine zq (Sat.xto tabOk (⟨73, lk [(7, .v (.sl ((supF x d).map Chn.c))), (9, slD 41 1 ((srt ((supF x d).flatMap two)).map ic))], lkO [(41, slS 1 ((srt ((supF x d).flatMap two)).map ic))]⟩) ?_ ?_)
 refine wx (step_sil (zO (fun _ => rfl) ?_))
 exact x_call rfl rfl (sort_do 41 ((supF x d).flatMap two) (by omega) rfl) (wnX (weakO ⟨rfl, d_eq rfl (slD_congr (by simp [srt_len])), trivial⟩ ⟨soS rfl, trivial⟩ (by repeat' (first | exact trivial | exact rfl | exact slD_ment rfl | exact moS | exact mo rfl | refine ⟨?_, ?_⟩)) (by repeat' (first | exact trivial | exact rfl | exact slD_ment rfl | exact moS | exact mo rfl | refine ⟨?_, ?_⟩))))
 refine nq (zR (zo rfl (zw (zR (zo rfl (zw (zq (zq (Sat.rx tabOk ?_)))))))))
 refine wx (step_sil (zO (fun _ => rfl) ?_))
 refine x_takeS (x := .sl ((cps x d).map ic)) (rg := [(7, .v (.sl ((supF x d).map Chn.c))), (12, .nil), (13, .v (vi 0))]) (s1 := lkO []) rfl rfl (fun he => by have e : srt ((supF x d).flatMap two) = [] := List.map_eq_nil_iff.1 he; unfold cps; rw [e]; exact ok106_nil) (fun _ => compactC (srt ((supF x d).flatMap two)) (by rw [srt_len]; omega)) rfl rfl (frz_nil _) (weakO ⟨rfl, rfl, rfl, trivial⟩ trivial (by repeat' (first | exact trivial | exact rfl | exact slD_ment rfl | exact moS | exact mo rfl | refine ⟨?_, ?_⟩)) (by repeat' (first | exact trivial | exact rfl | exact slD_ment rfl | exact moS | exact mo rfl | refine ⟨?_, ?_⟩))) rfl ?_
 refine wx (step_sil (zO (fun _ => rfl) ?_))
 refine wx (step_sil (zO (fun _ => rfl) ?_))
 refine wnX (nq (Sat.loop' (fun _ => True) (fun i => ⟨73, lk [(7, .v (.sl ((supF x d).map Chn.c))), (12, slD 63 2 ((rawN x d i).map Stp.c)), (13, .v (vi (lastN x d i))), (46, .v (.sl ((cps x d).map ic))), (47, .v (vi ((cps x d).map ic).length)), (48, .v (vi i))], lkO [(63, slS 2 ((rawN x d i).map Stp.c))]⟩) ((cps x d).length) ?_ (trivial) (fun i hi hI => ?_) (fun hI => ?_)))
 exact weakO ⟨rfl, rfl, rfl, rfl, rfl, rfl, trivial⟩ ⟨soS rfl, trivial⟩ (by repeat' (first | exact trivial | exact rfl | exact slD_ment rfl | exact moS | exact mo rfl | refine ⟨?_, ?_⟩)) (by repeat' (first | exact trivial | exact rfl | exact slD_ment rfl | exact moS | exact mo rfl | refine ⟨?_, ?_⟩))
 refine zR (zo rfl (zw (zq (zy rfl (by simp [hi]) (zk (zq (zb rfl (zR (zi rfl rfl rfl rfl rfl ?_)))))))))
 refine zo rfl (zo rfl (zw (zR (zo rfl (zo rfl (zc rfl (ok29 (supF x d) _ (by omega) (sup_area h fun c hc => hc)) (zo rfl (zw (zR (zo rfl ?_))))))))))
 refine zo rfl (zo rfl (zw (zC rfl (fun h1 => ?_) (fun h1 => ?_))))
 refine zR (zo rfl (zo rfl (zo rfl (zo rfl (zo rfl ?_)))))
 first | (refine step_app1 rfl (by first | exact .inl rfl | (right; simp)) rfl rfl rfl rfl rfl rfl (by have := rawN_len x d i; simp; omega) rfl ?_) | (refine step_op rfl rfl rfl ?_)
 refine zo rfl (zw (zr (zo rfl (zo rfl (wn (nb (nq ?_)))))))
 first | have hr := rawN_t h1 | have hr := rawN_f h1
 exact zr (za rfl (zo rfl (wn (ns trivial (weakO ⟨rfl, slD_eq rfl (by first | exact hr | exact congrArg (List.map Stp.c) hr.1), by first | exact int_eq rfl hr.2 | rfl, rfl, rfl, rfl, trivial⟩ ⟨by first | exact soA rfl hr | exact soS (congrArg (fun y : List Stp => slS 2 (y.map Stp.c)) hr.1), trivial⟩ (by repeat' (first | exact trivial | exact rfl | exact slD_ment rfl | exact moS | exact mo rfl | refine ⟨?_, ?_⟩)) (by repeat' (first | exact trivial | exact rfl | exact slD_ment rfl | exact moS | exact mo rfl | refine ⟨?_, ?_⟩)))))))
 refine Sat.skip (nb (nq ?_))
 first | have hr := rawN_t h1 | have hr := rawN_f h1
 exact zr (za rfl (zo rfl (wn (ns trivial (weakO ⟨rfl, slD_eq rfl (by first | exact hr | exact congrArg (List.map Stp.c) hr.1), by first | exact int_eq rfl hr.2 | rfl, rfl, rfl, rfl, trivial⟩ ⟨by first | exact soA rfl hr | exact soS (congrArg (fun y : List Stp => slS 2 (y.map Stp.c)) hr.1), trivial⟩ (by repeat' (first | exact trivial | exact rfl | exact slD_ment rfl | exact moS | exact mo rfl | refine ⟨?_, ?_⟩)) (by repeat' (first | exact trivial | exact rfl | exact slD_ment rfl | exact moS | exact mo rfl | refine ⟨?_, ?_⟩)))))))
 refine zR (zo rfl (zw (zq (zn rfl (by simp) (Sat.exit (xq (xe (nq (zq (zR (zo rfl ?_)))))))))))
 refine step_sil (sil_lenS rfl rfl rfl rfl (fun _ => rfl) ?_)
 exact zo rfl (zw (zy rfl (by first | rfl | (simp; done) | (simp; unfold raw at hf; omega)) (zR (zo rfl (zo rfl (zw (Sat.ret (rq (ze rfl rfl)))))))))
end Go.Proofs.YtamjajacnfmgeaaGreat
namespace Go.Proofs.YtamjajacnfmgeaaGreat
open Go Go.RowKit
set_option maxHeartbeats 1000000
theorem gr165 (m : Nat) (hm : 0 < m) (hm2 : m ≤ 1048576) : OkN Tryz.prog 165 2 (m : Int) := by
 refine okN_of_sat (q := 22) (k := 2) (tot := m) (rows := List.replicate m [vi 0, vi 0]) tabOk Tryz.func165 rfl Tryz.call165 (by decide) ⟨_, rfl⟩ (zR (zo rfl (zw (zq (zR (zo rfl (zo rfl (zw (zn rfl (by first | exact decide_eq_false (by omega) | exact decide_eq_true (by omega)) ?_)))))))))
 refine zk (zq (zq (Sat.rx tabOk (wx (step_sil (zO (fun _ => rfl) ?_))))))
 refine wx (step_sil (zO (fun _ => rfl) ?_))
 refine x_capN rfl rfl tabOk rfl (wx (step_sil (zO (fun _ => rfl) ?_)))
 refine wx (step_sil (zO (fun _ => rfl) ?_))
 refine wx (step_sil (sil_sub rfl rfl rfl (by first | (constructor <;> omega) | (simp only [decide_eq_true_eq, decide_eq_false_iff_not, Bool.not_eq_true', Bool.not_eq_false', beq_eq_false_iff_ne, beq_iff_eq, ne_eq] at *; constructor <;> omega)) ?_))
 refine wx (step_sil (sil_sub rfl rfl rfl (by first | (constructor <;> omega) | (simp only [decide_eq_true_eq, decide_eq_false_iff_not, Bool.not_eq_true', Bool.not_eq_false', beq_eq_false_iff_ne, beq_iff_eq, ne_eq] at *; constructor <;> omega)) ?_))
 refine wx (step_sil (zO (fun _ => rfl) ?_))
 refine wnX (nq (zR (zo rfl (zo rfl (zw (zy rfl (by first | exact decide_eq_false (by omega) | exact decide_eq_true (by omega)) (Sat.rx tabOk (wx (step_sil (zO (fun _ => rfl) ?_))))))))))
 refine wx (step_sil (zO (fun _ => rfl) ?_))
 refine x_capN rfl rfl tabOk rfl (x_cutN rfl rfl tabOk rfl rfl (wx (step_sil (zO (fun _ => rfl) ?_))))
 refine x_zeros (zs := [vi 0, vi 0]) rfl rfl rfl rfl tabOk rfl rfl hm hm2 rfl rfl rfl (wx (step_sil (zO (fun _ => rfl) ?_)))
 refine wx (step_sil (zO (fun _ => rfl) ?_))
 refine x_cut (l := 0) (h := 0) rfl rfl tabOk rfl rfl (by simp) rfl rfl (by omega) (by omega) (by omega) (wx (step_sil (zO (fun _ => rfl) ?_)))
 exact wnX (nq (zR (zo rfl (zo rfl (zw (Sat.ret (id (by exact ⟨trivial, rfl, rfl, by simp⟩))))))))
theorem gr165n : OkN0 Tryz.prog 165 0 := by
 refine okN0_of_sat tabOk Tryz.func165 rfl Tryz.call165 (by decide) (zR (zo rfl (zw (zq (zR (zo rfl (zo rfl (zw (zn rfl (rfl) ?_)))))))))
 refine zk (zq (zq (Sat.rx tabOk (wx (step_sil (zO (fun _ => rfl) ?_))))))
 refine wx (step_sil (zO (fun _ => rfl) ?_))
 refine x_capN rfl rfl tabOk rfl (wx (step_sil (zO (fun _ => rfl) ?_)))
 refine wx (step_sil (zO (fun _ => rfl) ?_))
 refine wx (step_sil (sil_sub rfl rfl rfl (by first | (constructor <;> omega) | (simp only [decide_eq_true_eq, decide_eq_false_iff_not, Bool.not_eq_true', Bool.not_eq_false', beq_eq_false_iff_ne, beq_iff_eq, ne_eq] at *; constructor <;> omega)) ?_))
 refine wx (step_sil (sil_sub rfl rfl rfl (by first | (constructor <;> omega) | (simp only [decide_eq_true_eq, decide_eq_false_iff_not, Bool.not_eq_true', Bool.not_eq_false', beq_eq_false_iff_ne, beq_iff_eq, ne_eq] at *; constructor <;> omega)) ?_))
 refine wx (step_sil (zO (fun _ => rfl) ?_))
 refine wnX (nq (zR (zo rfl (zo rfl (zw (zn rfl (rfl) (zk (zR (zo rfl ?_)))))))))
 exact zo rfl (zw (Sat.ret (id (by exact ⟨trivial, rfl⟩))))
def catN (a b : List Stp) (i : Nat) : List Stp := if i = 0 then [] else if i = 1 then a else a ++ b
def cumN (a b : List Stp) (i : Nat) : Nat := if i = 0 then 0 else if i = 1 then a.length else a.length + b.length
theorem rows2 (l : List Stp) : (l.map Stp.c).all (fun r => r.length == 2 && r.all V.one) = true := by
 rw [List.all_eq_true]; intro r hr
 obtain ⟨s, _, rfl⟩ := List.mem_map.1 hr
 rfl
theorem osl_eq {f : Nat → Option D} {t m k : Nat} {x y : List (List V)} (h : f t = some (.osl m k x.length 0 x.length)) (e : x = y) : f t = some (.osl m k y.length 0 y.length) := e ▸ h
theorem ok104z : Ok Tryz.prog 104 [.sl [[.sl []], [.sl []]]] (.sl []) := by
 refine zz 36 Tryz.func104 rfl Tryz.call104 rfl (zR (zo rfl (zw (zR (zo rfl (zw (zq (zR (zo rfl ?_)))))))))
 refine zo rfl (zo rfl (zw (Sat.loop' (fun _ => True) (fun i => ⟨36, lk [(0, .v (.sl [[.sl []], [.sl []]])), (3, .v (vi 0)), (9, .v (.sl [[.sl []], [.sl []]])), (10, .v (vi 2)), (11, .v (vi i))], lk []⟩) (2) ?_ (trivial) (fun i hi hI => ?_) (fun hI => ?_))))
 exact zv rfl rfl rfl rfl
 have hcs : i = 0 ∨ i = 1 := by omega
 rcases hcs with rfl | rfl
 refine zR (zo rfl (zw (zq (zy rfl (by rfl) (zk (zq (zb rfl (zR (step_sil (sil_index rfl rfl rfl rfl (by omega) rfl rfl ?_))))))))))
 refine zo rfl (zo rfl (zw (zR (zo rfl (zo rfl (zo rfl (zA rfl (by first | (constructor <;> omega) | (constructor <;> simp)) (zo rfl (zw (zR (zo rfl ?_)))))))))))
 exact zo rfl (zw (zn rfl (rfl) (Sat.skip (nb (nq (zr (zA rfl (by first | (constructor <;> omega) | (constructor <;> simp)) (zo rfl (wn (ns trivial (zv rfl rfl rfl rfl)))))))))))
 refine zR (zo rfl (zw (zq (zy rfl (by rfl) (zk (zq (zb rfl (zR (step_sil (sil_index rfl rfl rfl rfl (by omega) rfl rfl ?_))))))))))
 refine zo rfl (zo rfl (zw (zR (zo rfl (zo rfl (zo rfl (zA rfl (by first | (constructor <;> omega) | (constructor <;> simp)) (zo rfl (zw (zR (zo rfl ?_)))))))))))
 exact zo rfl (zw (zn rfl (rfl) (Sat.skip (nb (nq (zr (zA rfl (by first | (constructor <;> omega) | (constructor <;> simp)) (zo rfl (wn (ns trivial (zv rfl rfl rfl rfl)))))))))))
 refine zR (zo rfl (zw (zq (zn rfl (by rfl) (Sat.exit (xq (xe (nq (zq (Sat.rx tabOk ?_))))))))))
 refine wx (step_sil (zO (fun _ => rfl) ?_))
 refine x_call rfl rfl (call_nil gr165n) (wx (step_sil (zO (fun _ => rfl) ?_)))
 refine wnX (nq (zq (zR (zo rfl (zo rfl (zo rfl (zw (Sat.loop' (fun _ => True) (fun i => ⟨36, lk [(6, .nil), (25, .v (.sl [[.sl []], [.sl []]])), (26, .v (vi 2)), (27, .v (vi i))], lk []⟩) (2) ?_ (trivial) (fun i hi hI => ?_) (fun hI => ?_)))))))))
 exact zv rfl rfl rfl rfl
 have hcs : i = 0 ∨ i = 1 := by omega
 rcases hcs with rfl | rfl
 refine zR (zo rfl (zw (zq (zy rfl (by rfl) (zk (zq (zb rfl (zR (step_sil (sil_index rfl rfl rfl rfl (by omega) rfl rfl ?_))))))))))
 refine zo rfl (zo rfl (zw (zr (zo rfl (zo rfl (zo rfl (zo rfl (wn (nb ?_)))))))))
 exact nq (zr (zA rfl (by first | (constructor <;> omega) | (constructor <;> simp)) (zo rfl (wn (ns trivial (zv rfl rfl rfl rfl))))))
 refine zR (zo rfl (zw (zq (zy rfl (by rfl) (zk (zq (zb rfl (zR (step_sil (sil_index rfl rfl rfl rfl (by omega) rfl rfl ?_))))))))))
 refine zo rfl (zo rfl (zw (zr (zo rfl (zo rfl (zo rfl (zo rfl (wn (nb ?_)))))))))
 exact nq (zr (zA rfl (by first | (constructor <;> omega) | (constructor <;> simp)) (zo rfl (wn (ns trivial (zv rfl rfl rfl rfl))))))
 refine zR (zo rfl (zw (zq (zn rfl (by rfl) (Sat.exit (xq (xe (nq (zR (zo rfl ?_))))))))))
 exact zo rfl (zw (Sat.ret (ze rfl rfl)))
theorem ok104 (a b : List Stp) (ha : a.length ≤ 1000) (hb : b.length ≤ 1000) : Ok Tryz.prog 104 [.sl [[.sl (a.map Stp.c)], [.sl (b.map Stp.c)]]] (.sl ((a ++ b).map Stp.c)) := by
 by_cases hz : a = [] ∧ b = []
 obtain ⟨rfl, rfl⟩ := hz; exact ok104z
 have hc : 0 < cumN a b 2 := by
   show 0 < a.length + b.length
   cases a <;> cases b <;> simp_all <;> omega
 have hc2 : cumN a b 2 ≤ 1048576 := by show a.length + b.length ≤ 1048576; omega
 refine zz 36 Tryz.func104 rfl Tryz.call104 rfl (zR (zo rfl (zw (zR (zo rfl (zw (zq (zR (zo rfl ?_)))))))))
 refine zo rfl (zo rfl (zw (Sat.loop' (fun _ => True) (fun i => ⟨36, lk [(0, .v (.sl [[.sl (a.map Stp.c)], [.sl (b.map Stp.c)]])), (3, .v (vi ((cumN a b i : Nat) : Int))), (9, .v (.sl [[.sl (a.map Stp.c)], [.sl (b.map Stp.c)]])), (10, .v (vi 2)), (11, .v (vi i))], lk []⟩) (2) ?_ (trivial) (fun i hi hI => ?_) (fun hI => ?_))))
 exact zv rfl rfl rfl rfl
 have hcs : i = 0 ∨ i = 1 := by omega
 rcases hcs with rfl | rfl
 refine zR (zo rfl (zw (zq (zy rfl (by rfl) (zk (zq (zb rfl (zR (step_sil (sil_index rfl rfl rfl rfl (by omega) rfl rfl ?_))))))))))
 refine zo rfl (zo rfl (zw (zR (zo rfl (zo rfl (zo rfl (zA rfl (by first | (constructor <;> omega) | (simp only [List.length_map, cumN]; constructor <;> simp <;> omega)) (zo rfl (zw (zR (zo rfl ?_)))))))))))
 exact zo rfl (zw (zn rfl (by simp; omega) (Sat.skip (nb (nq (zr (zA rfl (by first | (constructor <;> omega) | (simp only [List.length_map, cumN]; constructor <;> simp <;> omega)) (zo rfl (wn (ns trivial (weak_of ⟨rfl, int_eq rfl (by simp [cumN]), rfl, rfl, rfl, trivial⟩ trivial rfl rfl)))))))))))
 refine zR (zo rfl (zw (zq (zy rfl (by rfl) (zk (zq (zb rfl (zR (step_sil (sil_index rfl rfl rfl rfl (by omega) rfl rfl ?_))))))))))
 refine zo rfl (zo rfl (zw (zR (zo rfl (zo rfl (zo rfl (zA rfl (by first | (constructor <;> omega) | (simp only [List.length_map, cumN]; constructor <;> simp <;> omega)) (zo rfl (zw (zR (zo rfl ?_)))))))))))
 exact zo rfl (zw (zn rfl (by simp; omega) (Sat.skip (nb (nq (zr (zA rfl (by first | (constructor <;> omega) | (simp only [List.length_map, cumN]; constructor <;> simp <;> omega)) (zo rfl (wn (ns trivial (weak_of ⟨rfl, int_eq rfl (by simp [cumN]), rfl, rfl, rfl, trivial⟩ trivial rfl rfl)))))))))))
 refine zR (zo rfl (zw (zq (zn rfl (by rfl) (Sat.exit (xq (xe (nq (zq (Sat.rx tabOk ?_))))))))))
 refine wx (step_sil (zO (fun _ => rfl) ?_))
 refine x_call rfl rfl (call_empty 24 (gr165 (cumN a b 2) hc hc2) rfl) (wx (step_sil (zO (fun _ => rfl) ?_)))
 refine wnX (nq (zq (zR (zo rfl (zo rfl (zo rfl (zw (Sat.loop' (fun _ => True) (fun i => ⟨36, lk [(6, .osl 24 2 ((catN a b i).map Stp.c).length 0 ((catN a b i).map Stp.c).length), (25, .v (.sl [[.sl (a.map Stp.c)], [.sl (b.map Stp.c)]])), (26, .v (vi 2)), (27, .v (vi i))], lkO [(24, some ⟨.sl 2 ((catN a b i).map Stp.c), false⟩)]⟩) (2) ?_ (trivial) (fun i hi hI => ?_) (fun hI => ?_)))))))))
 exact zV ⟨rfl, rfl, rfl, rfl, trivial⟩ ⟨so rfl, trivial⟩
 have hcs : i = 0 ∨ i = 1 := by omega
 rcases hcs with rfl | rfl
 refine zR (zo rfl (zw (zq (zy rfl (by rfl) (zk (zq (zb rfl (zR (step_sil (sil_index rfl rfl rfl rfl (by omega) rfl rfl ?_))))))))))
 refine zo rfl (zo rfl (zw (zr (zo rfl (zo rfl (step_appO rfl rfl rfl rfl rfl rfl rfl (rows2 _) (by simp [catN]; omega) rfl (zo rfl (wn (nb ?_)))))))))
 exact nq (zr (zA rfl (by first | (constructor <;> omega) | (simp only [List.length_map, cumN]; constructor <;> simp <;> omega)) (zo rfl (wn (ns trivial (zV ⟨osl_eq rfl (by simp [catN]), rfl, rfl, rfl, trivial⟩ ⟨so (ent_eq rfl (by simp [catN])), trivial⟩))))))
 refine zR (zo rfl (zw (zq (zy rfl (by rfl) (zk (zq (zb rfl (zR (step_sil (sil_index rfl rfl rfl rfl (by omega) rfl rfl ?_))))))))))
 refine zo rfl (zo rfl (zw (zr (zo rfl (zo rfl (step_appO rfl rfl rfl rfl rfl rfl rfl (rows2 _) (by simp [catN]; omega) rfl (zo rfl (wn (nb ?_)))))))))
 exact nq (zr (zA rfl (by first | (constructor <;> omega) | (simp only [List.length_map, cumN]; constructor <;> simp <;> omega)) (zo rfl (wn (ns trivial (zV ⟨osl_eq rfl (by simp [catN]), rfl, rfl, rfl, trivial⟩ ⟨so (ent_eq rfl (by simp [catN])), trivial⟩))))))
 refine zR (zo rfl (zw (zq (zn rfl (by rfl) (Sat.exit (xq (xe (nq (Sat.pub (t := 6) rfl (pub_oslF rfl rfl) ?_)))))))))
 exact zR (zo rfl (zo rfl (zw (Sat.ret (ze rfl rfl)))))
end Go.Proofs.YtamjajacnfmgeaaGreat
