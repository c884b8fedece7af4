/-
  The law about steel: what stirruptop's question says. Condition: valid in the reference, at most 1000 laid bars.
  The law itself. Condition: none; that the law is awake is asked as a premise here.
  The detail at which the law is awake. No condition.
  The beam's sections and supply. No condition.
-/
import Derived.Test.YtamjajacnfmgeaaGreatK42
set_option linter.all false
namespace Go.Proofs.YtamjajacnfmgeaaGreat
open Go Go.RowKit
set_option maxHeartbeats 1000000
def bB (x : Det) (n : Nat) : Bool := allN n fun j => decide (spans x (j : Int) = [])
def flE (x : Det) (d : Int) : Int := if 200 < (raw x d).length then 4 else if spans x d = [] then 12 else 0
def flV (x : Det) (d : Int) : Int := if 200 < (raw x d).length then 0 else match spans x d with
  | [] => 0
  | s :: _ => s.lo
theorem ok22a (x : Det) (h : detOk x = true) (d : Int) (h0 : 0 ≤ d) (h1 : d < x.dems.length) : Ok Tryz.prog 22 [.ag x.c, vi d] (.tp [vi (flV x d), vi (flE x d)]) := by
 unfold flV flE
 by_cases hf : 200 < (raw x d).length
 · rw [if_pos hf, if_pos hf]; exact ok22f x h d h0 h1 hf
 · rw [if_neg hf, if_neg hf]
   rcases hs : spans x d with _ | ⟨s, r⟩
   · rw [if_pos rfl]; exact ok22n x h d h0 h1 (by omega) hs
   · rw [if_neg (by simp)]; exact ok22 x h d h0 h1 (by omega) s r hs
theorem fl12 {x : Det} {d : Int} (h : (flE x d == 12) = true) : (raw x d).length ≤ 200 ∧ spans x d = [] := by
 unfold flE at h
 split at h
 · exact absurd h (by decide)
 · split at h
   · exact ⟨by omega, by assumption⟩
   · exact absurd h (by decide)
theorem fl0 {x : Det} {d : Int} (h : (flE x d == 12) = false) (h2 : (flE x d != 0) = false) : (raw x d).length ≤ 200 ∧ ∃ s r, spans x d = s :: r ∧ flV x d = s.lo := by
 unfold flE at h h2
 split at h
 · rename_i hf; rw [if_pos hf] at h2; exact absurd h2 (by decide)
 · rename_i hf
   split at h
   · exact absurd h (by decide)
   · rename_i hs
     rcases hs' : spans x d with _ | ⟨s, r⟩
     · exact absurd hs' hs
     · refine ⟨by omega, s, r, rfl, ?_⟩
       unfold flV; rw [if_neg hf, hs']
theorem bB_succ (x : Det) (n : Nat) : bB x (n + 1) = (bB x n && decide (spans x (n : Int) = [])) := by
 unfold bB
 cases hb : allN (n + 1) fun j => decide (spans x (j : Int) = []) with
 | true =>
   have := allN_iff.1 hb
   rw [show (allN n fun j => decide (spans x (j : Int) = [])) = true from allN_iff.2 fun j hj => this j (by omega), this n (by omega)]; rfl
 | false =>
   cases h1 : allN n fun j => decide (spans x (j : Int) = []) with
   | false => rfl
   | true =>
     cases h2 : decide (spans x (n : Int) = []) with
     | false => rfl
     | true =>
       have : (allN (n + 1) fun j => decide (spans x (j : Int) = [])) = true := allN_iff.2 fun j hj => by
         by_cases e : j = n
         · subst e; exact h2
         · exact allN_iff.1 h1 j (by omega)
       rw [hb] at this; cases this
theorem go_e {x : Det} {i : Nat} (h : (flE x i == 12) = true) : bB x i = bB x (i + 1) ∧ (raw x i).length ≤ 200 := by
 obtain ⟨a, b⟩ := fl12 h
 rw [bB_succ, decide_eq_true b, Bool.and_true]; exact ⟨rfl, a⟩
theorem go_s {x : Det} {i : Nat} (h : (flE x i == 12) = false) (h2 : (flE x i != 0) = false) : false = bB x (i + 1) ∧ (raw x i).length ≤ 200 := by
 obtain ⟨a, s, r, b, _⟩ := fl0 h h2
 rw [bB_succ, decide_eq_false (by rw [b]; simp), Bool.and_false]; exact ⟨rfl, a⟩
theorem failN_nil (x : Det) : ∀ n : Nat, n ≤ x.dems.length → decide (failN x n = []) = bB x n
  | 0, _ => rfl
  | n + 1, hn => by
    rw [bB_succ, ← failN_nil x n (by omega), failN_succ (by omega)]
    split
    · rename_i he; rw [he, List.append_nil]; simp
    · rename_i he; rw [decide_eq_false (by simp), decide_eq_false he, Bool.and_false]
theorem vr_eq (x : Det) (n : Nat) : (!decide (findN (vrs x n).length (vrP x) ≥ 0)) = bB x n := by
 rw [vrs_len]
 rcases findN_cases (2 * n + 1) (vrP x) with ⟨e, h⟩ | ⟨i, e, h1, h2, _⟩
 · rw [e]
   refine (allN_iff.2 fun j hj => ?_).symm
   have := h (2 * j + 2) (by omega)
   unfold vrP at this
   rw [if_neg (by omega), if_neg (by omega), show (2 * j + 2 - 2) / 2 = j by omega] at this
   simpa using this
 · rw [e, decide_eq_true (by omega)]
   unfold vrP at h2
   split at h2
   · cases h2
   · split at h2
     · cases h2
     · have h3 : decide (spans x (((i - 2) / 2 : Nat) : Int) = []) = false := by simpa using h2
       cases hb : bB x n with
       | false => rfl
       | true => rw [allN_iff.1 hb ((i - 2) / 2) (by omega)] at h3; cases h3
theorem nf_step {x : Det} {i : Nat} (h : ∀ j : Nat, j < i → (raw x j).length ≤ 200) (h2 : (raw x i).length ≤ 200) : ∀ j : Nat, j < i + 1 → (raw x j).length ≤ 200 := fun j hj => by
  by_cases e : j = i
  · subst e; exact h2
  · exact h j (by omega)
theorem clm_secs (x : Det) : (clm x).secs = ofs x := by unfold clm; split <;> rfl
theorem bars_c {x : Det} (h : detOk x = true) {d p : Int} : (!(decide (have_ x d p > 0) == decide ((((barsF x d p).map ic).length : Int) > 0))) = false := by
 have e := bars_pos h (d := d) (p := p)
 have e2 : decide (have_ x d p > 0) = decide ((((barsF x d p).map ic).length : Int) > 0) := decide_eq_decide.2 (by rw [List.length_map]; omega)
 rw [e2]; simp
theorem sp_ne {s : Spn} {r : List Spn} (h : ((((s :: r).map Spn.c).length : Int) == 0) = true) : False := by
 simp at h; omega
theorem sp_lo {s : Spn} {r : List Spn} {v : Int} (h : v = s.lo) : ((gt (s :: r) 0).lo != v) = false := by
 have e : gt (s :: r) 0 = s := rfl
 rw [e, h]; simp
theorem fm_len {x : Det} {p : Int} {n : Nat} : ∀ l : List Chn, (∀ c ∈ l, c.bars.length ≤ n) → (l.flatMap (overC x p)).length ≤ l.length * n := by
 intro l
 induction l with
 | nil => intro _; simp
 | cons c l ih =>
   intro hl
   have h1 := ih fun c hc => hl c (List.mem_cons_of_mem _ hc)
   have h2 := hl c (List.mem_cons_self ..)
   have h3 : (overC x p c).length ≤ c.bars.length := List.length_filter_le _ _
   rw [List.flatMap_cons, List.length_append, List.length_cons, Nat.succ_mul]
   omega
theorem bars_few (x : Det) (h : detOk x = true) (hs : total x.runs ≤ 1000) (d p : Int) : (barsF x d p).length ≤ 1000000000 := by
 have ht := total_le (detP h).runs
 have hcs : (chs x).length ≤ 1000 := by have := chainsN_len x (total x.runs).toNat; unfold chs; omega
 have hsl : (supF x d).length ≤ 1000 := by
   have := supN_len x d (chns x).length
   have : (chns x).length = (chs x).length := by simp [chns]
   unfold supF; omega
 have hal : (atF x d p).length ≤ 1000 := by have := List.length_filter_le (fun c => !offB p c) (supF x d); unfold atF; omega
 have hbl : ∀ c ∈ atF x d p, c.bars.length ≤ 1001 := fun c hc => by have := chain_len (supP h (List.mem_filter.1 hc).1).ch; omega
 have h1 := fm_len (x := x) (p := p) (atF x d p) hbl
 have h2 := Nat.mul_le_mul_right 1001 hal
 unfold barsF
 rw [srt_len]
 omega
theorem ok7 (x : Det) (h : detOk x = true) (hs : total x.runs ≤ 1000) (q' : Int) : Ok Tryz.prog 7 [.ag x.c, .int .i32 q'] (.bool true) := by
 obtain ⟨q, hqe⟩ : ∃ q, q = Int.tmod (IntKind.i64.wrap q') 1048577 := ⟨_, rfl⟩
 have hq : -1048576 ≤ q ∧ q ≤ 1048576 := by
   have g1 := Int.tmod_lt_of_pos (IntKind.i64.wrap q') (b := 1048577) (by decide)
   have g2 := Int.lt_tmod_of_pos (IntKind.i64.wrap q') (b := 1048577) (by decide)
   omega
 have hdl := (demsOk_parts (detP h).dems).1
 refine zz 268 Tryz.func7 rfl Tryz.call7 rfl (zR (zo rfl (zo rfl (zw (zq (Sat.to tabOk (⟨268, lk [(2, .ptr 2 0), (5, .v (vi q))], lk [(2, ⟨.cells (x.c.map .v), false⟩)]⟩) ?_ ?_))))))
 exact zo rfl (zo rfl (zo rfl (zo rfl (wn (weak_of ⟨rfl, int_eq rfl hqe.symm, trivial⟩ ⟨rfl, trivial⟩ rfl rfl)))))
 refine nq (zR (zo rfl (zw (zq (zR (zo rfl (zo rfl (zo rfl (zo rfl ?_)))))))))
 refine zw (Sat.loop' (fun z => ∀ j : Nat, j < z → (raw x j).length ≤ 200) (fun i => ⟨268, lk [(2, .ptr 2 0), (5, .v (vi q)), (6, .v (.bool (bB x i))), (37, .v (.sl (x.dems.map Dem.c))), (38, .v (vi (x.dems.map Dem.c).length)), (39, .v (vi i))], lk [(2, ⟨.cells (x.c.map .v), false⟩)]⟩) (x.dems.length) ?_ (fun j hj => absurd hj (by omega)) (fun i hi hI => ?_) (fun hI => ?_))
 exact zv rfl rfl rfl rfl
 have hi0 : (0 : Int) ≤ i := by omega
 have hi1 : ((i : Nat) : Int) < x.dems.length := by omega
 have k18 : ∀ p, Ok Tryz.prog 18 [.ag (gt x.dems i).c, vi p] (.tp [vi (want x i p), vi 0]) := fun p => ok18 _ p (dem_ok h hi0 hi1)
 have k10 : ∀ p, -1048576 ≤ p ∧ p ≤ 1048576 → Ok Tryz.prog 10 [.ag x.c, vi i, vi p] (.tp [vi (have_ x i p), vi 0]) := fun p hp => ok10 x h i p hi0 hi1 hp
 have k19 := ok19 x h hs i q hi0 hi1 hq
 have k22 := ok22a x h i hi0 hi1
 have hbl : (barsF x i q).length ≤ 1000000000 := bars_few x h hs i q
 refine zR (zo rfl (zw (zq (zy rfl (by simp [hi]) (zk (zq (zb rfl (zR (zo rfl ?_)))))))))
 refine step_sil (sil_index rfl rfl rfl rfl (by omega) (gt_idx (by omega) (by first | omega | (simp; done))) rfl ?_)
 refine zo rfl (zo rfl (zo rfl (zd rfl rfl (zw (zR (zo rfl (zo rfl (zc rfl (k18 _) (zo rfl ?_)))))))))
 refine zo rfl (zo rfl (zo rfl (zo rfl (zw (zR (zo rfl (zo rfl (zo rfl (zc rfl (k10 q hq) ?_)))))))))
 refine zo rfl (zo rfl (zo rfl (zo rfl (zo rfl (zw (zR (zo rfl (zo rfl (zo rfl ?_)))))))))
 refine zc rfl k19 (zo rfl (zo rfl (zo rfl (zo rfl (zo rfl (zw (zq (zq (Sat.to tabOk (⟨268, lk [(2, .ptr 2 0), (5, .v (vi q)), (6, .v (.bool (bB x i))), (37, .v (.sl (x.dems.map Dem.c))), (38, .v (vi (x.dems.map Dem.c).length)), (39, .v (vi i)), (7, .v (vi i)), (8, .ptr 8 0), (9, .v (vi (want x i q))), (11, .v (vi (have_ x i q))), (13, .v (.sl ((barsF x i q).map ic))), (81, .v (.bool false))], lk [(2, ⟨.cells (x.c.map .v), false⟩), (8, ⟨.cells ((gt x.dems i).c.map .v), false⟩)]⟩) ?_ ?_)))))))))
 refine zo rfl (zo rfl (zo rfl (zF rfl (fun h1 => ?_) (fun h1 => ?_))))
 refine zO (fun _ => rfl) (zh rfl h1 rfl (zP rfl h1 rfl (zo rfl (zF rfl (fun h2 => ?_) (fun h2 => ?_)))))
 refine zO (fun _ => rfl) (zh rfl h2 rfl (zP rfl h2 rfl (zo rfl (zF rfl (fun h3 => ?_) (fun h3 => ?_)))))
 exact zO (fun _ => rfl) (zh rfl h3 rfl (zh rfl h3 rfl (zh rfl h3 rfl (zh rfl h3 rfl (zh rfl h3 rfl (zP rfl h3 rfl (wn (weak_of ⟨rfl, rfl, rfl, rfl, rfl, rfl, rfl, rfl, rfl, rfl, rfl, bool_eq rfl (by first | exact absurd h1 (by decide) | exact absurd h2 (by decide) | exact absurd h3 (by decide) | exact bars_c h), trivial⟩ ⟨rfl, rfl, trivial⟩ rfl rfl))))))))
 exact zf rfl h3 (zf rfl h3 (zf rfl h3 (zf rfl h3 (zf rfl h3 (zp rfl h3 rfl (wn (weak_of ⟨rfl, rfl, rfl, rfl, rfl, rfl, rfl, rfl, rfl, rfl, rfl, bool_eq rfl (by first | exact absurd h1 (by decide) | exact absurd h2 (by decide) | exact absurd h3 (by decide) | exact bars_c h), trivial⟩ ⟨rfl, rfl, trivial⟩ rfl rfl)))))))
 refine zf rfl h2 (zp rfl h2 rfl (zo rfl (zf rfl rfl (zf rfl rfl (zf rfl rfl (zf rfl rfl (zf rfl rfl (zf rfl rfl (zp rfl rfl rfl ?_)))))))))
 exact wn (weak_of ⟨rfl, rfl, rfl, rfl, rfl, rfl, rfl, rfl, rfl, rfl, rfl, bool_eq rfl (by first | exact absurd h1 (by decide) | exact absurd h2 (by decide) | exact absurd h3 (by decide) | exact bars_c h), trivial⟩ ⟨rfl, rfl, trivial⟩ rfl rfl)
 refine zf rfl h1 (zp rfl h1 rfl (zo rfl (zf rfl rfl (zf rfl rfl (zp rfl rfl rfl (zo rfl (zf rfl rfl (zf rfl rfl (zf rfl rfl ?_)))))))))
 exact zf rfl rfl (zf rfl rfl (zf rfl rfl (zp rfl rfl rfl (wn (weak_of ⟨rfl, rfl, rfl, rfl, rfl, rfl, rfl, rfl, rfl, rfl, rfl, bool_eq rfl (by first | exact absurd h1 (by decide) | exact absurd h2 (by decide) | exact absurd h3 (by decide) | exact bars_c h), trivial⟩ ⟨rfl, rfl, trivial⟩ rfl rfl)))))
 refine nq (zn rfl (rfl) (zk (zq (zR (zo rfl (zo rfl (zo rfl (zw (Sat.loop' (fun _ => True) (fun j => ⟨268, lk [(2, .ptr 2 0), (5, .v (vi q)), (6, .v (.bool (bB x i))), (37, .v (.sl (x.dems.map Dem.c))), (38, .v (vi (x.dems.map Dem.c).length)), (39, .v (vi i)), (7, .v (vi i)), (8, .ptr 8 0), (9, .v (vi (want x i q))), (11, .v (vi (have_ x i q))), (82, .v (.sl ((barsF x i q).map ic))), (83, .v (vi ((barsF x i q).map ic).length)), (84, .v (vi j))], lk [(2, ⟨.cells (x.c.map .v), false⟩), (8, ⟨.cells ((gt x.dems i).c.map .v), false⟩)]⟩) ((barsF x i q).length) ?_ (trivial) (fun j hj hJ => ?_) (fun hJ => ?_))))))))))
 exact zv rfl rfl rfl rfl
 have hb := bars_ok h (gt_mem (l := (barsF x i q)) (k := (j : Int)) (by omega) (by omega))
 have hb4 := hb.2.2.2.1
 have hb5 := hb.2.2.2.2
 have k21 : Ok Tryz.prog 21 [.ag (gt x.dems i).c, .ag (mainAt x.bars x.runs (gt (barsF x i q) j)).c] (.tp [.bool true, vi 0]) := by have k := ok21 (gt x.dems i) (mainAt x.bars x.runs (gt (barsF x i q) j)) (dem_ok h hi0 hi1) (main_ok (detP h).runs hb.1 hb.2.1); rwa [hb.2.2.1] at k
 refine zR (zo rfl (zw (zq (zy rfl (by simp [hj]) (zk (zq (zb rfl (zR (step_sil (sil_index rfl rfl rfl rfl (by omega) (gt_idx (by omega) (by first | omega | (simp; done))) rfl ?_))))))))))
 refine zo rfl (zo rfl (zw (zR (zo rfl (zo rfl (zc rfl (ok20 x h (gt (barsF x i q) j) hb.1.1 hb.1.2 hb.2.1) (zo rfl (zo rfl (zo rfl ?_)))))))))
 refine zo rfl (zd rfl rfl (zo rfl (zw (zR (zo rfl (zo rfl (zc rfl k21 (zo rfl (zo rfl ?_)))))))))
 refine zo rfl (zo rfl (zo rfl (zw (zq (Sat.to tabOk (⟨268, lk [(2, .ptr 2 0), (5, .v (vi q)), (6, .v (.bool (bB x i))), (37, .v (.sl (x.dems.map Dem.c))), (38, .v (vi (x.dems.map Dem.c).length)), (39, .v (vi i)), (7, .v (vi i)), (8, .ptr 8 0), (9, .v (vi (want x i q))), (11, .v (vi (have_ x i q))), (82, .v (.sl ((barsF x i q).map ic))), (83, .v (vi ((barsF x i q).map ic).length)), (84, .v (vi j)), (123, .v (.bool false))], lk [(2, ⟨.cells (x.c.map .v), false⟩), (8, ⟨.cells ((gt x.dems i).c.map .v), false⟩)]⟩) ?_ ?_)))))
 refine zo rfl (zo rfl (zo rfl (zF rfl (fun h4 => ?_) (fun h4 => ?_))))
 refine zO (fun _ => rfl) (zh rfl h4 rfl (zP rfl h4 rfl (zo rfl (zF rfl (fun h5 => ?_) (fun h5 => ?_)))))
 refine zO (fun _ => rfl) (zh rfl h5 rfl (zP rfl h5 rfl (zo rfl (zF rfl (fun h6 => ?_) (fun h6 => ?_)))))
 refine zO (fun _ => rfl) (zh rfl h6 rfl (zh rfl h6 rfl (zh rfl h6 rfl (zh rfl h6 rfl (zP rfl h6 rfl (zo rfl (zF rfl (fun h7 => ?_) (fun h7 => ?_))))))))
 exact zO (fun _ => rfl) (zh rfl h7 rfl (zh rfl h7 rfl (zh rfl h7 rfl (zh rfl h7 rfl (zP rfl h7 rfl (wn (weak_of ⟨rfl, rfl, rfl, rfl, rfl, rfl, rfl, rfl, rfl, rfl, rfl, rfl, rfl, bool_eq rfl (by first | exact absurd h4 (by decide) | exact absurd h5 (by decide) | exact absurd h6 (by decide) | exact absurd (of_decide_eq_true h7) (by omega) | exact decide_eq_false (by omega)), trivial⟩ ⟨rfl, rfl, trivial⟩ rfl rfl)))))))
 exact zf rfl h7 (zf rfl h7 (zf rfl h7 (zf rfl h7 (zp rfl h7 rfl (wn (weak_of ⟨rfl, rfl, rfl, rfl, rfl, rfl, rfl, rfl, rfl, rfl, rfl, rfl, rfl, bool_eq rfl (by first | exact absurd h4 (by decide) | exact absurd h5 (by decide) | exact absurd h6 (by decide) | exact absurd (of_decide_eq_true h7) (by omega) | exact decide_eq_false (by omega)), trivial⟩ ⟨rfl, rfl, trivial⟩ rfl rfl))))))
 refine zf rfl h6 (zf rfl h6 (zf rfl h6 (zf rfl h6 (zp rfl h6 rfl (zo rfl (zf rfl rfl (zf rfl rfl (zf rfl rfl (zf rfl rfl ?_)))))))))
 exact zf rfl rfl (zp rfl rfl rfl (wn (weak_of ⟨rfl, rfl, rfl, rfl, rfl, rfl, rfl, rfl, rfl, rfl, rfl, rfl, rfl, bool_eq rfl (by first | exact absurd h4 (by decide) | exact absurd h5 (by decide) | exact absurd h6 (by decide) | exact absurd (of_decide_eq_true h7) (by omega) | exact decide_eq_false (by omega)), trivial⟩ ⟨rfl, rfl, trivial⟩ rfl rfl)))
 refine zf rfl h5 (zp rfl h5 rfl (zo rfl (zf rfl rfl (zf rfl rfl (zf rfl rfl (zf rfl rfl (zf rfl rfl (zp rfl rfl rfl (zo rfl ?_)))))))))
 exact zf rfl rfl (zf rfl rfl (zf rfl rfl (zf rfl rfl (zf rfl rfl (zp rfl rfl rfl (wn (weak_of ⟨rfl, rfl, rfl, rfl, rfl, rfl, rfl, rfl, rfl, rfl, rfl, rfl, rfl, bool_eq rfl (by first | exact absurd h4 (by decide) | exact absurd h5 (by decide) | exact absurd h6 (by decide) | exact absurd (of_decide_eq_true h7) (by omega) | exact decide_eq_false (by omega)), trivial⟩ ⟨rfl, rfl, trivial⟩ rfl rfl)))))))
 refine zf rfl h4 (zp rfl h4 rfl (zo rfl (zf rfl rfl (zf rfl rfl (zp rfl rfl rfl (zo rfl (zf rfl rfl (zf rfl rfl (zf rfl rfl ?_)))))))))
 refine zf rfl rfl (zf rfl rfl (zp rfl rfl rfl (zo rfl (zf rfl rfl (zf rfl rfl (zf rfl rfl (zf rfl rfl (zf rfl rfl (zp rfl rfl rfl ?_)))))))))
 exact wn (weak_of ⟨rfl, rfl, rfl, rfl, rfl, rfl, rfl, rfl, rfl, rfl, rfl, rfl, rfl, bool_eq rfl (by first | exact absurd h4 (by decide) | exact absurd h5 (by decide) | exact absurd h6 (by decide) | exact absurd (of_decide_eq_true h7) (by omega) | exact decide_eq_false (by omega)), trivial⟩ ⟨rfl, rfl, trivial⟩ rfl rfl)
 exact nq (zn rfl (rfl) (Sat.skip (nb (nq (zr (za rfl (zo rfl (wn (ns trivial (zv rfl rfl rfl rfl))))))))))
 refine zR (zo rfl (zw (zq (zn rfl (by simp) (Sat.exit (xq (xe (nq (zR (zo rfl ?_))))))))))
 refine zo rfl (zc rfl k22 (zo rfl (zo rfl (zo rfl (zo rfl (zo rfl (zw (zq (zR (zo rfl ?_))))))))))
 refine zo rfl (zw (zC rfl (fun h8 => ?_) (fun h8 => ?_)))
 refine zq (zR (zo rfl (zo rfl (zo rfl (zw (zC rfl (fun h9 => ?_) (fun h9 => ?_)))))))
 refine zR (zo rfl (zw (Sat.ret (rq (rq (rb (rq (rs (rq ?_)))))))))
 exact ze rfl (by first | rfl | exact absurd h23 (by decide) | exact absurd h25 (by decide) | (rw [beq_self_eq_true] at h24; cases h24) | (exfalso; have g := of_decide_eq_true h9; obtain ⟨g1, g2⟩ := fl12 h8; have := no_span h hi0 hi1 g1 g2 q; omega))
 refine zk (Sat.exit (xq (xb (nq ?_))))
 first | have hr := go_s h8 h10 | have hr := go_e h8
 exact zr (za rfl (zo rfl (wn (ns (nf_step hI hr.2) (weak_of ⟨rfl, rfl, bool_eq rfl hr.1, rfl, rfl, rfl, trivial⟩ ⟨rfl, trivial⟩ rfl rfl)))))
 refine zk (zq (zR (zo rfl (zo rfl (zw (zC rfl (fun h10 => ?_) (fun h10 => ?_)))))))
 exact zR (zo rfl (zw (Sat.ret (rq (rb (rq (rs (rq (ze rfl (by first | rfl | exact absurd h23 (by decide) | exact absurd h25 (by decide) | (rw [beq_self_eq_true] at h24; cases h24) | (exfalso; have g := of_decide_eq_true h9; obtain ⟨g1, g2⟩ := fl12 h8; have := no_span h hi0 hi1 g1 g2 q; omega)))))))))))
 refine zk (zR (zo rfl (zw (zq (zq ?_)))))
 obtain ⟨hfu, s, r, hsp, hfv⟩ := fl0 h8 h10
 obtain ⟨g1, g2, g3, g4⟩ := first_span h hi0 hi1 hfu hsp
 rw [← hfv] at g1 g2 g3 g4
 have k23 : Ok Tryz.prog 23 [.ag x.c, vi i] (.tp [.sl ((s :: r).map Spn.c), vi 0]) := by rw [← hsp]; exact ok23 x h i hi0 hi1 hfu
 refine Sat.to tabOk (⟨268, lk [(2, .ptr 2 0), (5, .v (vi q)), (6, .v (.bool false)), (37, .v (.sl (x.dems.map Dem.c))), (38, .v (vi (x.dems.map Dem.c).length)), (39, .v (vi i)), (7, .v (vi i)), (8, .ptr 8 0), (21, .v (vi (flV x i))), (145, .v (.bool false))], lk [(2, ⟨.cells (x.c.map .v), false⟩), (8, ⟨.cells ((gt x.dems i).c.map .v), false⟩)]⟩) ?_ ?_
 refine zo rfl (zo rfl (zo rfl (zo rfl (zT rfl (fun h11 => ?_) (fun h11 => ?_)))))
 exact zO (fun _ => rfl) (zh rfl h11 rfl (zh rfl h11 rfl (zp rfl h11 rfl (wn (weak_of ⟨rfl, rfl, rfl, rfl, rfl, rfl, rfl, rfl, rfl, bool_eq rfl (by first | rfl | exact decide_eq_false (by have := g2 q (of_decide_eq_true h11); omega)), trivial⟩ ⟨rfl, rfl, trivial⟩ rfl rfl)))))
 exact zt rfl h11 (zt rfl h11 (zP rfl h11 rfl (wn (weak_of ⟨rfl, rfl, rfl, rfl, rfl, rfl, rfl, rfl, rfl, bool_eq rfl (by first | rfl | exact decide_eq_false (by have := g2 q (of_decide_eq_true h11); omega)), trivial⟩ ⟨rfl, rfl, trivial⟩ rfl rfl))))
 refine nq (zn rfl (rfl) (zk (zR (zo rfl (zo rfl (zc rfl (k18 _) (zo rfl (zo rfl (zo rfl ?_)))))))))
 refine zo rfl (zo rfl (zw (zR (zo rfl (zo rfl (zo rfl (zc rfl (k10 _ ⟨g3, g4⟩) (zo rfl (zo rfl ?_)))))))))
 refine zo rfl (zo rfl (zo rfl (zw (zq (zq (Sat.to tabOk (⟨268, lk [(2, .ptr 2 0), (5, .v (vi q)), (6, .v (.bool false)), (37, .v (.sl (x.dems.map Dem.c))), (38, .v (vi (x.dems.map Dem.c).length)), (39, .v (vi i)), (7, .v (vi i)), (8, .ptr 8 0), (21, .v (vi (flV x i))), (169, .v (.bool false))], lk [(2, ⟨.cells (x.c.map .v), false⟩), (8, ⟨.cells ((gt x.dems i).c.map .v), false⟩)]⟩) ?_ ?_))))))
 refine zo rfl (zo rfl (zo rfl (zF rfl (fun h12 => ?_) (fun h12 => ?_))))
 refine zO (fun _ => rfl) (zh rfl h12 rfl (zP rfl h12 rfl (zo rfl (zF rfl (fun h13 => ?_) (fun h13 => ?_)))))
 exact zO (fun _ => rfl) (zh rfl h13 rfl (zh rfl h13 rfl (zP rfl h13 rfl (wn (weak_of ⟨rfl, rfl, rfl, rfl, rfl, rfl, rfl, rfl, rfl, bool_eq rfl (by first | exact absurd h12 (by decide) | exact absurd h13 (by decide) | exact decide_eq_false (by omega)), trivial⟩ ⟨rfl, rfl, trivial⟩ rfl rfl)))))
 exact zf rfl h13 (zf rfl h13 (zp rfl h13 rfl (wn (weak_of ⟨rfl, rfl, rfl, rfl, rfl, rfl, rfl, rfl, rfl, bool_eq rfl (by first | exact absurd h12 (by decide) | exact absurd h13 (by decide) | exact decide_eq_false (by omega)), trivial⟩ ⟨rfl, rfl, trivial⟩ rfl rfl))))
 exact zf rfl h12 (zp rfl h12 rfl (zo rfl (zf rfl rfl (zf rfl rfl (zf rfl rfl (zp rfl rfl rfl (wn (weak_of ⟨rfl, rfl, rfl, rfl, rfl, rfl, rfl, rfl, rfl, bool_eq rfl (by first | exact absurd h12 (by decide) | exact absurd h13 (by decide) | exact decide_eq_false (by omega)), trivial⟩ ⟨rfl, rfl, trivial⟩ rfl rfl))))))))
 refine nq (zn rfl (rfl) (zk (zq (zR (zo rfl (zo rfl (zw (zC rfl (fun h14 => ?_) (fun h14 => ?_)))))))))
 refine zR (zo rfl (zo rfl (zs rfl (zc rfl (k18 _) (zo rfl (zo rfl (zo rfl (zo rfl (zo rfl ?_)))))))))
 refine zw (zR (zo rfl (zo rfl (zo rfl (zs rfl (zc rfl (k10 (flV x i - 1) (by have := of_decide_eq_true h14; constructor <;> omega)) (zo rfl (zo rfl (zo rfl ?_)))))))))
 refine zo rfl (zo rfl (zw (zq (Sat.to tabOk (⟨268, lk [(2, .ptr 2 0), (5, .v (vi q)), (6, .v (.bool false)), (37, .v (.sl (x.dems.map Dem.c))), (38, .v (vi (x.dems.map Dem.c).length)), (39, .v (vi i)), (7, .v (vi i)), (8, .ptr 8 0), (21, .v (vi (flV x i))), (197, .v (.bool false))], lk [(2, ⟨.cells (x.c.map .v), false⟩), (8, ⟨.cells ((gt x.dems i).c.map .v), false⟩)]⟩) ?_ ?_))))
 refine zo rfl (zo rfl (zo rfl (zF rfl (fun h15 => ?_) (fun h15 => ?_))))
 refine zO (fun _ => rfl) (zh rfl h15 rfl (zP rfl h15 rfl (zo rfl (zF rfl (fun h16 => ?_) (fun h16 => ?_)))))
 exact zO (fun _ => rfl) (zh rfl h16 rfl (zh rfl h16 rfl (zP rfl h16 rfl (wn (weak_of ⟨rfl, rfl, rfl, rfl, rfl, rfl, rfl, rfl, rfl, bool_eq rfl (by first | exact absurd h15 (by decide) | exact absurd h16 (by decide) | exact decide_eq_false (by have := g2 (flV x i - 1) (by omega); omega)), trivial⟩ ⟨rfl, rfl, trivial⟩ rfl rfl)))))
 exact zf rfl h16 (zf rfl h16 (zp rfl h16 rfl (wn (weak_of ⟨rfl, rfl, rfl, rfl, rfl, rfl, rfl, rfl, rfl, bool_eq rfl (by first | exact absurd h15 (by decide) | exact absurd h16 (by decide) | exact decide_eq_false (by have := g2 (flV x i - 1) (by omega); omega)), trivial⟩ ⟨rfl, rfl, trivial⟩ rfl rfl))))
 exact zf rfl h15 (zp rfl h15 rfl (zo rfl (zf rfl rfl (zf rfl rfl (zf rfl rfl (zp rfl rfl rfl (wn (weak_of ⟨rfl, rfl, rfl, rfl, rfl, rfl, rfl, rfl, rfl, bool_eq rfl (by first | exact absurd h15 (by decide) | exact absurd h16 (by decide) | exact decide_eq_false (by have := g2 (flV x i - 1) (by omega); omega)), trivial⟩ ⟨rfl, rfl, trivial⟩ rfl rfl))))))))
 refine nq (zn rfl (rfl) (zk (zR (zo rfl (zo rfl (zc rfl k23 (zo rfl (zo rfl (zo rfl ?_)))))))))
 refine zo rfl (zo rfl (zw (zq (Sat.to tabOk (⟨268, lk [(2, .ptr 2 0), (5, .v (vi q)), (6, .v (.bool false)), (37, .v (.sl (x.dems.map Dem.c))), (38, .v (vi (x.dems.map Dem.c).length)), (39, .v (vi i)), (7, .v (vi i)), (8, .ptr 8 0), (218, .v (.bool false))], lk [(2, ⟨.cells (x.c.map .v), false⟩), (8, ⟨.cells ((gt x.dems i).c.map .v), false⟩)]⟩) ?_ ?_))))
 refine zo rfl (zo rfl (zo rfl (zF rfl (fun h17 => ?_) (fun h17 => ?_))))
 refine zO (fun _ => rfl) (zh rfl h17 rfl (zh rfl h17 rfl (zP rfl h17 rfl (zo rfl (zF rfl (fun h18 => ?_) (fun h18 => ?_))))))
 refine zO (fun _ => rfl) (step_sil (sil_on rfl h18 (sil_index rfl rfl rfl rfl (by omega) (gt_idx (by omega) (by first | omega | (simp; done))) rfl ?_)))
 exact zh rfl h18 rfl (zh rfl h18 rfl (zh rfl h18 rfl (zh rfl h18 rfl (zP rfl h18 rfl (wn (weak_of ⟨rfl, rfl, rfl, rfl, rfl, rfl, rfl, rfl, bool_eq rfl (by first | rfl | exact (sp_ne h18).elim | exact (sp_ne h20).elim | exact absurd h17 (by decide) | exact absurd h19 (by decide) | exact sp_lo hfv), trivial⟩ ⟨rfl, rfl, trivial⟩ rfl rfl))))))
 exact zf rfl h18 (zf rfl h18 (zf rfl h18 (zf rfl h18 (zf rfl h18 (zp rfl h18 rfl (wn (weak_of ⟨rfl, rfl, rfl, rfl, rfl, rfl, rfl, rfl, bool_eq rfl (by first | rfl | exact (sp_ne h18).elim | exact (sp_ne h20).elim | exact absurd h17 (by decide) | exact absurd h19 (by decide) | exact sp_lo hfv), trivial⟩ ⟨rfl, rfl, trivial⟩ rfl rfl)))))))
 refine zf rfl h17 (zf rfl h17 (zp rfl h17 rfl (zo rfl (zf rfl rfl (zf rfl rfl (zf rfl rfl (zf rfl rfl (zf rfl rfl (zf rfl rfl ?_)))))))))
 exact zp rfl rfl rfl (wn (weak_of ⟨rfl, rfl, rfl, rfl, rfl, rfl, rfl, rfl, bool_eq rfl (by first | rfl | exact (sp_ne h18).elim | exact (sp_ne h20).elim | exact absurd h17 (by decide) | exact absurd h19 (by decide) | exact sp_lo hfv), trivial⟩ ⟨rfl, rfl, trivial⟩ rfl rfl))
 refine nq (zn rfl (rfl) (Sat.skip (nb (nq ?_))))
 first | have hr := go_s h8 h10 | have hr := go_e h8
 exact zr (za rfl (zo rfl (wn (ns (nf_step hI hr.2) (weak_of ⟨rfl, rfl, bool_eq rfl hr.1, rfl, rfl, rfl, trivial⟩ ⟨rfl, trivial⟩ rfl rfl)))))
 refine zk (zR (zo rfl (zo rfl (zc rfl k23 (zo rfl (zo rfl (zo rfl (zo rfl (zo rfl ?_)))))))))
 refine zw (zq (Sat.to tabOk (⟨268, lk [(2, .ptr 2 0), (5, .v (vi q)), (6, .v (.bool false)), (37, .v (.sl (x.dems.map Dem.c))), (38, .v (vi (x.dems.map Dem.c).length)), (39, .v (vi i)), (7, .v (vi i)), (8, .ptr 8 0), (218, .v (.bool false))], lk [(2, ⟨.cells (x.c.map .v), false⟩), (8, ⟨.cells ((gt x.dems i).c.map .v), false⟩)]⟩) ?_ ?_))
 refine zo rfl (zo rfl (zo rfl (zF rfl (fun h19 => ?_) (fun h19 => ?_))))
 refine zO (fun _ => rfl) (zh rfl h19 rfl (zh rfl h19 rfl (zP rfl h19 rfl (zo rfl (zF rfl (fun h20 => ?_) (fun h20 => ?_))))))
 refine zO (fun _ => rfl) (step_sil (sil_on rfl h20 (sil_index rfl rfl rfl rfl (by omega) (gt_idx (by omega) (by first | omega | (simp; done))) rfl ?_)))
 exact zh rfl h20 rfl (zh rfl h20 rfl (zh rfl h20 rfl (zh rfl h20 rfl (zP rfl h20 rfl (wn (weak_of ⟨rfl, rfl, rfl, rfl, rfl, rfl, rfl, rfl, bool_eq rfl (by first | rfl | exact (sp_ne h18).elim | exact (sp_ne h20).elim | exact absurd h17 (by decide) | exact absurd h19 (by decide) | exact sp_lo hfv), trivial⟩ ⟨rfl, rfl, trivial⟩ rfl rfl))))))
 exact zf rfl h20 (zf rfl h20 (zf rfl h20 (zf rfl h20 (zf rfl h20 (zp rfl h20 rfl (wn (weak_of ⟨rfl, rfl, rfl, rfl, rfl, rfl, rfl, rfl, bool_eq rfl (by first | rfl | exact (sp_ne h18).elim | exact (sp_ne h20).elim | exact absurd h17 (by decide) | exact absurd h19 (by decide) | exact sp_lo hfv), trivial⟩ ⟨rfl, rfl, trivial⟩ rfl rfl)))))))
 refine zf rfl h19 (zf rfl h19 (zp rfl h19 rfl (zo rfl (zf rfl rfl (zf rfl rfl (zf rfl rfl (zf rfl rfl (zf rfl rfl (zf rfl rfl ?_)))))))))
 exact zp rfl rfl rfl (wn (weak_of ⟨rfl, rfl, rfl, rfl, rfl, rfl, rfl, rfl, bool_eq rfl (by first | rfl | exact (sp_ne h18).elim | exact (sp_ne h20).elim | exact absurd h17 (by decide) | exact absurd h19 (by decide) | exact sp_lo hfv), trivial⟩ ⟨rfl, rfl, trivial⟩ rfl rfl))
 refine nq (zn rfl (rfl) (Sat.skip (nb (nq ?_))))
 first | have hr := go_s h8 h10 | have hr := go_e h8
 exact zr (za rfl (zo rfl (wn (ns (nf_step hI hr.2) (weak_of ⟨rfl, rfl, bool_eq rfl hr.1, rfl, rfl, rfl, trivial⟩ ⟨rfl, trivial⟩ rfl rfl)))))
 have k8 : Ok Tryz.prog 8 [.ag x.c] (.tp [.bool (bB x x.dems.length), vi 0]) := by rw [← failN_nil x _ (Nat.le_refl _)]; exact ok8 x h hI
 have k25 : Ok Tryz.prog 25 [.ag x.c, .sl ((clm x).secs.map slC)] (.tp [.bool (bB x x.dems.length), vi 0]) := by rw [← vr_eq, clm_secs]; exact ok25 x h hI
 refine zR (zo rfl (zw (zq (zn rfl (by simp) (Sat.exit (xq (xe (nq (zR (zo rfl ?_))))))))))
 refine zc rfl k8 (zo rfl (zo rfl (zo rfl (zo rfl (zo rfl (zw (zR (zo rfl (zc rfl (ok24 x h hI) ?_)))))))))
 refine zo rfl (zo rfl (zo rfl (zo rfl (zd rfl rfl (zo rfl (zw (zq (zq (Sat.to tabOk (⟨268, lk [(2, .ptr 2 0), (6, .v (.bool (bB x x.dems.length))), (27, .ptr 27 0), (240, .v (.bool false))], lk [(2, ⟨.cells (x.c.map .v), false⟩), (27, ⟨.cells ((clm x).c.map .v), false⟩)]⟩) ?_ ?_)))))))))
 refine zo rfl (zo rfl (zo rfl (zF rfl (fun h21 => ?_) (fun h21 => ?_))))
 refine zO (fun _ => rfl) (zh rfl h21 rfl (zP rfl h21 rfl (zo rfl (zF rfl (fun h22 => ?_) (fun h22 => ?_)))))
 exact zO (fun _ => rfl) (zh rfl h22 rfl (zh rfl h22 rfl (zP rfl h22 rfl (wn (weak_of ⟨rfl, rfl, rfl, bool_eq rfl (by first | exact absurd h21 (by decide) | exact absurd h22 (by decide) | (simp; done)), trivial⟩ ⟨rfl, rfl, trivial⟩ rfl rfl)))))
 exact zf rfl h22 (zf rfl h22 (zp rfl h22 rfl (wn (weak_of ⟨rfl, rfl, rfl, bool_eq rfl (by first | exact absurd h21 (by decide) | exact absurd h22 (by decide) | (simp; done)), trivial⟩ ⟨rfl, rfl, trivial⟩ rfl rfl))))
 exact zf rfl h21 (zp rfl h21 rfl (zo rfl (zf rfl rfl (zf rfl rfl (zf rfl rfl (zp rfl rfl rfl (wn (weak_of ⟨rfl, rfl, rfl, bool_eq rfl (by first | exact absurd h21 (by decide) | exact absurd h22 (by decide) | (simp; done)), trivial⟩ ⟨rfl, rfl, trivial⟩ rfl rfl))))))))
 refine nq (zn rfl (rfl) (zk (zR (zo rfl (zo rfl (zo rfl (zc rfl k25 (zo rfl (zo rfl ?_)))))))))
 refine zo rfl (zo rfl (zo rfl (zw (zR (zo rfl (zo rfl (zc rfl (ok26 x h hI) (zo rfl (zo rfl ?_)))))))))
 refine zo rfl (zo rfl (zo rfl (zw (zR (zo rfl (zo rfl (zo rfl (zT rfl (fun h23 => ?_) (fun h23 => ?_)))))))))
 refine zO (fun _ => rfl) (zh rfl h23 rfl (zh rfl h23 rfl (zp rfl h23 rfl (zo rfl (zT rfl (fun h24 => ?_) (fun h24 => ?_))))))
 refine zO (fun _ => rfl) (zh rfl h24 rfl (zp rfl h24 rfl (zo rfl (zT rfl (fun h25 => ?_) (fun h25 => ?_)))))
 exact zO (fun _ => rfl) (zp rfl h25 rfl (zo rfl (zw (Sat.ret (ze rfl (by first | rfl | exact absurd h23 (by decide) | exact absurd h25 (by decide) | (rw [beq_self_eq_true] at h24; cases h24) | (exfalso; have g := of_decide_eq_true h9; obtain ⟨g1, g2⟩ := fl12 h8; have := no_span h hi0 hi1 g1 g2 q; omega)))))))
 exact zP rfl h25 rfl (zo rfl (zw (Sat.ret (ze rfl (by first | rfl | exact absurd h23 (by decide) | exact absurd h25 (by decide) | (rw [beq_self_eq_true] at h24; cases h24) | (exfalso; have g := of_decide_eq_true h9; obtain ⟨g1, g2⟩ := fl12 h8; have := no_span h hi0 hi1 g1 g2 q; omega))))))
 exact zt rfl h24 (zP rfl h24 rfl (zo rfl (zt rfl rfl (zP rfl rfl rfl (zo rfl (zw (Sat.ret (ze rfl (by first | rfl | exact absurd h23 (by decide) | exact absurd h25 (by decide) | (rw [beq_self_eq_true] at h24; cases h24) | (exfalso; have g := of_decide_eq_true h9; obtain ⟨g1, g2⟩ := fl12 h8; have := no_span h hi0 hi1 g1 g2 q; omega))))))))))
 refine zt rfl h23 (zt rfl h23 (zP rfl h23 rfl (zo rfl (zt rfl rfl (zt rfl rfl (zP rfl rfl rfl (zo rfl (zt rfl rfl (zP rfl rfl rfl ?_)))))))))
 exact zo rfl (zw (Sat.ret (ze rfl (by first | rfl | exact absurd h23 (by decide) | exact absurd h25 (by decide) | (rw [beq_self_eq_true] at h24; cases h24) | (exfalso; have g := of_decide_eq_true h9; obtain ⟨g1, g2⟩ := fl12 h8; have := no_span h hi0 hi1 g1 g2 q; omega)))))
end Go.Proofs.YtamjajacnfmgeaaGreat
namespace Go.Proofs.YtamjajacnfmgeaaGreat
open Go Go.RowKit
set_option maxHeartbeats 1000000
theorem tot_le {x : Det} (h1 : (!smallB x.bars x.runs) = false) (h2 : decide ((((x.runs.map Run.c).length : Nat) : Int) > 60) = false) (h : detOk x = true) : total x.runs ≤ 1000 := by
 have hp := runsP (detP h).runs
 have h2 := of_decide_eq_false h2
 rw [List.length_map] at h2
 have h1 : smallB x.bars x.runs = true := by simpa using h1
 simp only [smallB, Bool.and_eq_true, Bool.or_eq_true, decide_eq_true_eq] at h1
 obtain ⟨_, _, h3, h4⟩ := h1
 have e : total x.runs = sumI x.runs.length fun i => cnt1 (gt x.runs i) := by
   unfold total preC
   refine sumI_congr fun j hj => ?_
   have h5 := allN_iff.1 h3 j hj
   have h6 := (hp.rp j hj).cnt
   simp only [smallRun, Bool.and_eq_true, Bool.not_eq_true', Bool.and_eq_false_iff, decide_eq_false_iff_not] at h5
   rw [cnt1_eq]
   split
   · rfl
   · omega
 rw [e]; omega
theorem ok3 (x : Det) (q' : Int) (h4 : Ok Tryz.prog 4 [] (.bool true)) : Ok Tryz.prog 3 [.ag x.c, .int .i32 q'] (.bool true) := by
 have hlm : (x.dems.map Dem.c).length = x.dems.length := List.length_map ..
 refine zz 67 Tryz.func3 rfl Tryz.call3 rfl (zR (zo rfl (zo rfl (zw (zq (zR (zc rfl h4 (zo rfl (zw (zn rfl (rfl) ?_))))))))))
 refine zk (zq (zR (zo rfl (zo rfl (zo rfl (zo rfl (zc rfl (ok5 x.bars x.runs) (zo rfl (zo rfl ?_)))))))))
 refine zF rfl (fun h1 => ?_) (fun h1 => ?_)
 refine zO (fun _ => rfl) (zh rfl h1 rfl (zh rfl h1 rfl (zh rfl h1 rfl (zP rfl h1 rfl (zo rfl (zF rfl (fun h2 => ?_) (fun h2 => ?_)))))))
 refine zO (fun _ => rfl) (zh rfl h2 rfl (zh rfl h2 rfl (zh rfl h2 rfl (zh rfl h2 rfl (zh rfl h2 rfl (zh rfl h2 rfl (zh rfl h2 rfl (zh rfl h2 rfl (zh rfl h2 rfl ?_)))))))))
 refine zh rfl h2 rfl (zh rfl h2 rfl (zP rfl h2 rfl (zo rfl (zF rfl (fun h3 => ?_) (fun h3 => ?_)))))
 refine zO (fun _ => rfl) (zh rfl h3 rfl (zh rfl h3 rfl (zh rfl h3 rfl (zP rfl h3 rfl (zo rfl (zF rfl (fun h4 => ?_) (fun h4 => ?_)))))))
 refine zO (fun _ => rfl) (zh rfl h4 rfl (zh rfl h4 rfl (zh rfl h4 rfl (zP rfl h4 rfl (zw (zC rfl (fun h5 => ?_) (fun h5 => ?_)))))))
 exact zR (zo rfl (zw (Sat.ret (rq (ze rfl (by first | rfl | (simp_all; done)))))))
 refine zk (zq (zR (zo rfl (zo rfl (zo rfl (zo rfl (zw (Sat.loop' (fun _ => True) (fun i => ⟨67, lk [(1, .v (.int .i32 q')), (2, .ptr 2 0), (48, .v (.sl (x.dems.map Dem.c))), (49, .v (vi (x.dems.map Dem.c).length)), (50, .v (vi i))], lk [(2, ⟨.cells (x.c.map .v), false⟩)]⟩) (x.dems.length) ?_ (trivial) (fun i hi hI => ?_) (fun hI => ?_)))))))))
 exact zv rfl rfl rfl rfl
 refine zR (zo rfl (zw (zq (zy rfl (by simp [hi]) (zk (zq (zb rfl (zR (zi rfl rfl rfl rfl rfl ?_)))))))))
 refine zo rfl (zo rfl (zd rfl rfl (zw (zR (zo rfl (zo rfl (zo rfl (zo rfl (zw (zC rfl (fun h6 => ?_) (fun h6 => ?_)))))))))))
 exact zR (zo rfl (zw (Sat.ret (rb (rq (rs (rq (ze rfl (by first | rfl | (simp_all; done))))))))))
 exact Sat.skip (nb (nq (zr (za rfl (zo rfl (wn (ns trivial (zv rfl rfl rfl rfl))))))))
 refine zR (zo rfl (zw (zq (zn rfl (by simp) (Sat.exit (xq (xe (nq (zR (zo rfl ?_))))))))))
 refine zc rfl (ok6 x) (zo rfl (zo rfl (zF rfl (fun h7 => ?_) (fun h7 => ?_))))
 refine zO (fun _ => rfl) (zh rfl h7 rfl (step_sil (sil_on rfl h7 (sil_call rfl rfl (fun _ => rfl) (fun _ => rfl) (ok7 x (by simpa using h7) (tot_le h1 h2 (by simpa using h7)) q') ?_))))
 exact zP rfl h7 rfl (zo rfl (zw (Sat.ret (ze rfl (by first | rfl | (simp_all; done))))))
 exact zf rfl h7 (zf rfl h7 (zp rfl h7 rfl (zo rfl (zw (Sat.ret (ze rfl (by first | rfl | (simp_all; done))))))))
 refine zf rfl h4 (zf rfl h4 (zf rfl h4 (zp rfl h4 rfl (zw (zy rfl rfl (zR (zo rfl (zw (Sat.ret ?_)))))))))
 exact rq (ze rfl (by first | rfl | (simp_all; done)))
 refine zf rfl h3 (zf rfl h3 (zf rfl h3 (zp rfl h3 rfl (zo rfl (zf rfl rfl (zf rfl rfl (zf rfl rfl (zf rfl rfl (zp rfl rfl rfl ?_)))))))))
 exact zw (zy rfl rfl (zR (zo rfl (zw (Sat.ret (rq (ze rfl (by first | rfl | (simp_all; done)))))))))
 refine zf rfl h2 (zf rfl h2 (zf rfl h2 (zf rfl h2 (zf rfl h2 (zf rfl h2 (zf rfl h2 (zf rfl h2 (zf rfl h2 (zf rfl h2 ?_)))))))))
 refine zf rfl h2 (zp rfl h2 rfl (zo rfl (zf rfl rfl (zf rfl rfl (zf rfl rfl (zf rfl rfl (zp rfl rfl rfl (zo rfl (zf rfl rfl ?_)))))))))
 refine zf rfl rfl (zf rfl rfl (zf rfl rfl (zp rfl rfl rfl (zw (zy rfl rfl (zR (zo rfl (zw (Sat.ret ?_)))))))))
 exact rq (ze rfl (by first | rfl | (simp_all; done)))
 refine zf rfl h1 (zf rfl h1 (zf rfl h1 (zp rfl h1 rfl (zo rfl (zf rfl rfl (zf rfl rfl (zf rfl rfl (zf rfl rfl (zf rfl rfl ?_)))))))))
 refine zf rfl rfl (zf rfl rfl (zf rfl rfl (zf rfl rfl (zf rfl rfl (zf rfl rfl (zf rfl rfl (zp rfl rfl rfl (zo rfl (zf rfl rfl ?_)))))))))
 refine zf rfl rfl (zf rfl rfl (zf rfl rfl (zp rfl rfl rfl (zo rfl (zf rfl rfl (zf rfl rfl (zf rfl rfl (zf rfl rfl (zp rfl rfl rfl ?_)))))))))
 exact zw (zy rfl rfl (zR (zo rfl (zw (Sat.ret (rq (ze rfl (by first | rfl | (simp_all; done)))))))))
end Go.Proofs.YtamjajacnfmgeaaGreat
namespace Go.Proofs.YtamjajacnfmgeaaGreat
open Go Go.RowKit
set_option maxHeartbeats 1000000
def bmBar : Bar := ⟨⟨#[97]⟩, 12, 1, 0, [2000]⟩
def bmRun : Run := ⟨⟨#[97]⟩, 1, 2, 100, 50, 50, 0, 0, 0, 1⟩
def bmDem : Dem := ⟨⟨#[108, 111, 119]⟩, ⟨0, 0, 0, 0, 200, 100⟩, [⟨580, 11310⟩, ⟨1620, 0⟩]⟩
def beam : Det := ⟨⟨⟨#[109]⟩, [⟨0, 0, 0, 3000, 200, 400⟩], [], 0, 20, 40⟩, [bmBar], [bmRun], [], [bmDem], ⟨40, 1, 10, 7, 7, 10, 3, 2, 100⟩⟩
theorem ok9 : Ok Tryz.prog 9 [] (.ag beam.c) := by
 refine zz 22 Tryz.func9 rfl Tryz.call9 rfl (zR (zo rfl (zw (zR (zo rfl (zo rfl (zo rfl (zo rfl (zo rfl ?_)))))))))
 refine zo rfl (zo rfl (zo rfl (zo rfl (zo rfl (zo rfl (zo rfl (zo rfl (zo rfl (zo rfl ?_)))))))))
 exact zo rfl (zo rfl (zo rfl (zo rfl (zo rfl (zo rfl (zd rfl rfl (zw (Sat.ret (ze rfl rfl)))))))))
theorem beam_ok : detOk beam = true := by kernel_rfl
end Go.Proofs.YtamjajacnfmgeaaGreat
namespace Go.Proofs.YtamjajacnfmgeaaGreat
open Go Go.RowKit
set_option maxHeartbeats 1000000
theorem beam_val : valF (supF beam 0) 580 = 11310 := by kernel_rfl
theorem beam_sup : supF beam 0 = [⟨[0], 580, 1620, true, 11310⟩] := by kernel_rfl
theorem srt_two {a b : Int} (h : a ≤ b) : srt [a, b] = [a, b] := by
 unfold srt
 exact List.mergeSort_of_pairwise (by simp [h])
theorem beam_cps : cps beam 0 = [580, 1620] := by
 unfold cps
 rw [beam_sup]
 have e : ([⟨[0], 580, 1620, true, 11310⟩] : List Chn).flatMap two = [580, 1620] := rfl
 have e2 : srt ([580, 1620] : List Int) = [580, 1620] := srt_two (by decide)
 have e3 : cpt ([580, 1620] : List Int) = [580, 1620] := by kernel_rfl
 rw [e, e2, e3]
theorem beam_raw : raw beam 0 = [⟨580, 11310⟩, ⟨1620, 0⟩] := by
 unfold raw
 rw [beam_cps]
 have v2 : valF (supF beam 0) 1620 = 0 := by kernel_rfl
 have g0 : gt ([580, 1620] : List Int) ((0 : Nat) : Int) = 580 := rfl
 have g1 : gt ([580, 1620] : List Int) ((1 : Nat) : Int) = 1620 := rfl
 simp [rawN, lastN, beam_cps, beam_val, v2, gt]
theorem beam_full : NoFull beam := fun d hd => by
  have : d = 0 := by simp [beam] at hd; omega
  subst this
  show (raw beam 0).length ≤ 200
  rw [beam_raw]; decide
theorem beam_of : ofF beam 0 = [⟨580, 11310⟩, ⟨1620, 0⟩] := by
 unfold ofF
 rw [beam_raw]; kernel_rfl
theorem srt_four : srt ([580, 1620, 580, 1620] : List Int) = [580, 580, 1620, 1620] := by
 refine List.Perm.eq_of_pairwise (le := fun a b : Int => a ≤ b) (fun a b _ _ h1 h2 => Int.le_antisymm h1 h2) (srt_pairwise _) (by decide) ?_
 exact (List.mergeSort_perm _ _).trans (by decide)
theorem beam_pls : pls beam 0 = [580, 1620] := by
 unfold pls both
 rw [beam_of]
 have e : (([⟨580, 11310⟩, ⟨1620, 0⟩] : List Stp) ++ (gt beam.dems 0).steps).map Stp.fr = [580, 1620, 580, 1620] := rfl
 have e3 : cpt ([580, 580, 1620, 1620] : List Int) = [580, 1620] := by kernel_rfl
 rw [e, srt_four, e3]
theorem beam_at (l : List Stp) (h : l = [⟨580, 11310⟩, ⟨1620, 0⟩]) : stepAt l 580 = 11310 ∧ stepAt l 1620 = 0 := by
 subst h
 exact ⟨by kernel_rfl, by kernel_rfl⟩
theorem beam_prts : prts beam 0 = [⟨580, 1619, 11310, 11310⟩, ⟨1620, 1048576, 0, 0⟩] := by
 have h1 := beam_at _ beam_of
 have h2 := beam_at (gt beam.dems 0).steps rfl
 unfold prts
 rw [beam_pls]
 simp only [List.length_cons, List.length_nil, Nat.zero_add, Nat.reduceAdd]
 have hr : List.range 2 = [0, 1] := rfl
 have g0 : gt (pls beam 0) ((0 : Nat) : Int) = 580 := by rw [beam_pls]; rfl
 have g1 : gt (pls beam 0) ((1 : Nat) : Int) = 1620 := by rw [beam_pls]; rfl
 have p0 : pEnd beam 0 0 = 1619 := by unfold pEnd; rw [beam_pls]; rfl
 have p1 : pEnd beam 0 1 = 1048576 := by unfold pEnd; rw [beam_pls]; rfl
 rw [hr]
 simp only [List.map_cons, List.map_nil, prt, g0, g1, p0, p1, h1, h2]
theorem beam_spans : spans beam 0 = [] := by
 unfold spans
 rw [beam_prts]; rfl
theorem beam_bB : bB beam beam.dems.length = true := by
 have : beam.dems.length = 0 + 1 := rfl
 rw [this, bB_succ, decide_eq_true (show spans beam ((0 : Nat) : Int) = [] from beam_spans)]; rfl
theorem beam_failN : failN beam beam.dems.length = [] := by
 have := failN_nil beam beam.dems.length (Nat.le_refl _)
 rw [beam_bB] at this
 exact of_decide_eq_true this
end Go.Proofs.YtamjajacnfmgeaaGreat
