/-
  Contracts: the chains that supply a demand in the program. Condition: valid in the reference.
  Contracts: the supply of a demand at a place in the program. Condition: valid in the reference.
-/
import Derived.Test.YtamjajacnfmgeaaGreatK34
set_option linter.all false
namespace Go.Proofs.YtamjajacnfmgeaaGreat
open Go Go.RowKit
set_option maxHeartbeats 1000000
theorem ok178_3 (l : List Int) (hl : l.length ≤ 100000) (g : Nat) (c1 c2 c3 : V) (p : Nat → Bool) (h : ∀ i : Nat, i < l.length → Ok Tryz.prog g [vi (gt l i), c1, c2, c3] (.bool (p i))) : Ok Tryz.prog 178 [.sl (l.map ic), .fn g [c1, c2, c3]] (vi (findN l.length p)) := by
 refine zz 19 Tryz.func178 rfl Tryz.call178 rfl (zR (zo rfl (zw (zq (zR (zo rfl (zo rfl (zo rfl (zw (Sat.loop' (fun z => ∀ j : Nat, j < z → p j = false) (fun i => ⟨19, lk [(0, .v (.sl (l.map ic))), (1, .v (.fn g [c1, c2, c3])), (7, .v (vi (l.map ic).length)), (8, .v (vi i))], lk []⟩) (l.length) ?_ (all_zero) (fun i hi hI => ?_) (fun hI => ?_)))))))))))
 exact zv rfl rfl rfl rfl
 refine zR (zo rfl (zw (zq (zy rfl (by simp [hi]) (zk (zq (zb rfl (zR (zo rfl ?_)))))))))
 refine zo rfl (zw (zR (zo rfl (zo rfl (zo rfl (zi rfl rfl rfl rfl rfl (zo rfl (zc rfl (h i hi) (zw (zC rfl (fun h1 => ?_) (fun h1 => ?_)))))))))))
 exact zR (zo rfl (zo rfl (zw (Sat.ret (rb (rq (rs (rq (ze rfl (by first | exact vint (findN_eq hi (by assumption) hI).symm | exact vint (findN_none hI).symm))))))))))
 exact Sat.skip (nb (nq (zr (za rfl (zo rfl (wn (ns (all_step hI (by assumption)) (zv rfl rfl rfl rfl))))))))
 refine zR (zo rfl (zw (zq (zn rfl (by simp) (Sat.exit (xq (xe (nq (zR (zo rfl ?_))))))))))
 exact zw (Sat.ret (ze rfl (by first | exact vint (findN_eq hi (by assumption) hI).symm | exact vint (findN_none hI).symm)))
theorem ok117_3 (l : List Int) (hl : l.length ≤ 100000) (g : Nat) (c1 c2 c3 : V) (p : Nat → Bool) (h : ∀ i : Nat, i < l.length → Ok Tryz.prog g [vi (gt l i), c1, c2, c3] (.bool (p i))) : Ok Tryz.prog 117 [.sl (l.map ic), .fn g [c1, c2, c3]] (.bool (decide (findN l.length p ≥ 0))) := by
 refine zz 9 Tryz.func117 rfl Tryz.call117 rfl (zR (zo rfl (zw (zR (zo rfl (zo rfl (zc rfl (ok178_3 l hl g c1 c2 c3 p h) (zo rfl (zo rfl ?_)))))))))
 exact zw (Sat.ret (ze rfl rfl))
def outB (x : Det) (d a : Int) : Bool := if mainIx (legO x a) < 0 then true else !demIn (gt x.dems d) (mainAt x.bars x.runs a)
theorem main_ok {x : Det} (h : runsOk x.bars x.runs = true) {n : Int} (hn : inTot x n) (hm : hasMain x.bars x.runs n = true) : boxOk (mainAt x.bars x.runs n) = true := by
 obtain ⟨h1, h2, h3⟩ := main_range hm
 have := legs_ok h hn (mainIx (legsAt x.bars x.runs n)).toNat (by unfold legO; omega)
 rw [show (((mainIx (legsAt x.bars x.runs n)).toNat : Nat) : Int) = mainIx (legsAt x.bars x.runs n) by omega] at this
 rw [h3]; exact this
theorem dem_ok {x : Det} (h : detOk x = true) {d : Int} (h0 : 0 ≤ d) (h1 : d < x.dems.length) : demR (gt x.dems d) = true := by
 have := ((demsOk_parts (detP h).dems).2 d.toNat (by omega)).1
 rwa [show ((d.toNat : Nat) : Int) = d by omega] at this
theorem ok118_a (x : Det) (h : detOk x = true) (d a : Int) (ha : inTot x a) (hm : mainIx (legsAt x.bars x.runs a) < 0) : Ok Tryz.prog 118 [vi a, .cp [.sl (rodRows x.bars x.runs (total x.runs).toNat)] 0, .cp x.c 0, .cp [vi d] 0] (.bool true) := by
 obtain ⟨g1, g2⟩ := ha
 refine zz 34 Tryz.func118 rfl Tryz.call118 rfl (zR (zo rfl (zw (zq (zR (zo rfl (zo rfl (step_sil (sil_index rfl rfl rfl rfl (by omega) (rodRows_at _ _ (by omega) (by omega)) rfl ?_)))))))))
 refine zo rfl (zo rfl (zo rfl (zw (zy rfl (decide_eq_true hm) (zR (zo rfl (zw (Sat.ret (rq ?_)))))))))
 exact ze rfl rfl
theorem ok118_b (x : Det) (h : detOk x = true) (d a : Int) (h0 : 0 ≤ d) (h1 : d < x.dems.length) (ha : inTot x a) (hm : hasMain x.bars x.runs a = true) : Ok Tryz.prog 118 [vi a, .cp [.sl (rodRows x.bars x.runs (total x.runs).toNat)] 0, .cp x.c 0, .cp [vi d] 0] (.bool (!demIn (gt x.dems d) (mainAt x.bars x.runs a))) := by
 obtain ⟨g1, g2⟩ := ha
 have hR := (detP h).runs
 have hd := dem_ok h h0 h1
 have hmm := hasMain_iff.1 hm
 refine zz 34 Tryz.func118 rfl Tryz.call118 rfl (zR (zo rfl (zw (zq (zR (zo rfl (zo rfl (step_sil (sil_index rfl rfl rfl rfl (by omega) (by first | exact rodRows_at _ _ (by omega) (by omega) | exact gt_idx (by omega) (by omega)) rfl ?_)))))))))
 refine zo rfl (zo rfl (zo rfl (zw (zn rfl (decide_eq_false (by omega)) (zk (zq (Sat.dr tabOk mixed (by kernel_rfl) (zO (fun _ => rfl) (zO (fun _ => rfl) ?_)))))))))
 refine zO (fun _ => rfl) (sil_index rfl rfl rfl rfl (by omega) (by first | exact rodRows_at _ _ (by omega) (by omega) | exact gt_idx (by omega) (by omega)) rfl (zO (fun _ => rfl) (zO (fun _ => rfl) (zO (fun _ => rfl) (sil_index rfl rfl rfl rfl (by omega) (by first | exact rodRows_at _ _ (by omega) (by omega) | exact gt_idx (by omega) (by omega)) rfl (zO (fun _ => rfl) (sil_call rfl rfl (fun _ => rfl) (fun _ => rfl) (ok44 x.bars x.runs a hm) (sil_call rfl rfl (fun _ => rfl) (fun _ => rfl) (ok21 (gt x.dems d) (mainAt x.bars x.runs a) hd (main_ok hR ⟨g1, g2⟩ hm)) (zO (fun _ => rfl) ?_)))))))))
 refine zO (fun _ => rfl) (zO (fun _ => rfl) (zO (fun _ => rfl) (zO (fun _ => rfl) (sn (nq (zR (zo rfl (zo rfl (zo rfl ?_)))))))))
 refine zF rfl (fun h1 => ?_) (fun h1 => ?_)
 exact zO (fun _ => rfl) (zh rfl h1 rfl (zP rfl h1 rfl (zo rfl (zw (Sat.ret (ze rfl (by first | rfl | (simp_all; done))))))))
 exact zf rfl h1 (zp rfl h1 rfl (zo rfl (zw (Sat.ret (ze rfl (by first | rfl | (simp_all; done)))))))
theorem ok118 (x : Det) (h : detOk x = true) (d a : Int) (h0 : 0 ≤ d) (h1 : d < x.dems.length) (ha : inTot x a) : Ok Tryz.prog 118 [vi a, .cp [.sl (rodRows x.bars x.runs (total x.runs).toNat)] 0, .cp x.c 0, .cp [vi d] 0] (.bool (outB x d a)) := by
 unfold outB legO
 rcases Int.lt_or_le (mainIx (legsAt x.bars x.runs a)) 0 with h2 | h2
 · rw [if_pos h2]; exact ok118_a x h d a ha h2
 · rw [if_neg (by omega)]; exact ok118_b x h d a h0 h1 ha (hasMain_iff.2 h2)
def chOut (x : Det) (d : Int) (c : List Int) : Bool := decide (findN c.length (fun j => outB x d (gt c j)) ≥ 0)
def supK (x : Det) (d : Int) (c : Chn) : Bool := c.is && !chOut x d c.bars
def supN (x : Det) (d : Int) : Nat → List Chn
  | 0 => []
  | n + 1 => if supK x d (gt (chns x) n) = true then supN x d n ++ [gt (chns x) n] else supN x d n
def supF (x : Det) (d : Int) : List Chn := supN x d (chns x).length
theorem supN_len (x : Det) (d : Int) : ∀ n, (supN x d n).length ≤ n
  | 0 => Nat.le_refl _
  | n + 1 => by have := supN_len x d n; simp only [supN]; split <;> simp <;> omega
theorem supN_t {x : Det} {d : Int} {n : Nat} (h1 : (gt (chns x) (n : Int)).is = true) (h2 : chOut x d (gt (chns x) (n : Int)).bars = false) : (supN x d n).map Chn.c ++ [(gt (chns x) (n : Int)).c] = (supN x d (n + 1)).map Chn.c := by
 have : supK x d (gt (chns x) (n : Int)) = true := by simp [supK, h1, h2]
 simp [supN, this]
theorem supN_f1 {x : Det} {d : Int} {n : Nat} (h1 : (gt (chns x) (n : Int)).is = false) : (supN x d n).map Chn.c = (supN x d (n + 1)).map Chn.c := by
 have : supK x d (gt (chns x) (n : Int)) = false := by simp [supK, h1]
 simp [supN, this]
theorem supN_f2 {x : Det} {d : Int} {n : Nat} (h2 : chOut x d (gt (chns x) (n : Int)).bars = true) : (supN x d n).map Chn.c = (supN x d (n + 1)).map Chn.c := by
 have : supK x d (gt (chns x) (n : Int)) = false := by simp [supK, h2]
 simp [supN, this]
theorem chns_len (x : Det) (h : detOk x = true) : (chns x).length ≤ 2000 := by
 have ht := total_le (detP h).runs
 have := chainsN_len x (total x.runs).toNat
 simp only [chns, chs, List.length_map, List.length_range]
 omega
theorem chns_bars {x : Det} {n : Nat} (hn : n < (chns x).length) : gt (chns x) (n : Int) = chnOf x (gt (chs x) n) ∧ gt (chs x) (n : Int) ∈ chs x := by
 have hl : n < (chs x).length := by simpa [chns] using hn
 refine ⟨?_, gt_mem (by omega) (by omega)⟩
 rw [chns, rangeM_gt (by omega) (by omega)]
 rfl
theorem ok64 (x : Det) (h : detOk x = true) (d : Int) (h0 : 0 ≤ d) (h1 : d < x.dems.length) : OkO Tryz.prog 64 [.ag x.c, vi d] 5 ((supF x d).map Chn.c) [.sl (rodRows x.bars x.runs (total x.runs).toNat)] [vi 0] := by
 have hcl := chns_len x h
 refine okO_body tabOk (m := 53) 57 Tryz.func64 rfl Tryz.call64 (by simp) rfl (zR (zo rfl (zo rfl (zo rfl (zo rfl (zo rfl (zw (zR (zo rfl ?_)))))))))
 refine zc rfl (ok116 x h) (zo rfl (zo rfl (zo rfl (zo rfl (zo rfl (zd rfl rfl (zo rfl (zo rfl (zw (zq (zb rfl ?_)))))))))))
 refine zR (zo rfl (zo rfl (zo rfl (zw (zn rfl (by first | rfl | (simp; omega)) (zq (Sat.to tabOk (⟨57, lk [(2, .ptr 2 0), (3, .ptr 3 0), (7, .ptr 7 0), (8, .v (.sl ((chns x).map Chn.c))), (24, .v (.bool false))], lk [(2, ⟨.cells (x.c.map .v), false⟩), (3, ⟨.cells [.v (vi d)], false⟩), (7, ⟨.cells [.v (.sl (rodRows x.bars x.runs (total x.runs).toNat))], false⟩)]⟩) ?_ ?_)))))))
 refine zo rfl (zo rfl (zo rfl (zF rfl (fun h1 => ?_) (fun h1 => ?_))))
 exact zO (fun _ => rfl) (zh rfl h1 rfl (zh rfl h1 rfl (zh rfl h1 rfl (zh rfl h1 rfl (zP rfl h1 rfl (zo rfl (wn (weak_of ⟨rfl, rfl, rfl, rfl, bool_eq rfl (by first | rfl | (simp_all; done) | (simp_all; omega)), trivial⟩ ⟨rfl, rfl, rfl, trivial⟩ rfl rfl))))))))
 exact zf rfl h1 (zf rfl h1 (zf rfl h1 (zf rfl h1 (zp rfl h1 rfl (zo rfl (wn (weak_of ⟨rfl, rfl, rfl, rfl, bool_eq rfl (by first | rfl | (simp_all; done) | (simp_all; omega)), trivial⟩ ⟨rfl, rfl, rfl, trivial⟩ rfl rfl)))))))
 refine nq (zn rfl (by first | rfl | (simp; omega)) (Sat.skip (nb (nq (zR (zo rfl (zw (zq (zR (zo rfl ?_))))))))))
 refine zo rfl (zo rfl (zw (Sat.loop' (fun _ => True) (fun i => ⟨57, lk [(2, .ptr 2 0), (3, .ptr 3 0), (7, .ptr 7 0), (10, slD 53 5 ((supN x d i).map Chn.c)), (34, .v (.sl ((chns x).map Chn.c))), (35, .v (vi ((chns x).map Chn.c).length)), (36, .v (vi i))], lkO [(2, some ⟨.cells (x.c.map .v), false⟩), (3, some ⟨.cells [.v (vi d)], false⟩), (7, some ⟨.cells [.v (.sl (rodRows x.bars x.runs (total x.runs).toNat))], false⟩), (53, slS 5 ((supN x d i).map Chn.c))]⟩) ((chns x).length) ?_ (trivial) (fun i hi hI => ?_) (fun hI => ?_))))
 exact weakO ⟨rfl, rfl, rfl, rfl, rfl, rfl, rfl, trivial⟩ ⟨so rfl, so rfl, so rfl, soS rfl, trivial⟩ (by repeat' (first | exact trivial | exact rfl | exact slD_ment rfl | exact moS | exact mo rfl | refine ⟨?_, ?_⟩)) (by repeat' (first | exact trivial | exact rfl | exact slD_ment rfl | exact moS | exact mo rfl | refine ⟨?_, ?_⟩))
 obtain ⟨hb1, hb2⟩ := chns_bars hi
 have hch0 := chainP h hb2
 have hch : ChainP x (gt (chns x) (i : Int)).bars := by rw [hb1]; exact hch0
 have hlb : (gt (chns x) (i : Int)).bars.length ≤ 100000 := by have := hch.len; omega
 refine zR (zo rfl (zw (zq (zy rfl (by simp [hi]) (zk (zq (zb rfl (zR (zi rfl rfl rfl rfl rfl ?_)))))))))
 refine zo rfl (zo rfl (zd rfl rfl (zw (zq (Sat.xto tabOk (⟨57, lk [(2, .ptr 2 0), (3, .ptr 3 0), (7, .ptr 7 0), (10, slD 53 5 ((supN x d i).map Chn.c)), (12, .ptr 12 0), (13, .v (.bool (chOut x d (gt (chns x) (i : Int)).bars))), (34, .v (.sl ((chns x).map Chn.c))), (35, .v (vi ((chns x).map Chn.c).length)), (36, .v (vi i))], lkO [(2, some ⟨.cells (x.c.map .v), false⟩), (3, some ⟨.cells [.v (vi d)], false⟩), (7, some ⟨.cells [.v (.sl (rodRows x.bars x.runs (total x.runs).toNat))], false⟩), (12, some ⟨.cells ((gt (chns x) (i : Int)).c.map .v), false⟩), (53, slS 5 ((supN x d i).map Chn.c))]⟩) ?_ ?_)))))
 refine wx (step_sil (zO (fun _ => rfl) ?_))
 refine wx (step_sil (zO (fun _ => rfl) ?_))
 refine wx (step_sil (zO (fun _ => rfl) ?_))
 refine x_call rfl rfl (call_lend (ok117_3 (gt (chns x) (i : Int)).bars hlb 118 (.cp [.sl (rodRows x.bars x.runs (total x.runs).toNat)] 0) (.cp x.c 0) (.cp [vi d] 0) (fun j => outB x d (gt (gt (chns x) (i : Int)).bars j)) (fun j hj => ok118 x h d _ h0 h1 (hch.at (by omega) (by omega)))) rfl rfl) (wx (step_sil (zO (fun _ => rfl) ?_)))
 exact wnX (weakO ⟨rfl, rfl, rfl, rfl, rfl, rfl, rfl, rfl, rfl, trivial⟩ ⟨so rfl, so rfl, so rfl, so rfl, soS rfl, trivial⟩ (by repeat' (first | exact trivial | exact rfl | exact slD_ment rfl | exact moS | exact mo rfl | refine ⟨?_, ?_⟩)) (by repeat' (first | exact trivial | exact rfl | exact slD_ment rfl | exact moS | exact mo rfl | refine ⟨?_, ?_⟩)))
 refine nq (zR (zo rfl (zo rfl (zo rfl (zT rfl (fun h2 => ?_) (fun h2 => ?_))))))
 refine zO (fun _ => rfl) (zh rfl h2 rfl (zp rfl h2 rfl (zw (zC rfl (fun h3 => ?_) (fun h3 => ?_)))))
 refine zr (zo rfl (zo rfl (zo rfl ?_)))
 first | (refine step_app1 rfl (by first | exact .inl rfl | (right; simp)) rfl rfl rfl rfl rfl rfl (by have := supN_len x d i; simp; omega) rfl ?_) | (refine step_op rfl rfl rfl ?_)
 exact zo rfl (wn (nb (nq (zr (za rfl (zo rfl (wn (ns trivial (weakO ⟨rfl, rfl, rfl, slD_eq rfl (by first | exact supN_f1 h2 | exact supN_f2 (by simpa using h3) | exact supN_t h2 (by simpa using h3)), rfl, rfl, rfl, trivial⟩ ⟨so rfl, so rfl, so rfl, by first | exact soS (by rw [← supN_f1 h2]; rfl) | exact soS (by rw [← supN_f2 (by simpa using h3)]; rfl) | exact soA rfl (supN_t h2 (by simpa using h3)), trivial⟩ (by repeat' (first | exact trivial | exact rfl | exact slD_ment rfl | exact moS | exact mo rfl | refine ⟨?_, ?_⟩)) (by repeat' (first | exact trivial | exact rfl | exact slD_ment rfl | exact moS | exact mo rfl | refine ⟨?_, ?_⟩)))))))))))
 exact Sat.skip (nb (nq (zr (za rfl (zo rfl (wn (ns trivial (weakO ⟨rfl, rfl, rfl, slD_eq rfl (by first | exact supN_f1 h2 | exact supN_f2 (by simpa using h3) | exact supN_t h2 (by simpa using h3)), rfl, rfl, rfl, trivial⟩ ⟨so rfl, so rfl, so rfl, by first | exact soS (by rw [← supN_f1 h2]; rfl) | exact soS (by rw [← supN_f2 (by simpa using h3)]; rfl) | exact soA rfl (supN_t h2 (by simpa using h3)), trivial⟩ (by repeat' (first | exact trivial | exact rfl | exact slD_ment rfl | exact moS | exact mo rfl | refine ⟨?_, ?_⟩)) (by repeat' (first | exact trivial | exact rfl | exact slD_ment rfl | exact moS | exact mo rfl | refine ⟨?_, ?_⟩))))))))))
 refine zt rfl h2 (zP rfl h2 rfl (zw (zn rfl rfl (Sat.skip (nb (nq (zr (za rfl (zo rfl ?_)))))))))
 exact wn (ns trivial (weakO ⟨rfl, rfl, rfl, slD_eq rfl (by first | exact supN_f1 h2 | exact supN_f2 (by simpa using h3) | exact supN_t h2 (by simpa using h3)), rfl, rfl, rfl, trivial⟩ ⟨so rfl, so rfl, so rfl, by first | exact soS (by rw [← supN_f1 h2]; rfl) | exact soS (by rw [← supN_f2 (by simpa using h3)]; rfl) | exact soA rfl (supN_t h2 (by simpa using h3)), trivial⟩ (by repeat' (first | exact trivial | exact rfl | exact slD_ment rfl | exact moS | exact mo rfl | refine ⟨?_, ?_⟩)) (by repeat' (first | exact trivial | exact rfl | exact slD_ment rfl | exact moS | exact mo rfl | refine ⟨?_, ?_⟩))))
 refine zR (zo rfl (zw (zq (zn rfl (by simp) (Sat.exit (xq (xe (nq (zR (zo rfl ?_))))))))))
 exact zo rfl (zo rfl (zo rfl (zo rfl (zw (Sat.ret (endsO_of trivial rfl rfl (by trivial)))))))
end Go.Proofs.YtamjajacnfmgeaaGreat
namespace Go.Proofs.YtamjajacnfmgeaaGreat
open Go Go.RowKit
set_option maxHeartbeats 1000000
def valI (l : List Chn) (p : Int) (i : Nat) : Int := if (decide ((gt l i).lo ≤ p) && decide (p < (gt l i).hi)) = true then (gt l i).area else 0
def valF (l : List Chn) (p : Int) : Int := sumI l.length (valI l p)
theorem valI_t {l : List Chn} {p : Int} {i : Nat} (h1 : decide ((gt l i).lo ≤ p) = true) (h2 : decide (p < (gt l i).hi) = true) : sumI i (valI l p) + (gt l i).area = sumI (i + 1) (valI l p) := by simp only [sumI, valI, h1, h2]; rfl
theorem valI_f1 {l : List Chn} {p : Int} {i : Nat} (h1 : decide ((gt l i).lo ≤ p) = false) : sumI i (valI l p) = sumI (i + 1) (valI l p) := by simp only [sumI, valI, h1]; simp
theorem valI_f2 {l : List Chn} {p : Int} {i : Nat} (h2 : decide (p < (gt l i).hi) = false) : sumI i (valI l p) = sumI (i + 1) (valI l p) := by simp only [sumI, valI, h2]; simp
theorem ok29 (l : List Chn) (p : Int) (hl : l.length ≤ 2001) (ha : ∀ i : Nat, i < l.length → 0 ≤ (gt l i).area ∧ (gt l i).area ≤ 200000) : Ok Tryz.prog 29 [.sl (l.map Chn.c), vi p] (vi (valF l p)) := by
 have hv : ∀ j : Nat, j < l.length → 0 ≤ valI l p j ∧ valI l p j ≤ 200000 := fun j hj => by
   have := ha j hj
   unfold valI; split <;> omega
 refine zz 32 Tryz.func29 rfl Tryz.call29 rfl (zR (zo rfl (zw (zR (zo rfl (zw (zq (zR (zo rfl ?_)))))))))
 refine zo rfl (zo rfl (zw (Sat.loop' (fun _ => True) (fun i => ⟨32, lk [(1, .v (vi p)), (5, .v (vi (sumI i (valI l p)))), (8, .v (.sl (l.map Chn.c))), (9, .v (vi (l.map Chn.c).length)), (10, .v (vi i))], lk []⟩) (l.length) ?_ (trivial) (fun i hi hI => ?_) (fun hI => ?_))))
 exact zv rfl rfl rfl rfl
 have hs := sumI_le (n := i) (f := valI l p) (fun j hj => hv j (by omega))
 have hai := ha i hi
 refine zR (zo rfl (zw (zq (zy rfl (by simp [hi]) (zk (zq (zb rfl (zR (zi rfl rfl rfl rfl rfl ?_)))))))))
 refine zo rfl (zo rfl (zd rfl rfl (zw (zR (zo rfl (zo rfl (zo rfl (zo rfl (zo rfl ?_)))))))))
 refine zo rfl (zT rfl (fun h1 => ?_) (fun h1 => ?_))
 refine zO (fun _ => rfl) (zh rfl h1 rfl (zh rfl h1 rfl (zh rfl h1 rfl (zh rfl h1 rfl (zp rfl h1 rfl (zw (zC rfl (fun h2 => ?_) (fun h2 => ?_))))))))
 refine zr (zo rfl (zo rfl (zo rfl (za rfl (zo rfl (wn (nb (nq (zr ?_)))))))))
 exact za rfl (zo rfl (wn (ns trivial (weak_of ⟨rfl, int_eq rfl (by first | exact valI_f1 h1 | exact valI_f2 h2 | exact valI_t h1 h2), rfl, rfl, rfl, trivial⟩ trivial rfl rfl))))
 exact Sat.skip (nb (nq (zr (za rfl (zo rfl (wn (ns trivial (weak_of ⟨rfl, int_eq rfl (by first | exact valI_f1 h1 | exact valI_f2 h2 | exact valI_t h1 h2), rfl, rfl, rfl, trivial⟩ trivial rfl rfl))))))))
 refine zt rfl h1 (zt rfl h1 (zt rfl h1 (zt rfl h1 (zP rfl h1 rfl (zw (zn rfl rfl (Sat.skip (nb (nq ?_)))))))))
 exact zr (za rfl (zo rfl (wn (ns trivial (weak_of ⟨rfl, int_eq rfl (by first | exact valI_f1 h1 | exact valI_f2 h2 | exact valI_t h1 h2), rfl, rfl, rfl, trivial⟩ trivial rfl rfl)))))
 refine zR (zo rfl (zw (zq (zn rfl (by simp) (Sat.exit (xq (xe (nq (zR (zo rfl ?_))))))))))
 exact zo rfl (zw (Sat.ret (ze rfl rfl)))
theorem ok119_0 (l : List (Chn)) (hl : l.length ≤ 100000) (g : Nat) (p : Nat → Bool) (h : ∀ i : Nat, i < l.length → Ok Tryz.prog g [.ag (gt l i).c] (.bool (p i))) : Ok Tryz.prog 119 [.sl (l.map Chn.c), .fn g []] (vi (findN l.length p)) := by
 refine zz 19 Tryz.func119 rfl Tryz.call119 rfl (zR (zo rfl (zw (zq (zR (zo rfl (zo rfl (zo rfl (zw (Sat.loop' (fun z => ∀ j : Nat, j < z → p j = false) (fun i => ⟨19, lk [(0, .v (.sl (l.map Chn.c))), (1, .v (.fn g [])), (7, .v (vi (l.map Chn.c).length)), (8, .v (vi i))], lk []⟩) (l.length) ?_ (all_zero) (fun i hi hI => ?_) (fun hI => ?_)))))))))))
 exact zv rfl rfl rfl rfl
 refine zR (zo rfl (zw (zq (zy rfl (by simp [hi]) (zk (zq (zb rfl (zR (zo rfl ?_)))))))))
 refine zo rfl (zw (zR (zo rfl (zo rfl (zo rfl (zi rfl rfl rfl rfl rfl (zo rfl (zc rfl (h i hi) (zw (zC rfl (fun h1 => ?_) (fun h1 => ?_)))))))))))
 exact zR (zo rfl (zo rfl (zw (Sat.ret (rb (rq (rs (rq (ze rfl (by first | exact vint (findN_eq hi (by assumption) hI).symm | exact vint (findN_none hI).symm))))))))))
 exact Sat.skip (nb (nq (zr (za rfl (zo rfl (wn (ns (all_step hI (by assumption)) (zv rfl rfl rfl rfl))))))))
 refine zR (zo rfl (zw (zq (zn rfl (by simp) (Sat.exit (xq (xe (nq (zR (zo rfl ?_))))))))))
 exact zw (Sat.ret (ze rfl (by first | exact vint (findN_eq hi (by assumption) hI).symm | exact vint (findN_none hI).symm)))
theorem ok119_1 (l : List (Chn)) (hl : l.length ≤ 100000) (g : Nat) (c : V) (p : Nat → Bool) (h : ∀ i : Nat, i < l.length → Ok Tryz.prog g [.ag (gt l i).c, c] (.bool (p i))) : Ok Tryz.prog 119 [.sl (l.map Chn.c), .fn g [c]] (vi (findN l.length p)) := by
 refine zz 19 Tryz.func119 rfl Tryz.call119 rfl (zR (zo rfl (zw (zq (zR (zo rfl (zo rfl (zo rfl (zw (Sat.loop' (fun z => ∀ j : Nat, j < z → p j = false) (fun i => ⟨19, lk [(0, .v (.sl (l.map Chn.c))), (1, .v (.fn g [c])), (7, .v (vi (l.map Chn.c).length)), (8, .v (vi i))], lk []⟩) (l.length) ?_ (all_zero) (fun i hi hI => ?_) (fun hI => ?_)))))))))))
 exact zv rfl rfl rfl rfl
 refine zR (zo rfl (zw (zq (zy rfl (by simp [hi]) (zk (zq (zb rfl (zR (zo rfl ?_)))))))))
 refine zo rfl (zw (zR (zo rfl (zo rfl (zo rfl (zi rfl rfl rfl rfl rfl (zo rfl (zc rfl (h i hi) (zw (zC rfl (fun h1 => ?_) (fun h1 => ?_)))))))))))
 exact zR (zo rfl (zo rfl (zw (Sat.ret (rb (rq (rs (rq (ze rfl (by first | exact vint (findN_eq hi (by assumption) hI).symm | exact vint (findN_none hI).symm))))))))))
 exact Sat.skip (nb (nq (zr (za rfl (zo rfl (wn (ns (all_step hI (by assumption)) (zv rfl rfl rfl rfl))))))))
 refine zR (zo rfl (zw (zq (zn rfl (by simp) (Sat.exit (xq (xe (nq (zR (zo rfl ?_))))))))))
 exact zw (Sat.ret (ze rfl (by first | exact vint (findN_eq hi (by assumption) hI).symm | exact vint (findN_none hI).symm)))
def keepQ (l : List Chn) (q : Chn → Bool) (n : Nat) : List Chn := (l.take n).filter fun c => !q c
def rowsQ (l : List Chn) (q : Chn → Bool) (n : Nat) : List (List V) := (keepQ l q n ++ l.drop (keepQ l q n).length).map Chn.c
theorem keepQ_le (l : List Chn) (q : Chn → Bool) (n : Nat) : (keepQ l q n).length ≤ n := by
 have h1 := List.length_filter_le (fun c => !q c) (l.take n)
 have h2 : (l.take n).length ≤ n := by simp; omega
 unfold keepQ; omega
theorem keepQ_succ {l : List Chn} {q : Chn → Bool} {n : Nat} (h : n < l.length) : keepQ l q (n + 1) = keepQ l q n ++ (if q (gt l n) = true then [] else [gt l n]) := by
 unfold keepQ
 rw [take_snoc h, List.filter_append]
 congr 1
 cases hq : q (gt l (n : Int)) <;> simp [hq]
theorem rowsQ_len (l : List Chn) (q : Chn → Bool) {n : Nat} (h : n ≤ l.length) : (rowsQ l q n).length = l.length := by
 have := keepQ_le l q n
 simp [rowsQ]; omega
theorem rowsQ_at {l : List Chn} {q : Chn → Bool} {n : Nat} (h : n < l.length) : (rowsQ l q n)[n]? = some (gt l n).c := by
 unfold rowsQ
 rw [List.getElem?_map, get_mid (keepQ_le l q n), List.getElem?_eq_getElem h, gt_get h]
 rfl
theorem rowsQ_hole {l : List Chn} {q : Chn → Bool} {n : Nat} (h : n < l.length) : ∃ row, (rowsQ l q n)[(keepQ l q n).length]? = some row ∧ row.length = 5 := by
 have h1 := keepQ_le l q n
 have h2 : (keepQ l q n).length < (rowsQ l q n).length := by rw [rowsQ_len l q (by omega)]; omega
 refine ⟨_, List.getElem?_eq_getElem h2, ?_⟩
 have := List.getElem_mem h2
 unfold rowsQ at this
 obtain ⟨c, _, hc⟩ := List.mem_map.1 this
 unfold rowsQ
 rw [← hc]
 rfl
theorem rowsQ_keep {l : List Chn} {q : Chn → Bool} {n : Nat} (h : n < l.length) (hq : q (gt l n) = false) : (rowsQ l q n).set (keepQ l q n).length (gt l n).c = rowsQ l q (n + 1) := by
 have h1 := keepQ_le l q n
 unfold rowsQ
 rw [keepQ_succ h, if_neg (by simp [hq]), ← set_mid (by omega), List.map_set]
theorem rowsQ_skip {l : List Chn} {q : Chn → Bool} {n : Nat} (h : n < l.length) (hq : q (gt l n) = true) : rowsQ l q n = rowsQ l q (n + 1) ∧ keepQ l q n = keepQ l q (n + 1) := by
 have : keepQ l q (n + 1) = keepQ l q n := by rw [keepQ_succ h, if_pos hq, List.append_nil]
 unfold rowsQ
 rw [this]
 exact ⟨rfl, rfl⟩
theorem keepQ_all {l : List Chn} {q : Chn → Bool} {n : Nat} (hn : n ≤ l.length) (h : ∀ j : Nat, j < n → q (gt l j) = false) : keepQ l q n = l.take n := by
 unfold keepQ
 refine List.filter_eq_self.2 fun c hc => ?_
 obtain ⟨j, hj, rfl⟩ := List.mem_iff_getElem.1 hc
 have hj' : j < n := by simp at hj; omega
 have := h j hj'
 rw [gt_get (by omega)] at this
 simp [this]
theorem keepQ_mono {l : List Chn} {q : Chn → Bool} : ∀ {n k : Nat}, n + k ≤ l.length → (keepQ l q (n + k)).length ≤ (keepQ l q n).length + k
  | n, 0, _ => Nat.le_refl _
  | n, k + 1, h => by
    have := keepQ_mono (l := l) (q := q) (n := n) (k := k) (by omega)
    rw [show n + (k + 1) = n + k + 1 by omega, keepQ_succ (by omega)]
    split <;> simp <;> omega
theorem split5 {row : List V} (h : row.length = 5) {c : Chn} : splice row 0 c.c = c.c := by
 unfold splice
 simp [Chn.c, h]
theorem pub_del {s : Store} {rows : List (List V)} {g : Nat} {cap : V} (hm : s 0 = some ⟨.sl 5 rows, false⟩) : optList (pub s pubD) [.osl 0 5 rows.length 0 rows.length, .v (.fn g [cap])] = some [.sl rows, .fn g [cap]] := by
 simp only [optList, pub_oslF hm rfl]
 rfl
theorem idx_nat (k : IntKind) (n : Nat) : idx (.v (.int k (n : Int))) = some n := by simp [idx]
theorem delC_none (l : List Chn) (hl : l.length ≤ 100000) (g : Nat) (cap : V) (q : Chn → Bool) (h : ∀ c ∈ l, Ok Tryz.prog g [.ag c.c, cap] (.bool (q c))) (hN : ∀ j : Nat, j < l.length → q (gt l j) = false) : OkC Tryz.prog 65 5 (l.map Chn.c) [.fn g [cap]] (.sl ((l.filter fun c => !q c).map Chn.c)) := by
 have h119 := ok119_1 l hl g cap (fun i => q (gt l i)) fun i hi => h _ (gt_mem (by omega) (by omega))
 rw [findN_none hN] at h119
 have hall : (l.filter fun c => !q c) = l := by
   have := keepQ_all (l := l) (q := q) (Nat.le_refl _) hN
   rwa [keepQ, List.take_length] at this
 rw [hall]
 refine okC_body tabOk 42 Tryz.func65 rfl Tryz.call65 rfl (zR (zo rfl (zw (zq (Sat.rx tabOk (wx (step_sil (zO (fun _ => rfl) ?_))))))))
 refine wx (step_sil (zO (fun _ => rfl) ?_))
 refine x_call rfl rfl (call_lend h119 (pub_del rfl) rfl) (wx (step_sil (zO (fun _ => rfl) ?_)))
 refine wnX (nq (zq (zR (zo rfl (zo rfl (zw (zy rfl (rfl) (zR (zo rfl ?_)))))))))
 exact zo rfl (zw (Sat.ret (rq (ends_osl trivial rfl rfl rfl (by rw [List.drop_zero, List.take_length])))))
theorem delC_some (l : List Chn) (hl : l.length ≤ 100000) (g : Nat) (cap : V) (q : Chn → Bool) (h : ∀ c ∈ l, Ok Tryz.prog g [.ag c.c, cap] (.bool (q c))) (i0 : Nat) (hi0 : i0 < l.length) (hq0 : q (gt l i0) = true) (hN : ∀ j : Nat, j < i0 → q (gt l j) = false) : OkC Tryz.prog 65 5 (l.map Chn.c) [.fn g [cap]] (.sl ((l.filter fun c => !q c).map Chn.c)) := by
 have h119 := ok119_1 l hl g cap (fun i => q (gt l i)) fun i hi => h _ (gt_mem (by omega) (by omega))
 rw [findN_eq hi0 hq0 hN] at h119
 have hK0 : keepQ l q (i0 + 1) = l.take i0 := by rw [keepQ_succ hi0, if_pos hq0, List.append_nil, keepQ_all (by omega) hN]
 have hK0l : (keepQ l q (i0 + 1)).length = i0 := by rw [hK0]; simp; omega
 have hR0 : l.map Chn.c = rowsQ l q (i0 + 1) := by unfold rowsQ; rw [hK0l, hK0, List.take_append_drop]
 have hml : (l.map Chn.c).length = l.length := by simp
 have hend : i0 + 1 + (l.length - (i0 + 1)) = l.length := by omega
 have hkl := keepQ_mono (l := l) (q := q) (n := i0 + 1) (k := l.length - (i0 + 1)) (by omega)
 have hall : keepQ l q (i0 + 1 + (l.length - (i0 + 1))) = l.filter fun c => !q c := by rw [hend, keepQ, List.take_length]
 refine okC_body tabOk 42 Tryz.func65 rfl Tryz.call65 rfl (zR (zo rfl (zw (zq (Sat.rx tabOk (wx (step_sil (zO (fun _ => rfl) ?_))))))))
 refine wx (step_sil (zO (fun _ => rfl) ?_))
 refine x_call rfl rfl (call_lend h119 (pub_del rfl) rfl) (wx (step_sil (zO (fun _ => rfl) ?_)))
 refine wnX (nq (zq (zR (zo rfl (zo rfl (zw (zn rfl (by first | (simp; done) | (simp; omega)) (zk (zq (zR (zo rfl ?_)))))))))))
 refine za rfl (zo rfl (zw (Sat.loop' (fun _ => True) (fun z => ⟨42, lk [(0, .osl 0 5 (l.map Chn.c).length 0 (l.map Chn.c).length), (1, .v (.fn g [cap])), (5, .v (vi ((keepQ l q (i0 + 1 + z)).length : Nat))), (6, .v (vi ((i0 + 1 + z) : Nat)))], lk [(0, ⟨.sl 5 (rowsQ l q (i0 + 1 + z)), false⟩)]⟩) (l.length - (i0 + 1)) ?_ (trivial) (fun z hz hZ => ?_) (fun hZ => ?_))))
 exact weak_of ⟨rfl, rfl, int_eq rfl (by simp [hK0l]), int_eq rfl (by simp), trivial⟩ ⟨ent_eq rfl hR0, trivial⟩ rfl rfl
 have hlt : (i0 + 1 + z) < l.length := by omega
 have hkle := keepQ_le l q (i0 + 1 + z)
 obtain ⟨row, hrow, hr5⟩ := rowsQ_hole (q := q) hlt
 refine zq (zR (zo rfl (zo rfl (step_sil (sil_lenO rfl rfl rfl rfl (fun _ => rfl) (by rw [rowsQ_len l q (by omega)]; exact hml.symm) ?_)))))
 refine zo rfl (zw (zy rfl (by simp; omega) (zk (zq (zb rfl (zR (zo rfl (zo rfl (step_sil (sil_ixO rfl rfl rfl rfl (fun _ => rfl) (by rw [rowsQ_len l q (by omega)]; exact hml.symm) (by omega) (by omega) ?_))))))))))
 refine step_sil (sil_ldO rfl rfl rfl (fun _ => rfl) (by rw [rowsQ_len l q (by omega)]; exact hml.symm) (show (0 + (((i0 + 1 + z) : Nat) : Int).toNat) * 5 = (i0 + 1 + z) * 5 + 0 by rw [Nat.zero_add, Int.toNat_natCast]; rfl) rfl (rowsQ_at (by omega)) rfl ?_)
 refine zo rfl (zd rfl rfl (zw (zR (zo rfl (zo rfl (zc rfl (h _ (gt_mem (by omega) (by omega))) (zo rfl (zw (zC rfl (fun h1 => ?_) (fun h1 => ?_))))))))))
 refine zq (Sat.rx tabOk (wx (step_sil (zO (fun _ => rfl) ?_))))
 refine wx (step_sil (zO (fun _ => rfl) ?_))
 refine x_ldV (xs := (gt l (((i0 + 1 + z) : Nat) : Int)).c) tabOk rfl rfl rfl rfl rfl (wx (step_sil (sil_ixO rfl rfl rfl rfl (fun _ => rfl) (by rw [rowsQ_len l q (by omega)]; exact hml.symm) (by omega) (by have := keepQ_le l q (i0 + 1 + z); omega) ?_)))
 refine wx (step_stO rfl rfl rfl rfl (by rw [rowsQ_len l q (by omega)]; exact hml.symm) (show (0 + ((((keepQ l q (i0 + 1 + z)).length : Nat)) : Int).toNat) * 5 = (keepQ l q (i0 + 1 + z)).length * 5 + 0 by rw [Nat.zero_add, Int.toNat_natCast]; rfl) rfl hrow rfl ?_)
 refine wnX (nq (zr (zo rfl (za rfl (zo rfl (wn (nb (nq (zr ?_)))))))))
 exact zo rfl (za rfl (zo rfl (wn (ns trivial (weak_of ⟨rfl, rfl, int_eq rfl (by first | (rw [show i0 + 1 + (z + 1) = (i0 + 1 + z) + 1 by omega, ← (rowsQ_skip hlt (by simpa using h1)).2]) | (rw [show i0 + 1 + (z + 1) = (i0 + 1 + z) + 1 by omega, keepQ_succ hlt, if_neg (by simpa using h1)]; simp)), int_eq rfl (by omega), trivial⟩ ⟨by first | exact ent_eq rfl (rowsQ_skip hlt (by simpa using h1)).1 | exact ent_eq rfl ((congrArg (fun y => (rowsQ l q (i0 + 1 + z)).set (keepQ l q (i0 + 1 + z)).length y) (split5 hr5)).trans (rowsQ_keep hlt (by simpa using h1))), trivial⟩ rfl rfl)))))
 exact Sat.skip (nb (nq (zr (zo rfl (za rfl (zo rfl (wn (ns trivial (weak_of ⟨rfl, rfl, int_eq rfl (by first | (rw [show i0 + 1 + (z + 1) = (i0 + 1 + z) + 1 by omega, ← (rowsQ_skip hlt (by simpa using h1)).2]) | (rw [show i0 + 1 + (z + 1) = (i0 + 1 + z) + 1 by omega, keepQ_succ hlt, if_neg (by simpa using h1)]; simp)), int_eq rfl (by omega), trivial⟩ ⟨by first | exact ent_eq rfl (rowsQ_skip hlt (by simpa using h1)).1 | exact ent_eq rfl ((congrArg (fun y => (rowsQ l q (i0 + 1 + z)).set (keepQ l q (i0 + 1 + z)).length y) (split5 hr5)).trans (rowsQ_keep hlt (by simpa using h1))), trivial⟩ rfl rfl)))))))))
 refine zq (zR (zo rfl (zo rfl (step_sil (sil_lenO rfl rfl rfl rfl (fun _ => rfl) (by rw [rowsQ_len l q (by omega)]; exact hml.symm) ?_)))))
 refine zo rfl (zw (zn rfl (by simp; omega) (Sat.exit (xq (xe (nq (zq (Sat.rx tabOk (wx (step_sil (zO (fun _ => rfl) ?_)))))))))))
 refine wx (step_sil (zO (fun _ => rfl) ?_))
 refine x_cut (l := (keepQ l q (i0 + 1 + (l.length - (i0 + 1)))).length) rfl rfl tabOk rfl rfl (by rw [rowsQ_len l q (by omega)]; exact hml.symm) (idx_nat .i64 _) rfl (by omega) (Nat.le_refl _) (.inl (by omega)) (x_clear rfl tabOk rfl rfl (by rw [rowsQ_len l q (by omega)]; exact hml.symm) (by omega) rfl rfl (by omega) rfl (wnX (nq (zq (Sat.rx tabOk (wx (step_sil (zO (fun _ => rfl) ?_))))))))
 refine wx (step_sil (zO (fun _ => rfl) ?_))
 refine x_cut (h := (keepQ l q (i0 + 1 + (l.length - (i0 + 1)))).length) rfl rfl tabOk rfl rfl (by simp [rowsQ_len l q (show i0 + 1 + (l.length - (i0 + 1)) ≤ l.length by omega)]; omega) rfl (idx_nat .i64 _) (by omega) (by omega) (.inr rfl) (wx (step_sil (zO (fun _ => rfl) ?_)))
 exact wnX (nq (Sat.ret (ends_osl trivial rfl rfl (by simp [rowsQ_len l q (show i0 + 1 + (l.length - (i0 + 1)) ≤ l.length by omega)]; omega) (by rw [← hall]; simp [rowsQ]))))
theorem delC (l : List Chn) (hl : l.length ≤ 100000) (g : Nat) (cap : V) (q : Chn → Bool) (h : ∀ c ∈ l, Ok Tryz.prog g [.ag c.c, cap] (.bool (q c))) : OkC Tryz.prog 65 5 (l.map Chn.c) [.fn g [cap]] (.sl ((l.filter fun c => !q c).map Chn.c)) := by
 rcases findN_cases l.length fun i => q (gt l i) with ⟨_, h2⟩ | ⟨i, _, h2, h3, h4⟩
 · exact delC_none l hl g cap q h h2
 · exact delC_some l hl g cap q h i h2 h3 h4
end Go.Proofs.YtamjajacnfmgeaaGreat
