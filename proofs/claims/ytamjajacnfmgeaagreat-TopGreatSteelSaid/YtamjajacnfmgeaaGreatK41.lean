/-
  Contracts: claims and the verifier's sections. Condition: valid in the reference, no supply full.
  The plain law: steps and places. Condition: none.
-/
import Derived.Test.YtamjajacnfmgeaaGreatK40
set_option linter.all false
namespace Go.Proofs.YtamjajacnfmgeaaGreat
open Go Go.RowKit
set_option maxHeartbeats 1000000
theorem sqB_in {a b : Bx} (ha : boxOk a = true) (hb : boxOk b = true) : 0 ≤ sqB a b ∧ sqB a b ≤ 13194139533312 := by
 have := sumI_le (n := 3) (f := sqAt a b) (B := 4398046511104) fun j hj => sq_in ha hb hj
 unfold sqB; omega
def SqV (s : SqS) : Prop := s.m = -1 ∨ (0 ≤ s.m ∧ s.m ≤ 13194139533312)
theorem sqStep_ok {a b : Bx} (ha : boxOk a = true) (hb : boxOk b = true) {s : SqS} (h : SqV s) : 0 ≤ (sqStep a b s).m ∧ (sqStep a b s).m ≤ 13194139533312 := by
 have := sqB_in ha hb
 unfold sqStep SqV at *
 split
 · exact this
 · omega
theorem sqI_ok {a : Bx} (ha : boxOk a = true) {M : List Bx} (hM : ∀ i : Nat, i < M.length → boxOk (gt M i) = true) {s : SqS} (h : SqV s) : ∀ n, n ≤ M.length → SqV (sqI a M s n) ∧ (0 < n → 0 ≤ (sqI a M s n).m)
  | 0, _ => ⟨h, fun h => absurd h (by omega)⟩
  | n + 1, hn => by
    have := sqStep_ok ha (hM n (by omega)) (sqI_ok ha hM h n (by omega)).1
    exact ⟨.inr this, fun _ => this.1⟩
theorem sqO_ok {L M : List Bx} (hL : ∀ i : Nat, i < L.length → boxOk (gt L i) = true) (hM : ∀ i : Nat, i < M.length → boxOk (gt M i) = true) (h1 : 1 ≤ M.length) : ∀ n, n ≤ L.length → SqV (sqO L M n) ∧ (0 < n → 0 ≤ (sqO L M n).m)
  | 0, _ => ⟨.inl rfl, fun h => absurd h (by omega)⟩
  | n + 1, hn => by
    have := sqI_ok (hL n (by omega)) hM (sqO_ok hL hM h1 n (by omega)).1 M.length (Nat.le_refl _)
    exact ⟨this.1, fun _ => this.2 (by omega)⟩
theorem sqr_in {x : Det} (h : runsOk x.bars x.runs = true) {a b : Int} (ha : inTot x a) (hb : inTot x b) : 0 ≤ (sqr x a b).m ∧ (sqr x a b).m ≤ 13194139533312 := by
 have la := legO_len x a
 have lb := legO_len x b
 have h2 := sqO_ok (legs_ok h ha) (legs_ok h hb) lb.1 (legO x a).length (Nat.le_refl _)
 have h3 := h2.2 (by omega)
 rcases h2.1 with h | h
 · unfold sqr at *; omega
 · exact h
def NrV (x : Det) (s : NrS) : Prop := s.m = -1 ∨ (0 ≤ s.i ∧ s.i < s.j ∧ s.j < total x.runs ∧ s.m = (sqr x s.i s.j).m ∧ 0 ≤ s.m)
theorem nrStep_ok {x : Det} (h : runsOk x.bars x.runs = true) {s : NrS} (hs : NrV x s) {i j : Int} (h0 : 0 ≤ i) (h1 : i < j) (h2 : j < total x.runs) : NrV x (nrStep x s i j) ∧ 0 ≤ (nrStep x s i j).m := by
 have := sqr_in h (a := i) (b := j) ⟨h0, by omega⟩ ⟨by omega, h2⟩
 unfold nrStep
 split
 · exact ⟨.inr ⟨h0, h1, h2, rfl, this.1⟩, this.1⟩
 · refine ⟨hs, ?_⟩
   unfold NrV at hs; omega
theorem nrI_ok {x : Det} (h : runsOk x.bars x.runs = true) {i : Nat} {s : NrS} (hs : NrV x s) : ∀ k : Nat, (i : Int) + k < total x.runs → NrV x (nrI x i s k) ∧ (0 < k ∨ 0 ≤ s.m → 0 ≤ (nrI x i s k).m)
  | 0, _ => ⟨hs, fun h => by rcases h with h | h; exact absurd h (by omega); exact h⟩
  | k + 1, hk => by
    have h1 := nrI_ok (i := i) h hs k (by omega)
    have h2 := nrStep_ok h h1.1 (i := i) (j := (i : Int) + 1 + k) (by omega) (by omega) (by omega)
    exact ⟨h2.1, fun _ => h2.2⟩
theorem nrO_ok {x : Det} (h : runsOk x.bars x.runs = true) (ht : 2 ≤ total x.runs) : ∀ n : Nat, (n : Int) ≤ total x.runs → NrV x (nrO x n) ∧ (0 < n → 0 ≤ (nrO x n).m)
  | 0, _ => ⟨.inl rfl, fun h => absurd h (by omega)⟩
  | n + 1, hn => by
    have h1 := nrO_ok h ht n (by omega)
    have h2 := nrI_ok h h1.1 (i := n) ((total x.runs).toNat - (n + 1)) (by omega)
    refine ⟨h2.1, fun _ => h2.2 ?_⟩
    by_cases hz : n = 0
    · subst hz; left; omega
    · right; exact h1.2 (by omega)
theorem nrst_ok {x : Det} (h : runsOk x.bars x.runs = true) (ht : 2 ≤ total x.runs) : 0 ≤ (nrst x).i ∧ (nrst x).i < (nrst x).j ∧ (nrst x).j < total x.runs ∧ (nrst x).m = (sqr x (nrst x).i (nrst x).j).m ∧ 0 ≤ (nrst x).m ∧ (nrst x).m ≤ 13194139533312 := by
 have h1 := nrO_ok h ht (total x.runs).toNat (by omega)
 have h2 := h1.2 (by omega)
 rcases h1.1 with h3 | ⟨a, b, c, d, e⟩
 · exact absurd h3 (by omega)
 · have := sqr_in h (a := (nrst x).i) (b := (nrst x).j) ⟨a, by unfold nrst at *; omega⟩ ⟨by unfold nrst at *; omega, c⟩
   refine ⟨a, b, c, d, e, ?_⟩
   unfold nrst at *; rw [d]; exact this.2
def ofs (x : Det) : List (List Stp) := (List.range x.dems.length).map fun d : Nat => ofF x d
def clm (x : Det) : Clm := if total x.runs < 2 then ⟨ofs x, -1, -1, -1⟩ else ⟨ofs x, (nrst x).i, (nrst x).j, (nrst x).m⟩
def NoFull (x : Det) : Prop := ∀ d : Nat, d < x.dems.length → (raw x d).length ≤ 200
theorem clm_s {x : Det} (h : total x.runs < 2) : clm x = ⟨ofs x, -1, -1, -1⟩ := if_pos h
theorem clm_n {x : Det} (h : ¬total x.runs < 2) : clm x = ⟨ofs x, (nrst x).i, (nrst x).j, (nrst x).m⟩ := if_neg h
theorem ok24 (x : Det) (h : detOk x = true) (hf : NoFull x) : Ok Tryz.prog 24 [.ag x.c] (.tp [.ag (clm x).c, vi 0]) := by
 have hr := (detP h).runs
 by_cases ht : total x.runs < 2
 rw [clm_s ht]
 refine zz 50 Tryz.func24 rfl Tryz.call24 rfl (zR (zo rfl (zo rfl (zo rfl (zw (zq (zR (zo rfl (zc rfl (ok46 x h) ?_)))))))))
 refine zo rfl (zw (zn rfl (rfl) (zk (zR (zo rfl (zc rfl (ok51 x h hf) (zo rfl (zo rfl (zo rfl ?_)))))))))
 refine zo rfl (zo rfl (zw (zq (zR (zo rfl (zo rfl (zw (zn rfl (rfl) (zk (zR (zo rfl ?_)))))))))))
 refine zo rfl (zo rfl (zd rfl rfl (zw (zq (zR (zo rfl (zo rfl (zo rfl (zo rfl ?_)))))))))
 refine zc rfl (ok52s x hr ht) (zo rfl (zo rfl (zo rfl (zo rfl (zo rfl (zd rfl rfl (zo rfl (zo rfl (zw (zR (zo rfl ?_)))))))))))
 refine zw (zb rfl (zR (zo rfl (zo rfl (zw (zn rfl (rfl) (zR (zo rfl (zo rfl ?_)))))))))
 refine zw (zy rfl (rfl) (Sat.skip (nb (nq (zR (zo rfl (zd rfl rfl (zo rfl (zw (Sat.ret ?_))))))))))
 exact ze rfl rfl
 rw [clm_n ht]
 have k52 := ok52 x hr (by omega)
 generalize nrst x = c at k52 ⊢
 refine zz 50 Tryz.func24 rfl Tryz.call24 rfl (zR (zo rfl (zo rfl (zo rfl (zw (zq (zR (zo rfl (zc rfl (ok46 x h) ?_)))))))))
 refine zo rfl (zw (zn rfl (rfl) (zk (zR (zo rfl (zc rfl (ok51 x h hf) (zo rfl (zo rfl (zo rfl ?_)))))))))
 refine zo rfl (zo rfl (zw (zq (zR (zo rfl (zo rfl (zw (zn rfl (rfl) (zk (zR (zo rfl ?_)))))))))))
 refine zo rfl (zo rfl (zd rfl rfl (zw (zq (zR (zo rfl (zo rfl (zo rfl (zo rfl ?_)))))))))
 refine zc rfl k52 (zo rfl (zo rfl (zo rfl (zo rfl (zo rfl (zd rfl rfl (zo rfl (zo rfl (zw (zR (zo rfl ?_)))))))))))
 refine zw (zb rfl (zR (zo rfl (zo rfl (zw (zy rfl (rfl) (Sat.dwN tabOk mixed [7] [6, 8, 10] [0, 1, 2, 3, 4, 5, 6, 7, 8, 9, 10] (by decide) (by kernel_rfl) (walk_sil rfl rfl (zO (fun _ => rfl) ?_)))))))))
 refine walk_sil rfl rfl (zO (fun _ => rfl) ?_)
 refine walk_sil rfl rfl (zO (fun _ => rfl) ?_)
 refine walk_sil rfl rfl (zO (fun _ => rfl) ?_)
 refine walk_sil rfl rfl (zO (fun _ => rfl) ?_)
 refine walk_sil rfl rfl (zO (fun _ => rfl) ?_)
 refine walk_eff rfl rfl (step_do rfl rfl ⟨fun _ => ovr_eq ⟨rfl, trivial⟩, ?_⟩)
 refine walk_sil rfl rfl (zO (fun _ => rfl) ?_)
 refine walk_eff rfl rfl (step_do rfl rfl ⟨fun _ => ovr_eq ⟨rfl, trivial⟩, ?_⟩)
 refine walk_sil rfl rfl (zO (fun _ => rfl) ?_)
 refine walk_eff rfl rfl (step_do rfl rfl ⟨lastly_no (by kernel_rfl), ?_⟩)
 refine kn (nb (nq (zq (Sat.weak (σ' := ⟨50, lk [(2, .ptr 2 0), (6, .ptr 6 0)], lkO [(2, some ⟨.cells [.nil, .v (vi 0), .v (vi 0), .v (vi 0)], false⟩), (6, some ⟨.cells ((⟨ofs x, c.i, c.j, c.m⟩ : Clm).c.map .v), false⟩)]⟩) (zV ⟨rfl, rfl, trivial⟩ ⟨so rfl, so rfl, trivial⟩) (zr (zo rfl (zd rfl rfl (zo rfl (zw (Sat.ret ?_))))))))))
 exact ze rfl rfl
theorem ofs_len (x : Det) : (ofs x).length = x.dems.length := by simp [ofs]
theorem ofs_gt {x : Det} {i : Nat} (h : i < x.dems.length) : gt (ofs x) i = ofF x i := by
 have := rangeM_gt (f := fun d : Nat => ofF x d) (n := x.dems.length) (k := (i : Int)) (by omega) (by omega)
 simpa [ofs] using this
theorem ok26 (x : Det) (h : detOk x = true) (hf : NoFull x) : Ok Tryz.prog 26 [.ag x.c, .ag (clm x).c] (.tp [.bool true, vi 0]) := by
 have hr := (detP h).runs
 have hdl := (demsOk_parts (detP h).dems).1
 have hol := ofs_len x
 have k24 := ok24 x h hf
 have hso : ∀ i : Nat, i < (ofs x).length → stepsOk (gt (ofs x) i) = true := fun i hi => by
   rw [ofs_gt (by omega)]; exact ofF_ok h (hf i (by omega))
 have k60 := ok60 (ofs x) (by omega) fun i hi => by have := (stepsP (hso i hi)).len; omega
 by_cases ht : total x.runs < 2
 rw [clm_s ht] at k24 ⊢
 have k59 := ok59 ⟨ofs x, -1, -1, -1⟩ (by show (ofs x).length ≤ 20; omega) hso (.inl rfl)
 refine zz 78 Tryz.func26 rfl Tryz.call26 rfl (zR (zo rfl (zo rfl (zo rfl (zo rfl (zw (zq (zR (zo rfl ?_)))))))))
 refine zc rfl (ok46 x h) (zo rfl (zo rfl (zF rfl (fun h1 => ?_) (fun h1 => ?_))))
 refine zO (fun _ => rfl) (step_sil (sil_on rfl h1 (sil_call rfl rfl (fun _ => rfl) (fun _ => rfl) (k59) ?_)))
 refine zh rfl h1 rfl (zP rfl h1 rfl (zw (zn rfl (by first | rfl | simp) (zk (zR (zo rfl (zc rfl k24 (zo rfl (zo rfl ?_)))))))))
 refine zo rfl (zo rfl (zd rfl rfl (zo rfl (zw (zq (zR (zo rfl (zo rfl (zw (zn rfl (by first | rfl | simp) ?_))))))))))
 refine zk (zq (zR (zo rfl (zo rfl (zo rfl (zo rfl (zc rfl k60 (zo rfl (zo rfl ?_)))))))))
 refine zF rfl (fun h2 => ?_) (fun h2 => ?_)
 refine zO (fun _ => rfl) (zh rfl h2 rfl (zh rfl h2 rfl (zh rfl h2 rfl (zh rfl h2 rfl (zP rfl h2 rfl (zw (zn rfl (by first | rfl | simp) (zk (zq (zR (zo rfl ?_)))))))))))
 refine zc rfl (ok61 ⟨ofs x, -1, -1, -1⟩) (zw (zy rfl (by first | rfl | simp) (zR (zo rfl (zc rfl (ok61 ⟨ofs x, -1, -1, -1⟩) (zo rfl (zo rfl (zw (Sat.ret ?_)))))))))
 exact rq (ze rfl (by first | rfl | (exfalso; simp_all; done)))
 refine zf rfl h2 (zf rfl h2 (zf rfl h2 (zf rfl h2 (zp rfl h2 rfl (zw (zy rfl rfl (zR (zo rfl (zo rfl ?_)))))))))
 exact zw (Sat.ret (rq (ze rfl (by first | rfl | (exfalso; simp_all; done)))))
 refine zf rfl h1 (zf rfl h1 (zp rfl h1 rfl (zw (zy rfl rfl (zR (zo rfl (zo rfl (zw (Sat.ret ?_)))))))))
 exact rq (ze rfl (by first | rfl | (exfalso; simp_all; done)))
 rw [clm_n ht] at k24 ⊢
 obtain ⟨n1, n2, n3, n4, n5, n6⟩ := nrst_ok hr (by omega)
 generalize nrst x = c at *
 have htl := total_le hr
 have hnn : (⟨ofs x, c.i, c.j, c.m⟩ : Clm).none = false := by
   have : (c.i == -1) = false := by simp only [beq_eq_false_iff_ne, ne_eq]; omega
   simp only [Clm.none, this, Bool.false_and]
 have k61 := ok61 ⟨ofs x, c.i, c.j, c.m⟩
 rw [hnn] at k61
 have k59 := ok59 ⟨ofs x, c.i, c.j, c.m⟩ (by show (ofs x).length ≤ 20; omega) hso (.inr ⟨hnn, n1, n2, by show c.j < 2000; omega, n5, by show c.m ≤ 1125899906842624; omega⟩)
 refine zz 78 Tryz.func26 rfl Tryz.call26 rfl (zR (zo rfl (zo rfl (zo rfl (zo rfl (zw (zq (zR (zo rfl ?_)))))))))
 refine zc rfl (ok46 x h) (zo rfl (zo rfl (zF rfl (fun h1 => ?_) (fun h1 => ?_))))
 refine zO (fun _ => rfl) (step_sil (sil_on rfl h1 (sil_call rfl rfl (fun _ => rfl) (fun _ => rfl) (k59) ?_)))
 refine zh rfl h1 rfl (zP rfl h1 rfl (zw (zn rfl (by first | rfl | (simp; done) | (show decide (c.j ≥ total x.runs) = false; exact decide_eq_false (by omega))) (zk (zR (zo rfl (zc rfl k24 (zo rfl (zo rfl ?_)))))))))
 refine zo rfl (zo rfl (zd rfl rfl (zo rfl (zw (zq (zR (zo rfl (zo rfl (zw (zn rfl (by first | rfl | (simp; done) | (show decide (c.j ≥ total x.runs) = false; exact decide_eq_false (by omega))) ?_))))))))))
 refine zk (zq (zR (zo rfl (zo rfl (zo rfl (zo rfl (zc rfl k60 (zo rfl (zo rfl ?_)))))))))
 refine zF rfl (fun h2 => ?_) (fun h2 => ?_)
 refine zO (fun _ => rfl) (zh rfl h2 rfl (zh rfl h2 rfl (zh rfl h2 rfl (zh rfl h2 rfl (zP rfl h2 rfl (zw (zn rfl (by first | rfl | (simp; done) | (show decide (c.j ≥ total x.runs) = false; exact decide_eq_false (by omega))) (zk (zq (zR (zo rfl ?_)))))))))))
 refine zc rfl k61 (zw (zn rfl (by first | rfl | (simp; done) | (show decide (c.j ≥ total x.runs) = false; exact decide_eq_false (by omega))) (zk (zq (zR (zo rfl (zo rfl (zo rfl (zo rfl ?_)))))))))
 refine zc rfl (ok62 _ _ hr) (zo rfl (zo rfl (zo rfl (zo rfl (zo rfl (zw (zR (zo rfl (zo rfl ?_)))))))))
 refine zo rfl (zF rfl (fun h3 => ?_) (fun h3 => ?_))
 refine zO (fun _ => rfl) (zh rfl h3 rfl (zh rfl h3 rfl (zh rfl h3 rfl (zP rfl h3 rfl (zw (zn rfl (by first | rfl | (simp; done) | (show decide (c.j ≥ total x.runs) = false; exact decide_eq_false (by omega))) (zk (zR (zo rfl ?_)))))))))
 refine zo rfl (zo rfl (zo rfl (zo rfl (zo rfl (zo rfl (zo rfl (zc rfl (ok63 x hr c.i c.j ⟨n1, by omega⟩ ⟨by omega, n3⟩ (by omega)) (zo rfl (zo rfl ?_)))))))))
 refine zo rfl (zo rfl (zo rfl (zw (zR (zo rfl (zo rfl (zo rfl (zo rfl (zo rfl ?_)))))))))
 exact zo rfl (zo rfl (zw (Sat.ret (ze rfl (by first | rfl | (exfalso; simp_all; done) | (exfalso; have q := of_decide_eq_true (by assumption); omega) | (rw [← n4]; simp))))))
 refine zf rfl h3 (zf rfl h3 (zf rfl h3 (zp rfl h3 rfl (zw (zy rfl rfl (zR (zo rfl (zo rfl (zo rfl ?_)))))))))
 exact zw (Sat.ret (rq (ze rfl (by first | rfl | (exfalso; simp_all; done) | (exfalso; have q := of_decide_eq_true (by assumption); omega) | (rw [← n4]; simp)))))
 refine zf rfl h2 (zf rfl h2 (zf rfl h2 (zf rfl h2 (zp rfl h2 rfl (zw (zy rfl rfl (zR (zo rfl (zo rfl ?_)))))))))
 exact zw (Sat.ret (rq (ze rfl (by first | rfl | (exfalso; simp_all; done) | (exfalso; have q := of_decide_eq_true (by assumption); omega) | (rw [← n4]; simp)))))
 refine zf rfl h1 (zf rfl h1 (zp rfl h1 rfl (zw (zy rfl rfl (zR (zo rfl (zo rfl (zw (Sat.ret ?_)))))))))
 exact rq (ze rfl (by first | rfl | (exfalso; simp_all; done) | (exfalso; have q := of_decide_eq_true (by assumption); omega) | (rw [← n4]; simp)))
def vC (v : V) : List V := [v]
theorem ok168_0 (l : List (V)) (hl : l.length ≤ 100000) (g : Nat) (p : Nat → Bool) (h : ∀ i : Nat, i < l.length → Ok Tryz.prog g [gt l i] (.bool (p i))) : Ok Tryz.prog 168 [.sl (l.map vC), .fn g []] (vi (findN l.length p)) := by
 refine zz 19 Tryz.func168 rfl Tryz.call168 rfl (zR (zo rfl (zw (zq (zR (zo rfl (zo rfl (zo rfl (zw (Sat.loop' (fun z => ∀ j : Nat, j < z → p j = false) (fun i => ⟨19, lk [(0, .v (.sl (l.map vC))), (1, .v (.fn g [])), (7, .v (vi (l.map vC).length)), (8, .v (vi i))], lk []⟩) (l.length) ?_ (all_zero) (fun i hi hI => ?_) (fun hI => ?_)))))))))))
 exact zv rfl rfl rfl rfl
 refine zR (zo rfl (zw (zq (zy rfl (by simp [hi]) (zk (zq (zb rfl (zR (zo rfl ?_)))))))))
 refine zo rfl (zw (zR (zo rfl (zo rfl (zo rfl (zi rfl rfl rfl rfl rfl (zo rfl (zc rfl (h i hi) (zw (zC rfl (fun h1 => ?_) (fun h1 => ?_)))))))))))
 exact zR (zo rfl (zo rfl (zw (Sat.ret (rb (rq (rs (rq (ze rfl (by first | exact vint (findN_eq hi (by assumption) hI).symm | exact vint (findN_none hI).symm))))))))))
 exact Sat.skip (nb (nq (zr (za rfl (zo rfl (wn (ns (all_step hI (by assumption)) (zv rfl rfl rfl rfl))))))))
 refine zR (zo rfl (zw (zq (zn rfl (by simp) (Sat.exit (xq (xe (nq (zR (zo rfl ?_))))))))))
 exact zw (Sat.ret (ze rfl (by first | exact vint (findN_eq hi (by assumption) hI).symm | exact vint (findN_none hI).symm)))
theorem ok110_0 (l : List (V)) (hl : l.length ≤ 100000) (g : Nat) (p : Nat → Bool) (h : ∀ i : Nat, i < l.length → Ok Tryz.prog g [gt l i] (.bool (p i))) : Ok Tryz.prog 110 [.sl (l.map vC), .fn g []] (.bool (decide (findN l.length p ≥ 0))) := by
 refine zz 9 Tryz.func110 rfl Tryz.call110 rfl (zR (zo rfl (zw (zR (zo rfl (zo rfl (zc rfl (ok168_0 l hl g p h) (zo rfl (zo rfl ?_)))))))))
 exact zw (Sat.ret (ze rfl rfl))
theorem ok168_1 (l : List (V)) (hl : l.length ≤ 100000) (g : Nat) (c : V) (p : Nat → Bool) (h : ∀ i : Nat, i < l.length → Ok Tryz.prog g [gt l i, c] (.bool (p i))) : Ok Tryz.prog 168 [.sl (l.map vC), .fn g [c]] (vi (findN l.length p)) := by
 refine zz 19 Tryz.func168 rfl Tryz.call168 rfl (zR (zo rfl (zw (zq (zR (zo rfl (zo rfl (zo rfl (zw (Sat.loop' (fun z => ∀ j : Nat, j < z → p j = false) (fun i => ⟨19, lk [(0, .v (.sl (l.map vC))), (1, .v (.fn g [c])), (7, .v (vi (l.map vC).length)), (8, .v (vi i))], lk []⟩) (l.length) ?_ (all_zero) (fun i hi hI => ?_) (fun hI => ?_)))))))))))
 exact zv rfl rfl rfl rfl
 refine zR (zo rfl (zw (zq (zy rfl (by simp [hi]) (zk (zq (zb rfl (zR (zo rfl ?_)))))))))
 refine zo rfl (zw (zR (zo rfl (zo rfl (zo rfl (zi rfl rfl rfl rfl rfl (zo rfl (zc rfl (h i hi) (zw (zC rfl (fun h1 => ?_) (fun h1 => ?_)))))))))))
 exact zR (zo rfl (zo rfl (zw (Sat.ret (rb (rq (rs (rq (ze rfl (by first | exact vint (findN_eq hi (by assumption) hI).symm | exact vint (findN_none hI).symm))))))))))
 exact Sat.skip (nb (nq (zr (za rfl (zo rfl (wn (ns (all_step hI (by assumption)) (zv rfl rfl rfl rfl))))))))
 refine zR (zo rfl (zw (zq (zn rfl (by simp) (Sat.exit (xq (xe (nq (zR (zo rfl ?_))))))))))
 exact zw (Sat.ret (ze rfl (by first | exact vint (findN_eq hi (by assumption) hI).symm | exact vint (findN_none hI).symm)))
theorem ok110_1 (l : List (V)) (hl : l.length ≤ 100000) (g : Nat) (c : V) (p : Nat → Bool) (h : ∀ i : Nat, i < l.length → Ok Tryz.prog g [gt l i, c] (.bool (p i))) : Ok Tryz.prog 110 [.sl (l.map vC), .fn g [c]] (.bool (decide (findN l.length p ≥ 0))) := by
 refine zz 9 Tryz.func110 rfl Tryz.call110 rfl (zR (zo rfl (zw (zR (zo rfl (zo rfl (zc rfl (ok168_1 l hl g c p h) (zo rfl (zo rfl ?_)))))))))
 exact zw (Sat.ret (ze rfl rfl))
theorem ok111_2 (f : Nat) (a b : V) (r : Bool) (h : Ok Tryz.prog f [a, b] (.bool r)) : Ok Tryz.prog 111 [.fn f [a, b]] (.bool !r) := by
 refine zz 6 Tryz.func111 rfl Tryz.call111 rfl (zR (zo rfl (zw (zR (zo rfl (zc rfl h (zo rfl (zo rfl (zw (Sat.ret ?_))))))))))
 exact ze rfl rfl
theorem ok111_3 (f : Nat) (a b c : V) (r : Bool) (h : Ok Tryz.prog f [a, b, c] (.bool r)) : Ok Tryz.prog 111 [.fn f [a, b, c]] (.bool !r) := by
 refine zz 6 Tryz.func111 rfl Tryz.call111 rfl (zR (zo rfl (zw (zR (zo rfl (zc rfl h (zo rfl (zo rfl (zw (Sat.ret ?_))))))))))
 exact ze rfl rfl
theorem ok58 (l : List V) (hl : l.length ≤ 100000) (p : Nat → Bool) (h : ∀ i : Nat, i < l.length → Ok Tryz.prog 111 [gt l i] (.bool (p i))) : Ok Tryz.prog 58 [.sl (l.map vC)] (.bool !decide (findN l.length p ≥ 0)) := by
 refine zz 6 Tryz.func58 rfl Tryz.call58 rfl (zR (zo rfl (zw (zR (zo rfl (zc rfl (ok110_0 l hl 111 p h) (zo rfl (zo rfl (zw (Sat.ret ?_))))))))))
 exact ze rfl rfl
theorem ok53 (x : Det) (l : List (List Stp)) (h : l.length = x.dems.length) : Ok Tryz.prog 53 [.cp [.sl (l.map slC)] 0, .cp x.c 0] (.bool true) := by
 refine zz 9 Tryz.func53 rfl Tryz.call53 rfl (zR (zo rfl (zw (zR (zo rfl (zo rfl (zo rfl (zo rfl (zo rfl ?_)))))))))
 exact zo rfl (zo rfl (zw (Sat.ret (ze rfl (by simp [h])))))
theorem ok54 (x : Det) (h : detOk x = true) (hf : NoFull x) (d : Nat) (hd : d < x.dems.length) : Ok Tryz.prog 54 [.cp x.c 0, .cp [vi d] 0, .cp [.sl ((ofs x).map slC)] 0] (.bool true) := by
 have hol := ofs_len x
 have hso : stepsOk (ofF x d) = true := ofF_ok h (hf d hd)
 have hsl := (stepsP hso).len
 have e := ofs_gt hd
 refine zz 22 Tryz.func54 rfl Tryz.call54 rfl (zR (zo rfl (zw (zR (zo rfl (zo rfl (zc rfl (ok55 x h d (by omega) (by omega) (hf d hd)) (zo rfl (zo rfl ?_)))))))))
 refine zo rfl (zo rfl (zo rfl (zw (zR (zo rfl (zo rfl (zo rfl (zT rfl (fun h1 => ?_) (fun h1 => ?_)))))))))
 refine zO (fun _ => rfl) (zh rfl h1 rfl (zh rfl h1 rfl (step_sil (sil_on rfl h1 (sil_index rfl rfl rfl rfl (by omega) (gt_idx (by omega) (by omega)) rfl ?_)))))
 refine zh rfl h1 rfl (step_sil (sil_on rfl h1 (sil_call rfl rfl (fun _ => rfl) (fun _ => rfl) ((by rw [e]; exact ok56 (ofF x d) (by omega))) ?_)))
 exact zp rfl h1 rfl (zo rfl (zw (Sat.ret (ze rfl (by first | rfl | (exfalso; simp_all; done))))))
 exact zt rfl h1 (zt rfl h1 (zt rfl h1 (zt rfl h1 (zt rfl h1 (zP rfl h1 rfl (zo rfl (zw (Sat.ret (ze rfl (by first | rfl | (exfalso; simp_all; done)))))))))))
theorem ok57 (x : Det) (h : detOk x = true) (hf : NoFull x) (d : Nat) (hd : d < x.dems.length) : Ok Tryz.prog 57 [.cp x.c 0, .cp [vi d] 0] (.bool (decide (spans x d = []))) := by
 rcases hs : spans x d with _ | ⟨s, r⟩
 rw [decide_eq_true rfl]
 refine zz 13 Tryz.func57 rfl Tryz.call57 rfl (zR (zo rfl (zw (zR (zo rfl (zo rfl (zc rfl (ok22n x h d (by omega) (by omega) (hf d hd) hs) (zo rfl (zo rfl ?_)))))))))
 refine zo rfl (zo rfl (zo rfl (zw (zR (zo rfl (zo rfl (zo rfl (zw (Sat.ret ?_)))))))))
 exact ze rfl rfl
 rw [decide_eq_false (by simp)]
 refine zz 13 Tryz.func57 rfl Tryz.call57 rfl (zR (zo rfl (zw (zR (zo rfl (zo rfl (zc rfl (ok22 x h d (by omega) (by omega) (hf d hd) s r hs) (zo rfl (zo rfl ?_)))))))))
 refine zo rfl (zo rfl (zo rfl (zw (zR (zo rfl (zo rfl (zo rfl (zw (Sat.ret ?_)))))))))
 exact ze rfl rfl
def vrF (x : Det) (i : Nat) : V := if i = 0 then .fn 53 [.cp [.sl ((ofs x).map slC)] 0, .cp x.c 0]
  else if i % 2 = 1 then .fn 54 [.cp x.c 0, .cp [vi (((i - 1) / 2 : Nat) : Int)] 0, .cp [.sl ((ofs x).map slC)] 0] else .fn 57 [.cp x.c 0, .cp [vi (((i - 2) / 2 : Nat) : Int)] 0]
def vrs (x : Det) (n : Nat) : List V := (List.range (2 * n + 1)).map (vrF x)
def vrP (x : Det) (i : Nat) : Bool := if i = 0 then false else if i % 2 = 1 then false else !decide (spans x (((i - 2) / 2 : Nat) : Int) = [])
theorem vrs_succ (x : Det) (n : Nat) : (vrs x n).map vC ++ [[.fn 54 [.cp x.c 0, .cp [vi (n : Int)] 0, .cp [.sl ((ofs x).map slC)] 0]], [.fn 57 [.cp x.c 0, .cp [vi (n : Int)] 0]]] = (vrs x (n + 1)).map vC := by
 have e : vrs x (n + 1) = vrs x n ++ [vrF x (2 * n + 1), vrF x (2 * n + 2)] := by
   unfold vrs
   rw [show 2 * (n + 1) + 1 = (2 * n + 2) + 1 by omega, rangeM_snoc, show 2 * n + 2 = (2 * n + 1) + 1 by omega, rangeM_snoc, List.append_assoc]; rfl
 have e1 : vrF x (2 * n + 1) = .fn 54 [.cp x.c 0, .cp [vi (n : Int)] 0, .cp [.sl ((ofs x).map slC)] 0] := by
   unfold vrF
   rw [if_neg (by omega), if_pos (by omega), show (2 * n + 1 - 1) / 2 = n by omega]
 have e2 : vrF x (2 * n + 2) = .fn 57 [.cp x.c 0, .cp [vi (n : Int)] 0] := by
   unfold vrF
   rw [if_neg (by omega), if_neg (by omega), show (2 * n + 2 - 2) / 2 = n by omega]
 rw [e, List.map_append, e1, e2]; rfl
theorem vrs_len (x : Det) (n : Nat) : (vrs x n).length = 2 * n + 1 := by simp [vrs]
theorem vr_ok (x : Det) (h : detOk x = true) (hf : NoFull x) (i : Nat) (hi : i < (vrs x x.dems.length).length) : Ok Tryz.prog 111 [gt (vrs x x.dems.length) i] (.bool (vrP x i)) := by
 rw [vrs_len] at hi
 have e := rangeM_gt (f := vrF x) (n := 2 * x.dems.length + 1) (k := (i : Int)) (by omega) (by omega)
 have e2 : gt (vrs x x.dems.length) i = vrF x i := by simpa [vrs] using e
 rw [e2]
 unfold vrF vrP
 split
 · exact ok111_2 _ _ _ true (ok53 x (ofs x) (ofs_len x))
 · split
   · exact ok111_3 _ _ _ _ true (ok54 x h hf ((i - 1) / 2) (by omega))
   · exact ok111_2 _ _ _ _ (ok57 x h hf ((i - 2) / 2) (by omega))
theorem ok25 (x : Det) (h : detOk x = true) (hf : NoFull x) : Ok Tryz.prog 25 [.ag x.c, .sl ((ofs x).map slC)] (.tp [.bool (!decide (findN (vrs x x.dems.length).length (vrP x) ≥ 0)), vi 0]) := by
 have hdl := (demsOk_parts (detP h).dems).1
 have hvl := vrs_len x x.dems.length
 refine zz 27 Tryz.func25 rfl Tryz.call25 rfl (zR (zo rfl (zo rfl (zo rfl (zo rfl (zw (zq (zR (zo rfl ?_)))))))))
 refine zc rfl (ok46 x h) (zo rfl (zw (zn rfl (rfl) (zk (zR (zo rfl (zo rfl (zo rfl (zw (zq (zR (zo rfl ?_))))))))))))
 refine zo rfl (zo rfl (zo rfl (zw (Sat.loop' (fun _ => True) (fun i => ⟨27, lk [(2, .ptr 2 0), (3, .ptr 3 0), (6, slD 12 1 ((vrs x i).map vC)), (14, .v (.sl (x.dems.map Dem.c))), (15, .v (vi (x.dems.map Dem.c).length)), (16, .v (vi i))], lkO [(2, some ⟨.cells (x.c.map .v), true⟩), (3, some ⟨.cells [.v (.sl ((ofs x).map slC))], true⟩), (12, slS 1 ((vrs x i).map vC))]⟩) (x.dems.length) ?_ (trivial) (fun i hi hI => ?_) (fun hI => ?_)))))
 exact zV ⟨rfl, rfl, rfl, rfl, rfl, rfl, trivial⟩ ⟨so rfl, so rfl, so rfl, trivial⟩
 refine zR (zo rfl (zw (zq (zy rfl (by simp [hi]) (zk (zq (zb rfl (zR (zo rfl ?_)))))))))
 refine zo rfl (zd rfl rfl (zw (zr (zo rfl (zo rfl (zo rfl (zo rfl (step_app (n := 12) (rows := (vrs x i).map vC) (new := [[.fn 54 [.cp x.c 0, .cp [vi (i : Int)] 0, .cp [.sl ((ofs x).map slC)] 0]], [.fn 57 [.cp x.c 0, .cp [vi (i : Int)] 0]]]) rfl (.inr (by simp [vrs])) rfl rfl rfl rfl rfl (by simp) rfl (by have := vrs_len x i; simp; omega) rfl (zo rfl ?_)))))))))
 exact wn (nb (nq (zr (za rfl (zo rfl (wn (ns trivial (zV ⟨rfl, rfl, slD_eq rfl (vrs_succ x i), rfl, rfl, rfl, trivial⟩ ⟨so rfl, so rfl, soA rfl (vrs_succ x i), trivial⟩))))))))
 refine zR (zo rfl (zw (zq (zn rfl (by simp) (Sat.exit (xq (xe (nq (Sat.pubS 6 rfl rfl ?_)))))))))
 exact zR (zo rfl (zc rfl (ok58 (vrs x x.dems.length) (by omega) (vrP x) (vr_ok x h hf)) (zo rfl (zo rfl (zw (Sat.ret (ze rfl rfl)))))))
end Go.Proofs.YtamjajacnfmgeaaGreat
namespace Go.Proofs.YtamjajacnfmgeaaGreat
open Go Go.RowKit
set_option maxHeartbeats 1000000
def stF (l : List Stp) (x : Int) : Int := l.foldl (fun v s => if s.fr ≤ x then s.va else v) 0
theorem stF_nil (x : Int) : stF [] x = 0 := rfl
theorem stF_snoc (l : List Stp) (s : Stp) (x : Int) : stF (l ++ [s]) x = if s.fr ≤ x then s.va else stF l x := by
 simp only [stF, List.foldl_append, List.foldl_cons, List.foldl_nil]
theorem stF_take {l : List Stp} {n : Nat} (h : n < l.length) (x : Int) : stF (l.take (n + 1)) x = if (gt l n).fr ≤ x then (gt l n).va else stF (l.take n) x := by
 rw [take_snoc h, stF_snoc]
theorem stF_at {l : List Stp} (hp : StepsP l) (x : Int) {k : Nat} (hk : k ≤ l.length) (h1 : ∀ i : Nat, i < k → (gt l i).fr ≤ x) (h2 : k < l.length → x < (gt l k).fr) : stF l x = if k = 0 then 0 else (gt l ((k : Int) - 1)).va := by
 have hlo : ∀ n : Nat, n ≤ k → stF (l.take n) x = if n = 0 then 0 else (gt l ((n : Int) - 1)).va := by
   intro n
   induction n with
   | zero => intro _; rfl
   | succ n ih =>
     intro hn
     rw [stF_take (by omega), if_pos (h1 n (by omega)), if_neg (by omega)]
     congr 2; omega
 have hhi : ∀ d : Nat, k + d ≤ l.length → stF (l.take (k + d)) x = stF (l.take k) x := by
   intro d
   induction d with
   | zero => intro _; rfl
   | succ d ih =>
     intro hd
     rw [show k + (d + 1) = (k + d) + 1 by omega, stF_take (by omega), if_neg, ih (by omega)]
     have := h2 (by omega)
     have := hp.mono (show k ≤ k + d by omega) (by omega)
     omega
 have := hhi (l.length - k) (by omega)
 rw [show k + (l.length - k) = l.length by omega, List.take_length] at this
 rw [this, hlo k (Nat.le_refl _)]
theorem stepAt_eq {l : List Stp} (hp : StepsP l) (x : Int) : stepAt l x = stF l x := by
 obtain ⟨a, b, c, d⟩ := srch_spec l.length (by omega) fun i => decide ((gt l i).fr > x)
 have := stF_at hp x (k := (stepI l x).toNat) (by unfold stepI; omega) (fun i hi => by
   have := c i (by unfold stepI at hi; omega)
   simp only [decide_eq_false_iff_not] at this; omega) fun hlt => by
   have := d (by unfold stepI at hlt; omega)
   simp only [decide_eq_true_eq] at this
   unfold stepI; omega
 rw [this]
 unfold stepAt
 have e : (((stepI l x).toNat : Nat) : Int) = stepI l x := by unfold stepI; omega
 rw [e]
 by_cases hz : stepI l x = 0
 · rw [if_pos hz, if_pos (by omega)]
 · rw [if_neg hz, if_neg (by omega)]
theorem stF_const {a b : Int} (hab : a ≤ b) : ∀ (l : List Stp) , (∀ s ∈ l, ¬(a < s.fr ∧ s.fr ≤ b)) → stF l a = stF l b := by
 have : ∀ (l : List Stp) (v : Int), (∀ s ∈ l, ¬(a < s.fr ∧ s.fr ≤ b)) → l.foldl (fun v s => if s.fr ≤ a then s.va else v) v = l.foldl (fun v s => if s.fr ≤ b then s.va else v) v := by
   intro l
   induction l with
   | nil => intro v _; rfl
   | cons s l ih =>
     intro v h
     simp only [List.foldl_cons]
     have h1 := h s (List.mem_cons_self ..)
     have e : (s.fr ≤ a) ↔ (s.fr ≤ b) := by omega
     have e2 : (if s.fr ≤ a then s.va else v) = if s.fr ≤ b then s.va else v := by
       by_cases h2 : s.fr ≤ a
       · rw [if_pos h2, if_pos (e.1 h2)]
       · rw [if_neg h2, if_neg (fun h3 => h2 (e.2 h3))]
     rw [e2]
     exact ih _ fun t ht => h t (List.mem_cons_of_mem _ ht)
 intro l h
 exact this l 0 h
theorem stF_zero {a : Int} : ∀ (l : List Stp), (∀ s ∈ l, a < s.fr) → stF l a = 0 := by
 intro l
 unfold stF
 induction l with
 | nil => intro _; rfl
 | cons s l ih =>
   intro h
   have h1 := h s (List.mem_cons_self ..)
   rw [List.foldl_cons, if_neg (by omega)]
   exact ih fun t ht => h t (List.mem_cons_of_mem _ ht)
theorem stF_last {l : List Stp} {n : Nat} (hn : n < l.length) {x : Int} (h : (gt l n).fr ≤ x) : stF (l.take (n + 1)) x = (gt l n).va := by rw [stF_take hn, if_pos h]
theorem stF_short {l : List Stp} (hp : StepsP l) (x : Int) : ∀ n : Nat, n ≤ l.length → stF (shortN l n) x = stF (l.take n) x
  | 0, _ => rfl
  | n + 1, hn => by
    have ih := stF_short hp x n (by omega)
    simp only [shortN]
    split
    · rw [stF_snoc, ih, stF_take (by omega)]
    · rename_i hv
      rw [ih, stF_take (by omega)]
      split
      · rename_i hx
        have hv : (gt l n).va = prevV l n := by simpa using hv
        rw [hv]
        cases n with
        | zero => rfl
        | succ n =>
          have := hp.lt (show n < n + 1 by omega) (by omega)
          rw [stF_last (by omega) (Int.le_trans (Int.le_of_lt this) hx)]
          rfl
      · rfl
theorem stF_raw {x : Det} {d p : Int} : ∀ n : Nat, n ≤ (cps x d).length → stF (rawN x d n) p = stF ((List.range n).map fun k : Nat => (⟨gt (cps x d) k, valF (supF x d) (gt (cps x d) k)⟩ : Stp)) p
  | 0, _ => rfl
  | n + 1, hn => by
    have ih := stF_raw (x := x) (d := d) (p := p) n (by omega)
    rw [rangeM_snoc, stF_snoc]
    simp only [rawN]
    split
    · rw [stF_snoc, ih]
    · rename_i hv
      rw [ih]
      have hv : valF (supF x d) (gt (cps x d) n) = lastN x d n := by simpa using hv
      split
      · rename_i hx
        rw [hv]
        cases n with
        | zero => rfl
        | succ n =>
          have h1 := gt_pair (cps_lt x d) (i := n) (j := n + 1) (by omega) (by omega)
          rw [rangeM_snoc, stF_snoc, if_pos (Int.le_trans (Int.le_of_lt h1) hx)]
          rfl
      · rfl
theorem valC_const {c : Chn} {a b : Int} (hab : a ≤ b) (h1 : ¬(a < c.lo ∧ c.lo ≤ b)) (h2 : ¬(a < c.hi ∧ c.hi ≤ b)) : valC a c = valC b c := by
 unfold valC
 have e : (decide (c.lo ≤ a) && decide (a < c.hi)) = (decide (c.lo ≤ b) && decide (b < c.hi)) := by
   have e1 : decide (c.lo ≤ a) = decide (c.lo ≤ b) := decide_eq_decide.2 (by omega)
   have e2 : decide (a < c.hi) = decide (b < c.hi) := decide_eq_decide.2 (by omega)
   rw [e1, e2]
 rw [e]
theorem valF_const {x : Det} {d a b : Int} (hab : a ≤ b) (h : ∀ q ∈ cps x d, ¬(a < q ∧ q ≤ b)) : valF (supF x d) a = valF (supF x d) b := by
 rw [valF_sum, valF_sum]
 congr 1
 refine List.map_congr_left fun c hc => valC_const hab (h _ (cps_mem.2 ⟨c, hc, .inl rfl⟩)) (h _ (cps_mem.2 ⟨c, hc, .inr rfl⟩))
theorem valF_zero {x : Det} {d a : Int} (h : ∀ q ∈ cps x d, a < q) : valF (supF x d) a = 0 := by
 rw [valF_sum]
 have : (supF x d).map (valC a) = (supF x d).map fun _ => 0 := List.map_congr_left fun c hc => by
   have := h _ (cps_mem.2 ⟨c, hc, .inl rfl⟩)
   unfold valC
   rw [decide_eq_false (by omega)]; rfl
 rw [this]
 induction supF x d with
 | nil => rfl
 | cons c l ih => simp only [List.map_cons, List.sum_cons, ih]; rfl
theorem last_le {l : List Int} (hl : l.Pairwise (· < ·)) (p : Int) : (∀ q ∈ l, p < q) ∨ ∃ k : Nat, k < l.length ∧ gt l k ≤ p ∧ ∀ j : Nat, k < j → j < l.length → p < gt l j := by
 have : ∀ n : Nat, n ≤ l.length → (∀ j : Nat, j < n → p < gt l j) ∨ ∃ k : Nat, k < n ∧ gt l k ≤ p ∧ ∀ j : Nat, k < j → j < n → p < gt l j := by
   intro n
   induction n with
   | zero => intro _; exact .inl fun j hj => absurd hj (by omega)
   | succ n ih =>
     intro hn
     by_cases hx : gt l n ≤ p
     · exact .inr ⟨n, by omega, hx, fun j h1 h2 => absurd h1 (by omega)⟩
     · rcases ih (by omega) with h | ⟨k, h1, h2, h3⟩
       · refine .inl fun j hj => ?_
         by_cases e : j = n
         · subst e; omega
         · exact h j (by omega)
       · refine .inr ⟨k, by omega, h2, fun j h4 h5 => ?_⟩
         by_cases e : j = n
         · subst e; omega
         · exact h3 j h4 (by omega)
 rcases this l.length (Nat.le_refl _) with h | h
 · refine .inl fun q hq => ?_
   obtain ⟨k, hk, rfl⟩ := List.mem_iff_getElem.1 hq
   have := h k hk
   rwa [gt_get hk] at this
 · exact .inr h
theorem none_in {l : List Int} (hl : l.Pairwise (· < ·)) {p : Int} {k : Nat} (hk : k < l.length) (h : ∀ j : Nat, k < j → j < l.length → p < gt l j) : ∀ q ∈ l, ¬(gt l k < q ∧ q ≤ p) := by
 intro q hq ⟨h1, h2⟩
 obtain ⟨j, hj, rfl⟩ := List.mem_iff_getElem.1 hq
 rw [← gt_get hj] at h1 h2
 rcases Nat.lt_trichotomy j k with h3 | h3 | h3
 · have := gt_pair hl h3 hk; omega
 · subst h3; omega
 · have := h j h3 hj; omega
theorem stF_full {x : Det} {d p : Int} : stF ((List.range (cps x d).length).map fun k : Nat => (⟨gt (cps x d) k, valF (supF x d) (gt (cps x d) k)⟩ : Stp)) p = valF (supF x d) p := by
 rcases last_le (cps_lt x d) p with h | ⟨k, h1, h2, h3⟩
 · rw [valF_zero h]
   refine stF_zero _ fun s hs => ?_
   obtain ⟨k, hk, rfl⟩ := List.mem_map.1 hs
   exact h _ (gt_mem (by omega) (by simpa using hk))
 · have e := valF_const h2 (none_in (cps_lt x d) h1 h3)
   rw [← e]
   have : ∀ e : Nat, k + 1 + e ≤ (cps x d).length → stF ((List.range (k + 1 + e)).map fun k : Nat => (⟨gt (cps x d) k, valF (supF x d) (gt (cps x d) k)⟩ : Stp)) p = valF (supF x d) (gt (cps x d) k) := by
     intro e
     induction e with
     | zero => intro _; rw [Nat.add_zero, rangeM_snoc, stF_snoc, if_pos h2]
     | succ e ih =>
       intro he
       rw [show k + 1 + (e + 1) = (k + 1 + e) + 1 by omega, rangeM_snoc, stF_snoc, if_neg, ih (by omega)]
       have := h3 (k + 1 + e) (by omega) (by omega)
       simp only; omega
   have h4 := this ((cps x d).length - (k + 1)) (by omega)
   rwa [show k + 1 + ((cps x d).length - (k + 1)) = (cps x d).length by omega] at h4
theorem ofF_val {x : Det} (h : detOk x = true) {d : Int} (hl : (raw x d).length ≤ 200) (p : Int) : stF (ofF x d) p = valF (supF x d) p := by
 unfold ofF
 rw [stF_short (stepsP (raw_ok h hl)) p _ (Nat.le_refl _), List.take_length]
 unfold raw
 rw [stF_raw _ (Nat.le_refl _), stF_full]
end Go.Proofs.YtamjajacnfmgeaaGreat
