/-
  Contracts: chains with their spans and areas in the program. Condition: valid in the reference.
-/
import Derived.Test.YtamjajacnfmgeaaGreatK33
set_option linter.all false
namespace Go.Proofs.YtamjajacnfmgeaaGreat
open Go Go.RowKit
set_option maxHeartbeats 1000000
def cmpI (a b : Int) : Int := if a < b then -1 else if a > b then 1 else 0
theorem ok202 (a : Int) : Ok Tryz.prog 202 [vi a] (.bool false) := by
 refine zz 6 Tryz.func202 rfl Tryz.call202 rfl (zR (zo rfl (zw (zR (zo rfl (zo rfl (zo rfl (zo rfl (zw (Sat.ret ?_))))))))))
 exact ze rfl (by simp)
theorem ok175 (a b : Int) : Ok Tryz.prog 175 [vi a, vi b] (vi (cmpI a b)) := by
 unfold cmpI
 refine zz 20 Tryz.func175 rfl Tryz.call175 rfl (zR (zo rfl (zw (zR (zo rfl (zc rfl (ok202 _) (zo rfl (zw (zR (zo rfl ?_))))))))))
 refine zc rfl (ok202 _) (zo rfl (zw (zq (zR (zo rfl (zw (zn rfl (rfl) (zk (zq (zR (zo rfl ?_)))))))))))
 refine zw (zn rfl (rfl) (zk (zq (zR (zo rfl (zo rfl (zo rfl (zw (zC rfl (fun h1 => ?_) (fun h1 => ?_))))))))))
 exact zR (zo rfl (zw (Sat.ret (rq (ze rfl (by first | (simp_all; done) | (simp_all; rw [if_neg (by omega), if_neg (by omega)])))))))
 refine zk (zq (zR (zo rfl (zo rfl (zo rfl (zw (zC rfl (fun h2 => ?_) (fun h2 => ?_))))))))
 exact zR (zo rfl (zw (Sat.ret (rq (ze rfl (by first | (simp_all; done) | (simp_all; rw [if_neg (by omega), if_neg (by omega)])))))))
 exact zk (zR (zo rfl (zw (Sat.ret (ze rfl (by first | (simp_all; done) | (simp_all; rw [if_neg (by omega), if_neg (by omega)])))))))
def thinN (key : Int → Int) (c : List Int) : Nat → Int
  | 0 => gt c 0
  | n + 1 => if key (gt c ((n + 1 : Nat) : Int)) < key (thinN key c n) then gt c ((n + 1 : Nat) : Int) else thinN key c n
theorem thinN_mem {key : Int → Int} {c : List Int} (h : 0 < c.length) : ∀ n, n < c.length → ∃ k : Nat, k < c.length ∧ thinN key c n = gt c (k : Int)
  | 0, _ => ⟨0, h, rfl⟩
  | n + 1, hn => by
    simp only [thinN]
    split
    · exact ⟨n + 1, hn, rfl⟩
    · exact thinN_mem h n (by omega)
theorem cmpI_neg {a b : Int} (h : decide (cmpI a b < 0) = true) : a < b := by
 unfold cmpI at h
 split at h
 · assumption
 · split at h <;> simp at h
theorem cmpI_not {a b : Int} (h : decide (cmpI a b < 0) = false) : ¬ a < b := by
 intro hlt
 unfold cmpI at h
 rw [if_pos hlt] at h
 simp at h
theorem ok173 (key : Int → Int) (c : List Int) (hl : 0 < c.length) (hl2 : c.length ≤ 100000) (g : Nat) (cap : V) (h : ∀ i j : Nat, i < c.length → j < c.length → Ok Tryz.prog g [vi (gt c i), vi (gt c j), cap] (vi (cmpI (key (gt c i)) (key (gt c j))))) : Ok Tryz.prog 173 [.sl (c.map ic), .fn g [cap]] (vi (thinN key c (c.length - 1))) := by
 have hc : ∀ i k : Nat, i < c.length → k < c.length → Ok Tryz.prog g [vi (gt c i), vi (thinN key c k), cap] (vi (cmpI (key (gt c i)) (key (thinN key c k)))) := fun i k hi hk => by
   obtain ⟨j, hj, e⟩ := thinN_mem (key := key) hl k hk
   rw [e]
   exact h i j hi hj
 refine zz 33 Tryz.func173 rfl Tryz.call173 rfl (zR (zo rfl (zw (zq (zR (zo rfl (zo rfl (zo rfl (zw (zn rfl (by simp; omega) ?_))))))))))
 refine zk (zR (zo rfl (zi rfl rfl rfl rfl rfl (zo rfl (zo rfl (zw (zq (zR (zo rfl ?_)))))))))
 refine zw (Sat.loop' (fun _ => True) (fun i => ⟨33, lk [(0, .v (.sl (c.map ic))), (1, .v (.fn g [cap])), (5, .v (vi (thinN key c i))), (6, .v (vi (i + 1)))], lk []⟩) (c.length - 1) ?_ (trivial) (fun i hi hI => ?_) (fun hI => ?_))
 exact zv rfl rfl rfl rfl
 refine zq (zR (zo rfl (zo rfl (zo rfl (zo rfl (zw (zy rfl (by simp; omega) (zk (zq (zb rfl ?_))))))))))
 refine zR (zo rfl (zo rfl (zo rfl (zi rfl rfl rfl rfl rfl (zo rfl (zo rfl (zc rfl ((show Ok Tryz.prog g [vi (gt c ((i : Int) + 1)), vi (thinN key c i), cap] (vi (cmpI (key (gt c ((i : Int) + 1))) (key (thinN key c i)))) from hc (i + 1) i (by omega) (by omega))) (zo rfl (zw (zC rfl (fun h1 => ?_) (fun h1 => ?_)))))))))))
 refine zr (zo rfl (zo rfl (zi rfl rfl rfl rfl rfl (zo rfl (zo rfl (wn (nb (nq (zr ?_)))))))))
 exact zo rfl (za rfl (zo rfl (wn (ns trivial (weak_of ⟨rfl, rfl, int_eq rfl (by first | (have hlt := cmpI_neg h1; exact (if_pos hlt).symm) | (have hlt := cmpI_not h1; exact (if_neg hlt).symm)), rfl, trivial⟩ trivial rfl rfl)))))
 exact Sat.skip (nb (nq (zr (zo rfl (za rfl (zo rfl (wn (ns trivial (weak_of ⟨rfl, rfl, int_eq rfl (by first | (have hlt := cmpI_neg h1; exact (if_pos hlt).symm) | (have hlt := cmpI_not h1; exact (if_neg hlt).symm)), rfl, trivial⟩ trivial rfl rfl)))))))))
 refine zq (zR (zo rfl (zo rfl (zo rfl (zo rfl (zw (zn rfl (by simp; omega) (Sat.exit (xq ?_)))))))))
 exact xe (nq (zR (zo rfl (zo rfl (zw (Sat.ret (ze rfl rfl)))))))
def szOf (x : Det) (a : Int) : Int := (barAt x.bars x.runs a).size
theorem ok174 (x : Det) (a b : Int) (h0 : 0 ≤ a) (h1 : a < total x.runs) (h2 : 0 ≤ b) (h3 : b < total x.runs) : Ok Tryz.prog 174 [vi a, vi b, .cp [.sl (rodRows x.bars x.runs (total x.runs).toNat)] 0] (vi (cmpI (szOf x a) (szOf x b))) := by
 refine zz 19 Tryz.func174 rfl Tryz.call174 rfl (zR (zo rfl (zw (zq (Sat.dr tabOk mixed (by kernel_rfl) (zO (fun _ => rfl) (zO (fun _ => rfl) (sil_index rfl rfl rfl rfl (by omega) (rodRows_at _ _ (by omega) (by omega)) rfl (zO (fun _ => rfl) ?_)))))))))
 refine zO (fun _ => rfl) (zO (fun _ => rfl) (zO (fun _ => rfl) (zO (fun _ => rfl) (sil_index rfl rfl rfl rfl (by omega) (rodRows_at _ _ (by omega) (by omega)) rfl (zO (fun _ => rfl) (zO (fun _ => rfl) (zO (fun _ => rfl) (sil_call rfl rfl (fun _ => rfl) (fun _ => rfl) (ok175 (szOf x a) (szOf x b)) (zO (fun _ => rfl) ?_)))))))))
 exact sn (nq (Sat.ret (ze rfl rfl)))
def inTot (x : Det) (a : Int) : Prop := 0 ≤ a ∧ a < total x.runs
theorem nxV_in {x : Det} (h : detOk x = true) {a : Int} (hb : nxB x a = true) : inTot x (nxV x a) := by
 obtain ⟨j, h1, h2, h3, h4⟩ := nx_joint h hb
 rw [h3]
 exact (joint_parts h4).2.1
theorem chainF_in {x : Det} (h : detOk x = true) : ∀ (f : Nat) {i : Int}, inTot x i → ∀ a ∈ chainF x f i, inTot x a
  | 0, i, hi, a, ha => by simp [chainF] at ha; subst ha; exact hi
  | f + 1, i, hi, a, ha => by
    simp only [chainF] at ha
    split at ha
    · rename_i hb
      rcases List.mem_cons.1 ha with rfl | ha
      · exact hi
      · exact chainF_in h f (nxV_in h hb) a ha
    · simp at ha; subst ha; exact hi
theorem chainF_len (x : Det) : ∀ (f : Nat) (i : Int), 0 < (chainF x f i).length ∧ (chainF x f i).length ≤ f + 1
  | 0, i => by simp [chainF]
  | f + 1, i => by
    have := chainF_len x f (nxV x i)
    simp only [chainF]
    split <;> simp <;> omega
theorem chainsN_mem {x : Det} : ∀ {n : Nat} {c : List Int}, c ∈ chainsN x n → ∃ i : Nat, i < n ∧ c = chainOf x i
  | n + 1, c, hc => by
    simp only [chainsN] at hc
    split at hc
    · obtain ⟨i, h1, h2⟩ := chainsN_mem hc; exact ⟨i, by omega, h2⟩
    · rcases List.mem_append.1 hc with hc | hc
      · obtain ⟨i, h1, h2⟩ := chainsN_mem hc; exact ⟨i, by omega, h2⟩
      · simp at hc; exact ⟨n, by omega, hc⟩
def chs (x : Det) : List (List Int) := chainsN x (total x.runs).toNat
structure ChainP (x : Det) (c : List Int) : Prop where
  pos : 0 < c.length
  len : c.length ≤ 2001
  mem : ∀ a ∈ c, inTot x a
theorem chainP {x : Det} (h : detOk x = true) {c : List Int} (hc : c ∈ chs x) : ChainP x c := by
 have ht := total_le (detP h).runs
 obtain ⟨i, hi, rfl⟩ := chainsN_mem hc
 have hl := chainF_len x (total x.runs).toNat i
 exact ⟨hl.1, by unfold chainOf; omega, chainF_in h _ ⟨by omega, by omega⟩⟩
theorem ChainP.at {x : Det} {c : List Int} (h : ChainP x c) {k : Int} (h0 : 0 ≤ k) (h1 : k < c.length) : inTot x (gt c k) := h.mem _ (gt_mem h0 h1)
structure Chn where
  bars : List Int
  lo : Int
  hi : Int
  is : Bool
  area : Int
  deriving Inhabited
def Chn.c (c : Chn) : List V := [.sl (c.bars.map ic), vi c.lo, vi c.hi, .bool c.is, vi c.area]
def barO (x : Det) (a : Int) : Bar := barAt x.bars x.runs a
def legO (x : Det) (a : Int) : List Bx := legsAt x.bars x.runs a
def chFirst (c : List Int) : Int := gt c 0
def chLast (c : List Int) : Int := gt c ((c.length : Int) - 1)
def chLo (x : Det) (c : List Int) : Int := (mainAt x.bars x.runs (chFirst c)).lx + endLo x.rule x.mem (barO x (chFirst c)) (legO x (chFirst c))
def chHi (x : Det) (c : List Int) : Int := (mainAt x.bars x.runs (chLast c)).hx - endHi x.rule x.mem (barO x (chLast c)) (legO x (chLast c))
def chBoth (x : Det) (c : List Int) : Bool := hasMain x.bars x.runs (chFirst c) && hasMain x.bars x.runs (chLast c)
def chIs (x : Det) (c : List Int) : Bool := chBoth x c && decide (chLo x c < chHi x c)
def chThin (x : Det) (c : List Int) : Int := thinN (szOf x) c (c.length - 1)
def chArea (x : Det) (c : List Int) : Int := areaF (szOf x (chThin x c))
def chnOf (x : Det) (c : List Int) : Chn := ⟨c, if chIs x c = true then chLo x c else 0, if chIs x c = true then chHi x c else 0, chIs x c, chArea x c⟩
def chns (x : Det) : List Chn := (List.range (chs x).length).map fun k : Nat => chnOf x (gt (chs x) k)
theorem legs_ok {x : Det} (h : runsOk x.bars x.runs = true) {n : Int} (hn : inTot x n) : ∀ i : Nat, i < (legO x n).length → boxOk (gt (legO x n) i) = true := by
 intro i hi
 have hnr := pts_near h hn.1 hn.2
 unfold legO legsAt at *
 have hi' : i < (ptsAt x.bars x.runs n).length - 1 := by simpa [legsOf] using hi
 rw [legs_gt hi']
 exact boxOk_hull2 (hnr i (by omega)) (hnr (i + 1) (by omega))
theorem barO_ok {x : Det} (h : runsOk x.bars x.runs = true) {n : Int} (hn : inTot x n) : barOk (barO x n) = true := by
 have hp := runsP h
 obtain ⟨g1, g2, g3, g4⟩ := place_spec hp hn.1 hn.2
 exact bar_ok (runsOk_parts h).1 (hp.bar g1).1
theorem legLens_len {x : Det} (h : runsOk x.bars x.runs = true) {n : Int} (hn : inTot x n) : (legLens (barO x n)).length = (legO x n).length := by
 have hp := barP (barO_ok h hn)
 have e1 : (legLens (barO x n)).length = (legL (barO x n).code).length := by simp [legLens]
 have e2 : (legO x n).length = (movesOf (barO x n)).length := by simp [legO, legsAt, legsOf, ptsAt, ptsOf, barO]
 rw [e1, e2, ← moves_legs hp.pos]
 simp
theorem lenF_in {r : Rul} (h : RulP r) {d : Int} (hd : 0 ≤ d ∧ d ≤ 40) (p q : Bool) : 0 ≤ lenF r d p q ∧ lenF r d p q ≤ 60000000000 := by
 have h1 := basicF_in h hd
 have h2 := upF_in h1 h.pn h.pd
 have h3 := upF_in h1 h.bn h.bd
 have h4 := upF_in h2 h.bn h.bd
 have h5 := h.least
 unfold lenF
 cases p <;> cases q <;> simp only [Bool.false_eq_true, if_true, if_false]
 · have := le_mx (basicF r d) r.least; omega
 · have := le_mx (upF (basicF r d) r.bn r.bd) r.least; omega
 · have := le_mx (upF (basicF r d) r.pn r.pd) r.least; omega
 · have := le_mx (upF (upF (basicF r d) r.pn r.pd) r.bn r.bd) r.least; omega
theorem main_in {x : Det} (h : runsOk x.bars x.runs = true) {n : Int} (hn : inTot x n) : (-1048576 ≤ (mainAt x.bars x.runs n).lx ∧ (mainAt x.bars x.runs n).lx ≤ 1048576) ∧ (-1048576 ≤ (mainAt x.bars x.runs n).hx ∧ (mainAt x.bars x.runs n).hx ≤ 1048576) := by
 cases hm : hasMain x.bars x.runs n with
 | false =>
   have : mainAt x.bars x.runs n = ⟨0, 0, 0, 0, 0, 0⟩ := by
     unfold mainAt
     rw [if_pos (by simpa [hasMain] using hm)]
   rw [this]; simp
 | true =>
   obtain ⟨h1, h2, h3⟩ := main_range hm
   have := legs_ok h hn (mainIx (legsAt x.bars x.runs n)).toNat (by unfold legO; omega)
   rw [show (((mainIx (legsAt x.bars x.runs n)).toNat : Nat) : Int) = mainIx (legsAt x.bars x.runs n) by omega] at this
   change boxOk (gt (legsAt x.bars x.runs n) _) = true at this
   rw [← h3] at this
   have h4 := ax_at this (k := 0) (by omega) (by omega)
   simp only [Bx.lo, Bx.hi, ax3] at h4
   simp at h4
   omega
theorem hasMain_iff {bars : List Bar} {runs : List Run} {n : Int} : hasMain bars runs n = true ↔ mainIx (legsAt bars runs n) ≥ 0 := by
 simp [hasMain]
theorem chn_row {x : Det} {i : Nat} (hi : i < (chs x).length) {r : List V} (h : r = (chnOf x (gt (chs x) i)).c) : ((List.range i).map fun k : Nat => (chnOf x (gt (chs x) k)).c) ++ [r] = (List.range (i + 1)).map fun k : Nat => (chnOf x (gt (chs x) k)).c := by
 rw [h]; exact (rangeM_snoc _ _).symm
theorem chn_no1 {x : Det} {c : List Int} (h : decide (mainIx (legsAt x.bars x.runs (chFirst c)) ≥ 0) = false) : [.sl (c.map ic), vi 0, vi 0, .bool false, vi (chArea x c)] = (chnOf x c).c := by
 have e : hasMain x.bars x.runs (chFirst c) = false := by
   cases hm : hasMain x.bars x.runs (chFirst c) with
   | false => rfl
   | true => rw [hasMain_iff] at hm; simp at h; omega
 have e2 : chIs x c = false := by simp [chIs, chBoth, e]
 simp [chnOf, e2, Chn.c]
theorem chn_no2 {x : Det} {c : List Int} (h : decide (mainIx (legsAt x.bars x.runs (chLast c)) ≥ 0) = false) : [.sl (c.map ic), vi 0, vi 0, .bool false, vi (chArea x c)] = (chnOf x c).c := by
 have e : hasMain x.bars x.runs (chLast c) = false := by
   cases hm : hasMain x.bars x.runs (chLast c) with
   | false => rfl
   | true => rw [hasMain_iff] at hm; simp at h; omega
 have e2 : chIs x c = false := by simp [chIs, chBoth, e]
 simp [chnOf, e2, Chn.c]
theorem chn_no3 {x : Det} {c : List Int} (h : decide (chLo x c < chHi x c) = false) : [.sl (c.map ic), vi 0, vi 0, .bool false, vi (chArea x c)] = (chnOf x c).c := by
 have e2 : chIs x c = false := by simp [chIs, h]
 simp [chnOf, e2, Chn.c]
theorem chn_yes {x : Det} {c : List Int} (h1 : hasMain x.bars x.runs (chFirst c) = true) (h2 : hasMain x.bars x.runs (chLast c) = true) (h : decide (chLo x c < chHi x c) = true) : [.sl (c.map ic), vi (chLo x c), vi (chHi x c), .bool true, vi (chArea x c)] = (chnOf x c).c := by
 have e2 : chIs x c = true := by simp [chIs, chBoth, h1, h2, h]
 simp [chnOf, e2, Chn.c]
theorem ok116 (x : Det) (h : detOk x = true) : Ok Tryz.prog 116 [.ag x.c] (.tp [.sl (rodRows x.bars x.runs (total x.runs).toNat), .sl ((chns x).map Chn.c), vi 0]) := by
 have hP := detP h
 have ht := total_le hP.runs
 have hcl : (chs x).length ≤ 2000 := by have := chainsN_len x (total x.runs).toNat; unfold chs; omega
 refine zz 148 Tryz.func116 rfl Tryz.call116 rfl (zR (zo rfl (zo rfl (zo rfl (zo rfl (zw (zq (zR (zo rfl ?_)))))))))
 refine zc rfl (ok46 x h) (zo rfl (zw (zn rfl (rfl) (zk (zR (zo rfl (zc rfl (ok47 x hP.runs) (zo rfl (zo rfl ?_)))))))))
 refine zo rfl (zo rfl (zd rfl rfl (zo rfl (zw (zq (zR (zo rfl (zo rfl (zw (zn rfl (rfl) ?_))))))))))
 refine zk (zR (zo rfl (zc rfl (ok172 x h) (zo rfl (zo rfl (zo rfl (zo rfl (zo rfl (zw (zq (zR (zo rfl ?_))))))))))))
 refine zo rfl (zw (zn rfl (rfl) (zk (zR (zo rfl (zw (zq (zR (zo rfl ?_)))))))))
 refine zo rfl (zo rfl (zw (Sat.loop' (fun _ => True) (fun i => ⟨148, lk [(1, .ptr 1 0), (5, .ptr 5 0), (8, slD 144 5 ((List.range i).map fun k : Nat => (chnOf x (gt (chs x) k)).c)), (40, .v (.sl ((chs x).map slIC))), (41, .v (vi ((chs x).map slIC).length)), (42, .v (vi i))], lkO [(1, some ⟨.cells (x.c.map .v), false⟩), (5, some ⟨.cells [.v (.sl (rodRows x.bars x.runs (total x.runs).toNat))], false⟩), (144, slS 5 ((List.range i).map fun k : Nat => (chnOf x (gt (chs x) k)).c))]⟩) ((chs x).length) ?_ (trivial) (fun i hi hI => ?_) (fun hI => ?_))))
 exact weakO ⟨rfl, rfl, rfl, rfl, rfl, rfl, trivial⟩ ⟨so rfl, so rfl, soS rfl, trivial⟩ (by repeat' (first | exact trivial | exact rfl | exact slD_ment rfl | exact moS | exact mo rfl | refine ⟨?_, ?_⟩)) (by repeat' (first | exact trivial | exact rfl | exact slD_ment rfl | exact moS | exact mo rfl | refine ⟨?_, ?_⟩))
 have hc := chainP h (gt_mem (l := chs x) (k := (i : Int)) (by omega) (by omega))
 have hpos := hc.pos
 have hlenc : (((gt (chs x) (i : Int)).map ic).length : Int) = (gt (chs x) (i : Int)).length := by simp
 have hlen2 := hc.len
 have hf : inTot x (chFirst (gt (chs x) (i : Int))) := hc.at (by omega) (by omega)
 have hla : inTot x (chLast (gt (chs x) (i : Int))) := hc.at (by omega) (by omega)
 have hth : inTot x (chThin x (gt (chs x) (i : Int))) := by obtain ⟨k, h1, h2⟩ := thinN_mem (key := szOf x) hc.pos ((gt (chs x) (i : Int)).length - 1) (by omega); unfold chThin; rw [h2]; exact hc.at (by omega) (by omega)
 obtain ⟨hf0, hf1⟩ := id hf
 obtain ⟨hl0, hl1⟩ := id hla
 obtain ⟨ht0, ht1⟩ := id hth
 refine zR (zo rfl (zw (zq (zy rfl (by simp [hi]) (zk (zq (zb rfl (zR (step_sil (sil_index rfl rfl rfl rfl (by omega) (by first | exact gt_idx (by omega) (by omega) | exact rodRows_at _ _ (by omega) (by omega)) rfl ?_))))))))))
 refine zo rfl (zo rfl (zw (zR (zo rfl (zo rfl (zo rfl (zd rfl rfl (zw (zq (Sat.xto tabOk (⟨148, lk [(1, .ptr 1 0), (5, .ptr 5 0), (8, slD 144 5 ((List.range i).map fun k : Nat => (chnOf x (gt (chs x) k)).c)), (10, .v (.sl ((gt (chs x) (i : Int)).map ic))), (11, .ptr 11 0), (12, .v (vi (chThin x (gt (chs x) (i : Int))))), (40, .v (.sl ((chs x).map slIC))), (41, .v (vi ((chs x).map slIC).length)), (42, .v (vi i))], lkO [(1, some ⟨.cells (x.c.map .v), false⟩), (5, some ⟨.cells [.v (.sl (rodRows x.bars x.runs (total x.runs).toNat))], false⟩), (11, some ⟨.cells [.v (.sl ((gt (chs x) (i : Int)).map ic)), .v (vi 0), .v (vi 0), .v (.bool false), .v (vi 0)], false⟩), (144, slS 5 ((List.range i).map fun k : Nat => (chnOf x (gt (chs x) k)).c))]⟩) ?_ ?_))))))))))
 refine wx (step_sil (zO (fun _ => rfl) ?_))
 refine wx (step_sil (zO (fun _ => rfl) ?_))
 refine x_call rfl rfl (call_lend (ok173 (szOf x) (gt (chs x) (i : Int)) hc.pos (by have := hc.len; omega) 174 (.cp [.sl (rodRows x.bars x.runs (total x.runs).toNat)] 0) (fun p q hp hq => ok174 x _ _ (hc.at (by omega) (by omega)).1 (hc.at (by omega) (by omega)).2 (hc.at (by omega) (by omega)).1 (hc.at (by omega) (by omega)).2)) rfl rfl) (wx (step_sil (zO (fun _ => rfl) ?_)))
 exact wnX (weakO ⟨rfl, rfl, rfl, rfl, rfl, rfl, rfl, rfl, rfl, trivial⟩ ⟨so rfl, so rfl, so rfl, soS rfl, trivial⟩ (by repeat' (first | exact trivial | exact rfl | exact slD_ment rfl | exact moS | exact mo rfl | refine ⟨?_, ?_⟩)) (by repeat' (first | exact trivial | exact rfl | exact slD_ment rfl | exact moS | exact mo rfl | refine ⟨?_, ?_⟩)))
 refine nq (zq (zR (zo rfl (zo rfl (step_sil (sil_index rfl rfl rfl rfl (by omega) (by first | exact gt_idx (by omega) (by omega) | exact rodRows_at _ _ (by omega) (by omega)) rfl ?_))))))
 refine zo rfl (zo rfl (zo rfl (zc rfl (ok176 (szOf x (chThin x (gt (chs x) (i : Int)))) (barOk_size (barO_ok hP.runs hth))) (zo rfl (zo rfl (zo rfl (zo rfl (zd rfl rfl (zo rfl ?_)))))))))
 refine zw (zR (zo rfl (zo rfl (zw (zn rfl (rfl) (zk (zq (Sat.dp tabOk mixed [5] (.sil 0 (.sil 1 (.sil 2 (.sil 3 (.sil 4 (.sil 5 (.sil 6 (.sil 7 (.sil 8 (.sil 9 (.sil 10 (.sil 11 (.sil 12 (.sil 13 (.sil 14 (.two 15 16 (.one 16 (.one 17 (.one 18 (.done)))) (.one 15 (.one 17 (.one 18 (.done)))))))))))))))))))) (⟨148, lk [(1, .ptr 1 0), (5, .ptr 5 0), (8, slD 144 5 ((List.range i).map fun k : Nat => (chnOf x (gt (chs x) k)).c)), (10, .v (.sl ((gt (chs x) (i : Int)).map ic))), (11, .ptr 11 0), (13, .ptr 13 0), (14, .ptr 14 0), (40, .v (.sl ((chs x).map slIC))), (41, .v (vi ((chs x).map slIC).length)), (42, .v (vi i))], lkO [(1, some ⟨.cells (x.c.map .v), false⟩), (5, some ⟨.cells [.v (.sl (rodRows x.bars x.runs (total x.runs).toNat))], false⟩), (11, some ⟨.cells [.v (.sl ((gt (chs x) (i : Int)).map ic)), .v (vi 0), .v (vi 0), .v (.bool false), .v (vi (chArea x (gt (chs x) (i : Int))))], false⟩), (13, some ⟨.cells ((rodC x.bars x.runs (chFirst (gt (chs x) (i : Int)))).map .v), false⟩), (14, some ⟨.cells ((rodC x.bars x.runs (chLast (gt (chs x) (i : Int)))).map .v), false⟩), (144, slS 5 ((List.range i).map fun k : Nat => (chnOf x (gt (chs x) k)).c))]⟩) (by decide) (by kernel_rfl) ?_ ?_))))))))
 refine p_sil rfl (zO (fun _ => rfl) ?_)
 refine p_sil rfl (zO (fun _ => rfl) ?_)
 refine p_sil rfl (sil_index rfl rfl rfl rfl (by decide) (gt_idx (l := (gt (chs x) (i : Int))) (by omega) (by omega)) rfl ?_)
 refine p_sil rfl (zO (fun _ => rfl) ?_)
 refine p_sil rfl (sil_index rfl rfl rfl rfl hf.1 (rodRows_at _ _ (a := chFirst (gt (chs x) (i : Int))) hf.1 (by omega)) rfl ?_)
 refine p_sil rfl (zO (fun _ => rfl) ?_)
 refine p_sil rfl (zO (fun _ => rfl) ?_)
 refine p_sil rfl (zO (fun _ => rfl) ?_)
 refine p_sil rfl (zO (fun _ => rfl) ?_)
 refine p_sil rfl (zO (fun _ => rfl) ?_)
 refine p_sil rfl (sil_sub rfl rfl rfl (by first | (constructor <;> omega) | (simp only [decide_eq_true_eq, decide_eq_false_iff_not, Bool.not_eq_true', Bool.not_eq_false', beq_eq_false_iff_ne, beq_iff_eq, ne_eq] at *; constructor <;> omega)) ?_)
 refine p_sil rfl (sil_index rfl rfl rfl (congrArg (fun z : Int => some (D.v (vi (z - 1)))) hlenc) (by omega) (gt_idx (l := (gt (chs x) (i : Int))) (by omega) (by omega)) rfl ?_)
 refine p_sil rfl (zO (fun _ => rfl) ?_)
 refine p_sil rfl (sil_index rfl rfl rfl rfl hla.1 (rodRows_at _ _ (a := chLast (gt (chs x) (i : Int))) hla.1 (by omega)) rfl ?_)
 refine p_sil rfl (zO (fun _ => rfl) ?_)
 refine p_two ?_ ?_
 refine p_one rfl (step_op rfl rfl rfl ⟨ovr_eq ⟨rfl, trivial⟩, ?_⟩)
 refine p_one rfl (step_op rfl rfl rfl ⟨ovr_eq ⟨rfl, trivial⟩, ?_⟩)
 refine p_one rfl (step_do rfl rfl ⟨ovr_eq ⟨rfl, trivial⟩, ?_⟩)
 refine p_one rfl (step_do rfl rfl ⟨ovr_eq ⟨rfl, trivial⟩, ?_⟩)
 exact pn (weakO ⟨rfl, rfl, rfl, rfl, rfl, rfl, rfl, rfl, rfl, rfl, trivial⟩ ⟨so rfl, so rfl, so rfl, so rfl, so rfl, soS rfl, trivial⟩ (by repeat' (first | exact trivial | exact rfl | exact slD_ment rfl | exact moS | exact mo rfl | refine ⟨?_, ?_⟩)) (by repeat' (first | exact trivial | exact rfl | exact slD_ment rfl | exact moS | exact mo rfl | refine ⟨?_, ?_⟩)))
 refine p_one rfl (step_op rfl rfl rfl ⟨ovr_eq ⟨rfl, trivial⟩, ?_⟩)
 refine p_one rfl (step_op rfl rfl rfl ⟨ovr_eq ⟨rfl, trivial⟩, ?_⟩)
 refine p_one rfl (step_do rfl rfl ⟨ovr_eq ⟨rfl, trivial⟩, ?_⟩)
 refine p_one rfl (step_do rfl rfl ⟨ovr_eq ⟨rfl, trivial⟩, ?_⟩)
 exact pn (weakO ⟨rfl, rfl, rfl, rfl, rfl, rfl, rfl, rfl, rfl, rfl, trivial⟩ ⟨so rfl, so rfl, so rfl, so rfl, so rfl, soS rfl, trivial⟩ (by repeat' (first | exact trivial | exact rfl | exact slD_ment rfl | exact moS | exact mo rfl | refine ⟨?_, ?_⟩)) (by repeat' (first | exact trivial | exact rfl | exact slD_ment rfl | exact moS | exact mo rfl | refine ⟨?_, ?_⟩)))
 refine nq (zq (zR (zo rfl (zo rfl (zo rfl (zo rfl (zT rfl (fun h1 => ?_) (fun h1 => ?_))))))))
 refine zO (fun _ => rfl) (zh rfl h1 rfl (zh rfl h1 rfl (zp rfl h1 rfl (zw (zC rfl (fun h2 => ?_) (fun h2 => ?_))))))
 refine zq ?_
 have hmf : hasMain x.bars x.runs (chFirst (gt (chs x) (i : Int))) = true := hasMain_iff.2 (of_decide_eq_true h1)
 have hml : hasMain x.bars x.runs (chLast (gt (chs x) (i : Int))) = true := hasMain_iff.2 (of_decide_eq_true h2)
 have hgf := legs_len x.bars x.runs (chFirst (gt (chs x) (i : Int)))
 have hgl := legs_len x.bars x.runs (chLast (gt (chs x) (i : Int)))
 have hlf : (legO x (chFirst (gt (chs x) (i : Int)))).length ≤ 1000 := by unfold legO; omega
 have hll : (legO x (chLast (gt (chs x) (i : Int)))).length ≤ 1000 := by unfold legO; omega
 refine zr (zo rfl (zo rfl (zo rfl (zo rfl (zo rfl (zo rfl (zo rfl (zo rfl (zc rfl (ok177 x.rule x.mem (barO x (chFirst (gt (chs x) (i : Int)))) (legO x (chFirst (gt (chs x) (i : Int)))) hP.rule hP.mem (barO_ok hP.runs hf) hlf (legLens_len hP.runs hf) (legs_ok hP.runs hf) (hasMain_iff.1 hmf)) ?_)))))))))
 refine zo rfl (zo rfl (zo rfl (zo rfl (zo rfl (zo rfl (zo rfl (zw (zq (zR (zo rfl ?_))))))))))
 refine zo rfl (zw (zn rfl (rfl) (zk (zR (zo rfl (zo rfl (zo rfl (zo rfl (zo rfl ?_)))))))))
 refine zo rfl (zo rfl (zo rfl (zc rfl (ok177 x.rule x.mem (barO x (chLast (gt (chs x) (i : Int)))) (legO x (chLast (gt (chs x) (i : Int)))) hP.rule hP.mem (barO_ok hP.runs hla) hll (legLens_len hP.runs hla) (legs_ok hP.runs hla) (hasMain_iff.1 hml)) (zo rfl (zo rfl (zo rfl (zo rfl (zo rfl (zo rfl ?_)))))))))
 refine zo rfl (zw (zq (zR (zo rfl (zo rfl (zw (zn rfl (rfl) (zk (zq ?_)))))))))
 have hn1 := lenF_in (rulP hP.rule) (size_in (barOk_size (barO_ok hP.runs hf))) (poorF x.mem (mainOf (legO x (chFirst (gt (chs x) (i : Int)))))) (bentLo (legO x (chFirst (gt (chs x) (i : Int)))))
 have hn2 := lenF_in (rulP hP.rule) (size_in (barOk_size (barO_ok hP.runs hla))) (poorF x.mem (mainOf (legO x (chLast (gt (chs x) (i : Int)))))) (bentHi (legO x (chLast (gt (chs x) (i : Int)))))
 have hi1 := main_in hP.runs hf
 have hi2 := main_in hP.runs hla
 change 0 ≤ endLo x.rule x.mem (barO x (chFirst (gt (chs x) (i : Int)))) (legO x (chFirst (gt (chs x) (i : Int)))) ∧ endLo x.rule x.mem (barO x (chFirst (gt (chs x) (i : Int)))) (legO x (chFirst (gt (chs x) (i : Int)))) ≤ 60000000000 at hn1
 change 0 ≤ endHi x.rule x.mem (barO x (chLast (gt (chs x) (i : Int)))) (legO x (chLast (gt (chs x) (i : Int)))) ∧ endHi x.rule x.mem (barO x (chLast (gt (chs x) (i : Int)))) (legO x (chLast (gt (chs x) (i : Int)))) ≤ 60000000000 at hn2
 refine Sat.dwN tabOk mixed [13, 14] [13, 14] [0, 1, 2, 3, 4, 5, 6, 7, 8, 9, 10, 11, 12, 13, 14] (by decide) (by kernel_rfl) (walk_sil rfl rfl (zO (fun _ => rfl) ?_))
 refine walk_sil rfl rfl (sil_call rfl rfl (fun _ => rfl) (fun _ => rfl) (ok44 x.bars x.runs (chFirst (gt (chs x) (i : Int))) hmf) ?_)
 refine walk_sil rfl rfl (zO (fun _ => rfl) ?_)
 refine walk_sil rfl rfl (zO (fun _ => rfl) ?_)
 refine walk_sil rfl rfl (zO (fun _ => rfl) ?_)
 refine walk_sil rfl rfl (sil_add rfl rfl rfl (by first | (constructor <;> omega) | (simp only [decide_eq_true_eq, decide_eq_false_iff_not, Bool.not_eq_true', Bool.not_eq_false', beq_eq_false_iff_ne, beq_iff_eq, ne_eq] at *; constructor <;> omega)) ?_)
 refine walk_sil rfl rfl (zO (fun _ => rfl) ?_)
 refine walk_sil rfl rfl (sil_call rfl rfl (fun _ => rfl) (fun _ => rfl) (ok44 x.bars x.runs (chLast (gt (chs x) (i : Int))) hml) ?_)
 refine walk_sil rfl rfl (zO (fun _ => rfl) ?_)
 refine walk_sil rfl rfl (zO (fun _ => rfl) ?_)
 refine walk_sil rfl rfl (zO (fun _ => rfl) ?_)
 refine walk_sil rfl rfl (sil_sub rfl rfl rfl (by first | (constructor <;> omega) | (simp only [decide_eq_true_eq, decide_eq_false_iff_not, Bool.not_eq_true', Bool.not_eq_false', beq_eq_false_iff_ne, beq_iff_eq, ne_eq] at *; constructor <;> omega)) ?_)
 refine walk_sil rfl rfl (zO (fun _ => rfl) ?_)
 refine walk_eff rfl rfl (step_op rfl rfl rfl ⟨fun _ => ovr_eq ⟨rfl, rfl, trivial⟩, ?_⟩)
 refine walk_eff rfl rfl (step_do rfl rfl ⟨lastly_no (by kernel_rfl), ?_⟩)
 refine kn (nq (zR (zo rfl (zo rfl (zo rfl (zo rfl (zo rfl (zw (zC rfl (fun h3 => ?_) (fun h3 => ?_))))))))))
 refine zr (zo rfl (zo rfl (zd rfl rfl (zo rfl (zd rfl rfl (zw ?_))))))
 first | have hr := chn_no1 (c := (gt (chs x) (i : Int))) h1 | have hr := chn_no2 (c := (gt (chs x) (i : Int))) h2 | have hr := chn_no3 (c := (gt (chs x) (i : Int))) h3 | have hr := chn_yes (c := (gt (chs x) (i : Int))) hmf hml h3
 refine zr (zo rfl (zo rfl (zo rfl ?_)))
 first | (refine step_app1 rfl (by first | exact .inl rfl | (right; simp)) rfl rfl rfl rfl rfl rfl (by simp; omega) rfl ?_) | (refine step_op rfl rfl rfl ?_)
 exact zo rfl (wn (nb (nq (zr (za rfl (zo rfl (wn (ns trivial (weakO ⟨rfl, rfl, slD_eq rfl (chn_row hi hr), rfl, rfl, rfl, trivial⟩ ⟨so rfl, so rfl, soA rfl (chn_row hi hr), trivial⟩ (by repeat' (first | exact trivial | exact rfl | exact slD_ment rfl | exact moS | exact mo rfl | refine ⟨?_, ?_⟩)) (by repeat' (first | exact trivial | exact rfl | exact slD_ment rfl | exact moS | exact mo rfl | refine ⟨?_, ?_⟩)))))))))))
 refine zk ?_
 first | have hr := chn_no1 (c := (gt (chs x) (i : Int))) h1 | have hr := chn_no2 (c := (gt (chs x) (i : Int))) h2 | have hr := chn_no3 (c := (gt (chs x) (i : Int))) h3 | have hr := chn_yes (c := (gt (chs x) (i : Int))) hmf hml h3
 refine zr (zo rfl (zo rfl (zo rfl ?_)))
 first | (refine step_app1 rfl (by first | exact .inl rfl | (right; simp)) rfl rfl rfl rfl rfl rfl (by simp; omega) rfl ?_) | (refine step_op rfl rfl rfl ?_)
 exact zo rfl (wn (nb (nq (zr (za rfl (zo rfl (wn (ns trivial (weakO ⟨rfl, rfl, slD_eq rfl (chn_row hi hr), rfl, rfl, rfl, trivial⟩ ⟨so rfl, so rfl, soA rfl (chn_row hi hr), trivial⟩ (by repeat' (first | exact trivial | exact rfl | exact slD_ment rfl | exact moS | exact mo rfl | refine ⟨?_, ?_⟩)) (by repeat' (first | exact trivial | exact rfl | exact slD_ment rfl | exact moS | exact mo rfl | refine ⟨?_, ?_⟩)))))))))))
 refine zk ?_
 first | have hr := chn_no1 (c := (gt (chs x) (i : Int))) h1 | have hr := chn_no2 (c := (gt (chs x) (i : Int))) h2 | have hr := chn_no3 (c := (gt (chs x) (i : Int))) h3 | have hr := chn_yes (c := (gt (chs x) (i : Int))) hmf hml h3
 refine zr (zo rfl (zo rfl (zo rfl ?_)))
 first | (refine step_app1 rfl (by first | exact .inl rfl | (right; simp)) rfl rfl rfl rfl rfl rfl (by simp; omega) rfl ?_) | (refine step_op rfl rfl rfl ?_)
 exact zo rfl (wn (nb (nq (zr (za rfl (zo rfl (wn (ns trivial (weakO ⟨rfl, rfl, slD_eq rfl (chn_row hi hr), rfl, rfl, rfl, trivial⟩ ⟨so rfl, so rfl, soA rfl (chn_row hi hr), trivial⟩ (by repeat' (first | exact trivial | exact rfl | exact slD_ment rfl | exact moS | exact mo rfl | refine ⟨?_, ?_⟩)) (by repeat' (first | exact trivial | exact rfl | exact slD_ment rfl | exact moS | exact mo rfl | refine ⟨?_, ?_⟩)))))))))))
 refine zt rfl h1 (zt rfl h1 (zP rfl h1 rfl (zw (zn rfl rfl (zk ?_)))))
 first | have hr := chn_no1 (c := (gt (chs x) (i : Int))) h1 | have hr := chn_no2 (c := (gt (chs x) (i : Int))) h2 | have hr := chn_no3 (c := (gt (chs x) (i : Int))) h3 | have hr := chn_yes (c := (gt (chs x) (i : Int))) hmf hml h3
 refine zr (zo rfl (zo rfl (zo rfl ?_)))
 first | (refine step_app1 rfl (by first | exact .inl rfl | (right; simp)) rfl rfl rfl rfl rfl rfl (by simp; omega) rfl ?_) | (refine step_op rfl rfl rfl ?_)
 exact zo rfl (wn (nb (nq (zr (za rfl (zo rfl (wn (ns trivial (weakO ⟨rfl, rfl, slD_eq rfl (chn_row hi hr), rfl, rfl, rfl, trivial⟩ ⟨so rfl, so rfl, soA rfl (chn_row hi hr), trivial⟩ (by repeat' (first | exact trivial | exact rfl | exact slD_ment rfl | exact moS | exact mo rfl | refine ⟨?_, ?_⟩)) (by repeat' (first | exact trivial | exact rfl | exact slD_ment rfl | exact moS | exact mo rfl | refine ⟨?_, ?_⟩)))))))))))
 refine zR (zo rfl (zw (zq (zn rfl (by simp) (Sat.exit (xq (xe (nq (Sat.pubS 8 rfl rfl ?_)))))))))
 refine Sat.weak (σ' := ⟨148, lk [(5, .ptr 5 0), (8, .v (.sl ((List.range (chs x).length).map fun k : Nat => (chnOf x (gt (chs x) k)).c)))], lkO [(5, some ⟨.cells [.v (.sl (rodRows x.bars x.runs (total x.runs).toNat))], false⟩)]⟩) (weakO ⟨rfl, rfl, trivial⟩ ⟨so (by rw [frz_other (slD_names (by decide))]; rfl), trivial⟩ (by repeat' (first | exact trivial | exact rfl | exact slD_ment rfl | exact moS | exact mo rfl | refine ⟨?_, ?_⟩)) (by repeat' (first | exact trivial | exact rfl | exact slD_ment rfl | exact moS | exact mo rfl | refine ⟨?_, ?_⟩))) ?_
 exact zR (zo rfl (zo rfl (zo rfl (zo rfl (zo rfl (zw (Sat.ret (ze rfl (by simp only [chns, List.map_map]; rfl)))))))))
end Go.Proofs.YtamjajacnfmgeaaGreat
