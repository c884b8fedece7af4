/-
  Contracts: supply.At, supply.Bars. Condition: valid in the reference; of Bars: at most 1000 laid bars.
  Plain facts: sorted lists without repetition, step functions. No condition.
-/
import Derived.Test.YtamjajacnfmgeaaGreatK35
set_option linter.all false
namespace Go.Proofs.YtamjajacnfmgeaaGreat
open Go Go.RowKit
set_option maxHeartbeats 1000000
def offB (p : Int) (c : Chn) : Bool := decide (p < c.lo) || decide (p ≥ c.hi)
theorem ok66 (c : Chn) (p : Int) : Ok Tryz.prog 66 [.ag c.c, .cp [vi p] 0] (.bool (offB p c)) := by
 unfold offB
 refine zz 16 Tryz.func66 rfl Tryz.call66 rfl (zR (zo rfl (zo rfl (zw (zR (zo rfl (zo rfl (zo rfl (zo rfl ?_)))))))))
 refine zo rfl (zo rfl (zF rfl (fun h1 => ?_) (fun h1 => ?_)))
 exact zO (fun _ => rfl) (zh rfl h1 rfl (zh rfl h1 rfl (zh rfl h1 rfl (zh rfl h1 rfl (zP rfl h1 rfl (zo rfl (zw (Sat.ret (zg rfl)))))))))
 exact zf rfl h1 (zf rfl h1 (zf rfl h1 (zf rfl h1 (zp rfl h1 rfl (zo rfl (zw (Sat.ret (zg rfl))))))))
theorem ok65_nil (g : Nat) (cap : V) : Ok Tryz.prog 65 [.sl [], .fn g [cap]] (.sl []) := by
 have h119 := ok119_1 [] (by simp) g cap (fun _ => false) fun i hi => by simp at hi
 refine zz 42 Tryz.func65 rfl Tryz.call65 rfl (zR (zo rfl (zw (zR (zo rfl (zo rfl (zc rfl h119 (zo rfl (zw (zq (zR (zo rfl ?_))))))))))))
 exact zo rfl (zw (zy rfl (rfl) (zR (zo rfl (zo rfl (zw (Sat.ret (rq (ze rfl rfl)))))))))
def atF (x : Det) (d p : Int) : List Chn := (supF x d).filter fun c => !offB p c
theorem supF_len (x : Det) (h : detOk x = true) (d : Int) : (supF x d).length ≤ 2000 := by
 have := supN_len x d (chns x).length
 have := chns_len x h
 unfold supF; omega
theorem ok28 (x : Det) (h : detOk x = true) (d p : Int) (h0 : 0 ≤ d) (h1 : d < x.dems.length) (hp : -1048576 ≤ p ∧ p ≤ 1048576) : Ok Tryz.prog 28 [.ag x.c, vi d, vi p] (.tp [.sl (rodRows x.bars x.runs (total x.runs).toNat), .sl ((atF x d p).map Chn.c), vi 0]) := by
 have hl := supF_len x h d
 refine zz 34 Tryz.func28 rfl Tryz.call28 rfl (zR (zo rfl (zo rfl (zo rfl (zo rfl (zo rfl (zw (zq (Sat.xto tabOk (⟨34, lk [(5, .ptr 5 0), (9, .v (.sl (rodRows x.bars x.runs (total x.runs).toNat))), (10, slD 15 5 ((supF x d).map Chn.c)), (11, .v (vi 0))], lkO [(5, some ⟨.cells [.v (vi p)], false⟩), (15, slS 5 ((supF x d).map Chn.c))]⟩) ?_ ?_)))))))))
 refine wx (step_sil (zO (fun _ => rfl) ?_))
 refine wx (step_sil (zO (fun _ => rfl) ?_))
 refine x_call rfl rfl (call_own 15 (ok64 x h d h0 h1) rfl rfl) (wx (step_sil (zO (fun _ => rfl) ?_)))
 refine wx (step_sil (zO (fun _ => rfl) ?_))
 refine wx (step_sil (zO (fun _ => rfl) ?_))
 refine wx (step_sil (zO (fun _ => rfl) ?_))
 refine wx (step_sil (zO (fun _ => rfl) ?_))
 refine wx (step_sil (zO (fun _ => rfl) ?_))
 refine wx (step_sil (zO (fun _ => rfl) ?_))
 exact wnX (weakO ⟨rfl, rfl, rfl, rfl, trivial⟩ ⟨so rfl, soS rfl, trivial⟩ (by repeat' (first | exact trivial | exact rfl | exact slD_ment rfl | exact moS | exact mo rfl | refine ⟨?_, ?_⟩)) (by repeat' (first | exact trivial | exact rfl | exact slD_ment rfl | exact moS | exact mo rfl | refine ⟨?_, ?_⟩)))
 refine nq (zq (zb rfl (zR (zo rfl (zo rfl (zo rfl (zw (zn rfl (rfl) (zq (Sat.to tabOk (⟨34, lk [(5, .ptr 5 0), (9, .v (.sl (rodRows x.bars x.runs (total x.runs).toNat))), (10, slD 15 5 ((supF x d).map Chn.c)), (23, .v (.bool false))], lkO [(5, some ⟨.cells [.v (vi p)], false⟩), (15, slS 5 ((supF x d).map Chn.c))]⟩) ?_ ?_))))))))))
 refine zo rfl (zo rfl (zo rfl (zF rfl (fun h1 => ?_) (fun h1 => ?_))))
 exact zO (fun _ => rfl) (zh rfl h1 rfl (zP rfl h1 rfl (zo rfl (wn (weakO ⟨rfl, rfl, rfl, bool_eq rfl (by first | rfl | (simp_all; done) | (simp_all; omega)), trivial⟩ ⟨so rfl, soS rfl, trivial⟩ (by repeat' (first | exact trivial | exact rfl | exact slD_ment rfl | exact moS | exact mo rfl | refine ⟨?_, ?_⟩)) (by repeat' (first | exact trivial | exact rfl | exact slD_ment rfl | exact moS | exact mo rfl | refine ⟨?_, ?_⟩)))))))
 exact zf rfl h1 (zp rfl h1 rfl (zo rfl (wn (weakO ⟨rfl, rfl, rfl, bool_eq rfl (by first | rfl | (simp_all; done) | (simp_all; omega)), trivial⟩ ⟨so rfl, soS rfl, trivial⟩ (by repeat' (first | exact trivial | exact rfl | exact slD_ment rfl | exact moS | exact mo rfl | refine ⟨?_, ?_⟩)) (by repeat' (first | exact trivial | exact rfl | exact slD_ment rfl | exact moS | exact mo rfl | refine ⟨?_, ?_⟩))))))
 refine nq (zn rfl (rfl) (Sat.skip (nb (nq (zq (Sat.frz [5] (Sat.rx tabOk (wx (step_sil (zO (fun _ => rfl) ?_))))))))))
 refine wx (step_sil (zO (fun _ => rfl) ?_))
 refine wx (step_sil (zO (fun _ => rfl) ?_))
 refine x_takeS (x := .sl ((atF x d p).map Chn.c)) (rg := [(30, .v (.sl (rodRows x.bars x.runs (total x.runs).toNat)))]) (s1 := lkO []) rfl rfl (fun he => by have e : supF x d = [] := List.map_eq_nil_iff.1 he; unfold atF; rw [e]; exact ok65_nil 66 (.cp [vi p] 0)) (fun _ => delC (supF x d) (by omega) 66 (.cp [vi p] 0) (offB p) (fun c _ => ok66 c p)) rfl (by rw [frz_other (by decide)]; rfl) (frz_twice _ [5]) (weakO ⟨rfl, trivial⟩ trivial (by repeat' (first | exact trivial | exact rfl | exact slD_ment rfl | exact moS | exact mo rfl | refine ⟨?_, ?_⟩)) (by repeat' (first | exact trivial | exact rfl | exact slD_ment rfl | exact moS | exact mo rfl | refine ⟨?_, ?_⟩))) rfl ?_
 refine wx (step_sil (zO (fun _ => rfl) ?_))
 refine wx (step_sil (zO (fun _ => rfl) ?_))
 refine wx (step_sil (zO (fun _ => rfl) ?_))
 exact wnX (nq (Sat.ret (ze rfl rfl)))
theorem supN_mem {x : Det} {d : Int} : ∀ {n : Nat} {c : Chn}, n ≤ (chns x).length → c ∈ supN x d n → ∃ k : Nat, k < (chs x).length ∧ c = chnOf x (gt (chs x) k) ∧ supK x d c = true
  | n + 1, c, hn, hc => by
    simp only [supN] at hc
    split at hc
    · rename_i hk
      rcases List.mem_append.1 hc with hc | hc
      · exact supN_mem (by omega) hc
      · simp at hc
        subst hc
        refine ⟨n, by simp [chns] at hn; omega, (chns_bars (by omega)).1, hk⟩
    · exact supN_mem (by omega) hc
structure SupP (x : Det) (d : Int) (c : Chn) : Prop where
  ch : c.bars ∈ chs x
  eq : c = chnOf x c.bars
  is : chIs x c.bars = true
  inn : ∀ a ∈ c.bars, inTot x a ∧ hasMain x.bars x.runs a = true ∧ demIn (gt x.dems d) (mainAt x.bars x.runs a) = true
  area : 1 ≤ c.area ∧ c.area ≤ 200000
theorem supP {x : Det} (h : detOk x = true) {d : Int} {c : Chn} (hc : c ∈ supF x d) : SupP x d c := by
 obtain ⟨k, h1, h2, h3⟩ := supN_mem (Nat.le_refl _) hc
 have hm : gt (chs x) (k : Int) ∈ chs x := gt_mem (by omega) (by omega)
 have hb : c.bars = gt (chs x) (k : Int) := by rw [h2]; rfl
 have hch := chainP h hm
 rw [← hb] at hch hm h2
 simp only [supK, Bool.and_eq_true, Bool.not_eq_true'] at h3
 have hth : inTot x (chThin x c.bars) := by
   obtain ⟨k, h1, h2⟩ := thinN_mem (key := szOf x) hch.pos (c.bars.length - 1) (by have := hch.pos; omega)
   unfold chThin; rw [h2]; exact hch.at (by omega) (by omega)
 refine ⟨hm, h2, ?_, fun a ha => ?_, ?_⟩
 · have := h3.1; rw [h2] at this; exact this
 · have hin := hch.mem a ha
   have h4 := of_decide_eq_false h3.2
   rcases findN_cases c.bars.length fun j => outB x d (gt c.bars j) with ⟨e, h5⟩ | ⟨i, e, h5, h6, h7⟩
   · obtain ⟨j, hj, hja⟩ := List.mem_iff_getElem.1 ha
     have h6 := h5 j hj
     rw [gt_get hj, hja] at h6
     unfold outB at h6
     split at h6
     · cases h6
     · rename_i h8
       refine ⟨hin, hasMain_iff.2 ?_, by simpa using h6⟩
       unfold legO at h8; omega
   · rw [e] at h4; omega
 · have e : c.area = chArea x c.bars := by rw [h2]; rfl
   rw [e]
   exact areaF_in (barOk_size (barO_ok (detP h).runs hth))
theorem sup_area {x : Det} (h : detOk x = true) {d : Int} {l : List Chn} (hl : ∀ c ∈ l, c ∈ supF x d) : ∀ i : Nat, i < l.length → 0 ≤ (gt l i).area ∧ (gt l i).area ≤ 200000 := fun i hi => by
  have := (supP h (hl _ (gt_mem (l := l) (k := (i : Int)) (by omega) (by omega)))).area
  omega
theorem sumI_map {f : Chn → Int} : ∀ (l : List Chn), sumI l.length (fun i => f (gt l i)) = (l.map f).sum := by
 intro l
 have : ∀ n, n ≤ l.length → sumI n (fun i => f (gt l i)) = ((l.take n).map f).sum := by
   intro n
   induction n with
   | zero => intro _; simp [sumI]
   | succ n ih =>
     intro hn
     simp only [sumI]
     rw [ih (by omega), take_snoc (by omega), List.map_append, List.sum_append]
     simp
 have h := this l.length (Nat.le_refl _)
 rwa [List.take_length] at h
def valC (p : Int) (c : Chn) : Int := if (decide (c.lo ≤ p) && decide (p < c.hi)) = true then c.area else 0
theorem valF_sum (l : List Chn) (p : Int) : valF l p = (l.map (valC p)).sum := sumI_map (f := valC p) l
theorem valC_off {p : Int} {c : Chn} : (decide (c.lo ≤ p) && decide (p < c.hi)) = !offB p c := by
 unfold offB
 by_cases h1 : c.lo ≤ p <;> by_cases h2 : p < c.hi <;> simp [h1, h2] <;> omega
theorem val_filter (p : Int) : ∀ l : List Chn, valF (l.filter fun c => !offB p c) p = valF l p := by
 intro l
 rw [valF_sum, valF_sum]
 induction l with
 | nil => rfl
 | cons c l ih =>
   rw [List.filter_cons, List.map_cons, List.sum_cons]
   cases ho : offB p c with
   | true =>
     have : valC p c = 0 := by unfold valC; rw [valC_off, ho]; rfl
     simp only [Bool.not_true, Bool.false_eq_true, if_false]
     rw [this]; omega
   | false =>
     simp only [Bool.not_false, if_true]
     rw [List.map_cons, List.sum_cons, ih]
theorem ok10 (x : Det) (h : detOk x = true) (d p : Int) (h0 : 0 ≤ d) (h1 : d < x.dems.length) (hp : -1048576 ≤ p ∧ p ≤ 1048576) : Ok Tryz.prog 10 [.ag x.c, vi d, vi p] (.tp [vi (valF (supF x d) p), vi 0]) := by
 have hl := supF_len x h d
 have hl2 : (atF x d p).length ≤ 2000 := by have := List.length_filter_le (fun c => !offB p c) (supF x d); unfold atF; omega
 rw [← val_filter p (supF x d)]
 refine zz 25 Tryz.func10 rfl Tryz.call10 rfl (zR (zo rfl (zo rfl (zo rfl (zw (zR (zo rfl (zo rfl (zo rfl ?_)))))))))
 refine zc rfl (ok28 x h d p h0 h1 hp) (zo rfl (zo rfl (zo rfl (zo rfl (zo rfl (zo rfl (zo rfl (zw (zq (zR (zo rfl ?_)))))))))))
 refine zo rfl (zw (zn rfl (rfl) (zk (zR (zo rfl (zo rfl (zc rfl (ok29 (atF x d p) p (by omega) (sup_area h fun c hc => (List.mem_filter.1 hc).1)) (zo rfl (zo rfl ?_)))))))))
 exact zw (Sat.ret (ze rfl rfl))
def overB (x : Det) (p a : Int) : Bool := decide ((mainAt x.bars x.runs a).lx ≤ p) && decide (p ≤ (mainAt x.bars x.runs a).hx)
def overC (x : Det) (p : Int) (c : Chn) : List Int := c.bars.filter (overB x p)
def overN (x : Det) (p : Int) (l : List Chn) (i j : Nat) : List Int := (l.take i).flatMap (overC x p) ++ ((gt l i).bars.take j).filter (overB x p)
theorem overN_zero {x : Det} {p : Int} {l : List Chn} {i : Nat} : overN x p l i 0 = (l.take i).flatMap (overC x p) := by simp [overN]
theorem overN_end {x : Det} {p : Int} {l : List Chn} {i : Nat} (hi : i < l.length) : overN x p l i (gt l i).bars.length = (l.take (i + 1)).flatMap (overC x p) := by
 rw [overN, List.take_length, take_snoc hi, List.flatMap_append]
 simp [overC]
theorem overN_t {x : Det} {p : Int} {l : List Chn} {i j : Nat} (hj : j < (gt l i).bars.length) (h1 : decide ((mainAt x.bars x.runs (gt (gt l i).bars j)).lx ≤ p) = true) (h2 : decide (p ≤ (mainAt x.bars x.runs (gt (gt l i).bars j)).hx) = true) : (overN x p l i j).map ic ++ [[vi (gt (gt l i).bars j)]] = (overN x p l i (j + 1)).map ic := by
 have : overB x p (gt (gt l i).bars j) = true := by simp only [overB, h1, h2]; rfl
 simp only [overN]
 rw [take_snoc hj, List.filter_append, List.filter_cons, if_pos this]
 simp [ic]
theorem overN_f {x : Det} {p : Int} {l : List Chn} {i j : Nat} (hj : j < (gt l i).bars.length) (h : overB x p (gt (gt l i).bars j) = false) : overN x p l i j = overN x p l i (j + 1) := by
 simp only [overN]
 rw [take_snoc hj, List.filter_append, List.filter_cons, if_neg (by simp [h])]
 simp
theorem over1 {x : Det} {p a : Int} (h : decide ((mainAt x.bars x.runs a).lx ≤ p) = false) : overB x p a = false := by simp only [overB, h]; rfl
theorem over2 {x : Det} {p a : Int} (h : decide (p ≤ (mainAt x.bars x.runs a).hx) = false) : overB x p a = false := by simp only [overB, h, Bool.and_false]
theorem chain_len {x : Det} {c : List Int} (hc : c ∈ chs x) : c.length ≤ (total x.runs).toNat + 1 := by
 obtain ⟨i, hi, rfl⟩ := chainsN_mem hc
 exact (chainF_len x _ _).2
theorem overN_len {x : Det} {p : Int} {l : List Chn} {i j n : Nat} (hl : ∀ c ∈ l, c.bars.length ≤ n) (hj : j ≤ n) (hi : i < l.length) : (overN x p l i j).length ≤ i * n + j := by
 have h1 : ∀ l' : List Chn, (∀ c ∈ l', c.bars.length ≤ n) → (l'.flatMap (overC x p)).length ≤ l'.length * n := by
   intro l'
   induction l' with
   | nil => intro _; simp
   | cons c l' ih =>
     intro hc
     have h2 := ih fun c hc' => hc c (List.mem_cons_of_mem _ hc')
     have h3 := hc c (List.mem_cons_self ..)
     have h4 := List.length_filter_le (overB x p) c.bars
     rw [List.flatMap_cons, List.length_append, List.length_cons, Nat.succ_mul]
     unfold overC at *
     omega
 have h2 := h1 (l.take i) fun c hc => hl c (List.mem_of_mem_take hc)
 have h3 : (l.take i).length = i := by simp; omega
 have h4 := List.length_filter_le (overB x p) ((gt l i).bars.take j)
 have h5 : ((gt l (i : Int)).bars.take j).length ≤ j := by simp; omega
 rw [h3] at h2
 simp only [overN, List.length_append]
 omega
def barsF (x : Det) (d p : Int) : List Int := srt ((atF x d p).flatMap (overC x p))
theorem ok19 (x : Det) (h : detOk x = true) (hs : total x.runs ≤ 1000) (d p : Int) (h0 : 0 ≤ d) (h1 : d < x.dems.length) (hp : -1048576 ≤ p ∧ p ≤ 1048576) : Ok Tryz.prog 19 [.ag x.c, vi d, vi p] (.tp [.sl ((barsF x d p).map ic), vi 0]) := by
 have ht := total_le (detP h).runs
 have hcs : (chs x).length ≤ 1000 := by have := chainsN_len x (total x.runs).toNat; unfold chs; omega
 have hsl : (supF x d).length ≤ 1000 := by
   have := supN_len x d (chns x).length
   have : (chns x).length = (chs x).length := by simp [chns]
   unfold supF; omega
 have hal : (atF x d p).length ≤ 1000 := by have := List.length_filter_le (fun c => !offB p c) (supF x d); unfold atF; omega
 have hmem : ∀ c ∈ atF x d p, SupP x d c := fun c hc => supP h (List.mem_filter.1 hc).1
 have hbl : ∀ c ∈ atF x d p, c.bars.length ≤ 1001 := fun c hc => by have := chain_len (hmem c hc).ch; omega
 have h28 := ok28 x h d p h0 h1 hp
 unfold barsF
 generalize atF x d p = l at *
 refine zz 67 Tryz.func19 rfl Tryz.call19 rfl (zR (zo rfl (zo rfl (zo rfl (zw (zR (zo rfl (zo rfl (zo rfl ?_)))))))))
 refine zc rfl h28 (zo rfl (zo rfl (zo rfl (zo rfl (zo rfl (zo rfl (zo rfl (zw (zq (zR (zo rfl ?_)))))))))))
 refine zo rfl (zw (zn rfl (rfl) (zk (zR (zo rfl (zw (zq (zR (zo rfl ?_)))))))))
 refine zo rfl (zo rfl (zw (Sat.loop' (fun _ => True) (fun i => ⟨67, lk [(2, .v (vi p)), (8, .v (.sl (rodRows x.bars x.runs (total x.runs).toNat))), (11, slD 61 1 (((l.take i).flatMap (overC x p)).map ic)), (28, .v (.sl (l.map Chn.c))), (29, .v (vi (l.map Chn.c).length)), (30, .v (vi i))], lkO [(61, slS 1 (((l.take i).flatMap (overC x p)).map ic))]⟩) (l.length) ?_ (trivial) (fun i hi hI => ?_) (fun hI => ?_))))
 exact weakO ⟨rfl, rfl, rfl, rfl, rfl, rfl, trivial⟩ ⟨soS rfl, trivial⟩ (by repeat' (first | exact trivial | exact rfl | exact slD_ment rfl | exact moS | exact mo rfl | refine ⟨?_, ?_⟩)) (by repeat' (first | exact trivial | exact rfl | exact slD_ment rfl | exact moS | exact mo rfl | refine ⟨?_, ?_⟩))
 have hP := hmem _ (gt_mem (l := l) (k := (i : Int)) (by omega) (by omega))
 have hgl := hbl _ (gt_mem (l := l) (k := (i : Int)) (by omega) (by omega))
 refine zR (zo rfl (zw (zq (zy rfl (by simp [hi]) (zk (zq (zb rfl (zR (step_sil (sil_index rfl rfl rfl rfl (by omega) (by first | exact gt_idx (by omega) (by omega) | exact rodRows_at _ _ (by omega) (by omega)) rfl ?_))))))))))
 refine zo rfl (zo rfl (zd rfl rfl (zw (zR (zo rfl (zo rfl (zo rfl (zo rfl (zw (Sat.loop' (fun _ => True) (fun j => ⟨67, lk [(2, .v (vi p)), (8, .v (.sl (rodRows x.bars x.runs (total x.runs).toNat))), (11, slD 61 1 ((overN x p l i j).map ic)), (28, .v (.sl (l.map Chn.c))), (29, .v (vi (l.map Chn.c).length)), (30, .v (vi i)), (35, .v (.sl ((gt l (i : Int)).bars.map ic))), (36, .v (vi ((gt l (i : Int)).bars.map ic).length)), (37, .v (vi j))], lkO [(61, slS 1 ((overN x p l i j).map ic))]⟩) ((gt l (i : Int)).bars.length) ?_ (trivial) (fun j hj hJ => ?_) (fun hJ => ?_)))))))))))
 exact weakO ⟨rfl, rfl, slD_eq rfl (by rw [overN_zero]), rfl, rfl, rfl, rfl, rfl, rfl, trivial⟩ ⟨soS (by rw [overN_zero]; rfl), trivial⟩ (by repeat' (first | exact trivial | exact rfl | exact slD_ment rfl | exact moS | exact mo rfl | refine ⟨?_, ?_⟩)) (by repeat' (first | exact trivial | exact rfl | exact slD_ment rfl | exact moS | exact mo rfl | refine ⟨?_, ?_⟩))
 have hin := hP.inn _ (gt_mem (l := (gt l (i : Int)).bars) (k := (j : Int)) (by omega) (by omega))
 obtain ⟨⟨hin0, hin1⟩, _⟩ := id hin
 refine zR (zo rfl (zw (zq (zy rfl (by simp [hj]) (zk (zq (zb rfl (zR (step_sil (sil_index rfl rfl rfl rfl (by omega) (by first | exact gt_idx (by omega) (by omega) | exact rodRows_at _ _ (by omega) (by omega)) rfl ?_))))))))))
 refine zo rfl (zo rfl (zw (zR (zo rfl (zo rfl (step_sil (sil_index rfl rfl rfl rfl (by omega) (by first | exact gt_idx (by omega) (by omega) | exact rodRows_at _ _ (by omega) (by omega)) rfl ?_)))))))
 refine zo rfl (zc rfl (ok44 x.bars x.runs (gt (gt l (i : Int)).bars (j : Int)) hin.2.1) (zo rfl (zd rfl rfl (zw (zR (zo rfl (zo rfl (zo rfl (zo rfl ?_)))))))))
 refine zo rfl (zo rfl (zT rfl (fun h1 => ?_) (fun h1 => ?_)))
 refine zO (fun _ => rfl) (zh rfl h1 rfl (zh rfl h1 rfl (zh rfl h1 rfl (zh rfl h1 rfl (zp rfl h1 rfl (zw (zC rfl (fun h2 => ?_) (fun h2 => ?_))))))))
 refine zr (zo rfl (zo rfl (zo rfl ?_)))
 first | (refine step_app1 rfl (by first | exact .inl rfl | (right; simp)) rfl rfl rfl rfl rfl rfl (by have := overN_len (x := x) (p := p) hbl (show j ≤ 1001 by omega) hi; rw [List.length_map]; omega) rfl ?_) | (refine step_op rfl rfl rfl ?_)
 refine zo rfl (wn (nb (nq ?_)))
 first | have hr := overN_f hj (over1 h1) | have hr := overN_f hj (over2 h2) | have hr := overN_t hj h1 h2
 exact zr (za rfl (zo rfl (wn (ns trivial (weakO ⟨rfl, rfl, slD_eq rfl (by first | exact congrArg (List.map ic) hr | exact hr), rfl, rfl, rfl, rfl, rfl, rfl, trivial⟩ ⟨by first | exact soS (congrArg (fun y : List Int => slS 1 (y.map ic)) hr) | exact soA rfl hr, trivial⟩ (by repeat' (first | exact trivial | exact rfl | exact slD_ment rfl | exact moS | exact mo rfl | refine ⟨?_, ?_⟩)) (by repeat' (first | exact trivial | exact rfl | exact slD_ment rfl | exact moS | exact mo rfl | refine ⟨?_, ?_⟩)))))))
 refine Sat.skip (nb (nq ?_))
 first | have hr := overN_f hj (over1 h1) | have hr := overN_f hj (over2 h2) | have hr := overN_t hj h1 h2
 exact zr (za rfl (zo rfl (wn (ns trivial (weakO ⟨rfl, rfl, slD_eq rfl (by first | exact congrArg (List.map ic) hr | exact hr), rfl, rfl, rfl, rfl, rfl, rfl, trivial⟩ ⟨by first | exact soS (congrArg (fun y : List Int => slS 1 (y.map ic)) hr) | exact soA rfl hr, trivial⟩ (by repeat' (first | exact trivial | exact rfl | exact slD_ment rfl | exact moS | exact mo rfl | refine ⟨?_, ?_⟩)) (by repeat' (first | exact trivial | exact rfl | exact slD_ment rfl | exact moS | exact mo rfl | refine ⟨?_, ?_⟩)))))))
 refine zt rfl h1 (zt rfl h1 (zt rfl h1 (zt rfl h1 (zP rfl h1 rfl (zw (zn rfl rfl (Sat.skip (nb (nq ?_)))))))))
 first | have hr := overN_f hj (over1 h1) | have hr := overN_f hj (over2 h2) | have hr := overN_t hj h1 h2
 exact zr (za rfl (zo rfl (wn (ns trivial (weakO ⟨rfl, rfl, slD_eq rfl (by first | exact congrArg (List.map ic) hr | exact hr), rfl, rfl, rfl, rfl, rfl, rfl, trivial⟩ ⟨by first | exact soS (congrArg (fun y : List Int => slS 1 (y.map ic)) hr) | exact soA rfl hr, trivial⟩ (by repeat' (first | exact trivial | exact rfl | exact slD_ment rfl | exact moS | exact mo rfl | refine ⟨?_, ?_⟩)) (by repeat' (first | exact trivial | exact rfl | exact slD_ment rfl | exact moS | exact mo rfl | refine ⟨?_, ?_⟩)))))))
 refine zR (zo rfl (zw (zq (zn rfl (by simp) (Sat.exit (xq (xe (nb (nq ?_)))))))))
 exact zr (za rfl (zo rfl (wn (ns trivial (weakO ⟨rfl, rfl, slD_eq rfl (by rw [overN_end hi]), rfl, rfl, rfl, trivial⟩ ⟨soS (by rw [← overN_end hi]; rfl), trivial⟩ (by repeat' (first | exact trivial | exact rfl | exact slD_ment rfl | exact moS | exact mo rfl | refine ⟨?_, ?_⟩)) (by repeat' (first | exact trivial | exact rfl | exact slD_ment rfl | exact moS | exact mo rfl | refine ⟨?_, ?_⟩)))))))
 refine zR (zo rfl (zw (zq (zn rfl (by simp) (Sat.exit (xq (xe (nq ?_))))))))
 rw [List.take_length]
 have hfl : (l.flatMap (overC x p)).length < 4611686018427387904 := by
   rcases Nat.eq_zero_or_pos l.length with h0 | h0
   · rw [List.eq_nil_of_length_eq_zero h0]; simp
   · have h2 := overN_len (x := x) (p := p) (i := l.length - 1) (j := (gt l ((l.length - 1 : Nat) : Int)).bars.length) hbl (hbl _ (gt_mem (by omega) (by omega))) (by omega)
     rw [overN_end (by omega), Nat.sub_add_cancel h0, List.take_length] at h2
     have h3 := hbl _ (gt_mem (l := l) (k := ((l.length - 1 : Nat) : Int)) (by omega) (by omega))
     omega
 refine zq (Sat.xto tabOk (⟨67, lk [(11, slD 61 1 ((srt (l.flatMap (overC x p))).map ic))], lkO [(61, slS 1 ((srt (l.flatMap (overC x p))).map ic))]⟩) ?_ ?_)
 refine wx (step_sil (zO (fun _ => rfl) ?_))
 exact x_call rfl rfl (sort_do 61 (l.flatMap (overC x p)) hfl rfl) (wnX (weakO ⟨d_eq rfl (slD_congr (by simp [srt_len])), trivial⟩ ⟨soS rfl, trivial⟩ (by repeat' (first | exact trivial | exact rfl | exact slD_ment rfl | exact moS | exact mo rfl | refine ⟨?_, ?_⟩)) (by repeat' (first | exact trivial | exact rfl | exact slD_ment rfl | exact moS | exact mo rfl | refine ⟨?_, ?_⟩))))
 exact nq (zq (Sat.pubS 11 rfl rfl (zr (zo rfl (zo rfl (zo rfl (zw (Sat.ret (ze rfl rfl)))))))))
end Go.Proofs.YtamjajacnfmgeaaGreat
namespace Go.Proofs.YtamjajacnfmgeaaGreat
open Go Go.RowKit
theorem srt_pairwise (l : List Int) : (srt l).Pairwise (· ≤ ·) := by
 have := List.pairwise_mergeSort (le := fun x y : Int => decide (x ≤ y)) (fun a b c h1 h2 => by simp at *; omega) (fun a b => by simp; omega) l
 exact this.imp fun h => by simpa using h
theorem srt_mem {l : List Int} {a : Int} : a ∈ srt l ↔ a ∈ l := List.mem_mergeSort
theorem arr_get (l : List Int) {i : Nat} (h : i < l.length) : l.toArray[i]! = l[i] := by simp [getElem!_pos, h]
theorem pair_le {l : List Int} (h : l.Pairwise (· ≤ ·)) {i j : Nat} (hij : i ≤ j) (hj : j < l.length) : l[i]'(by omega) ≤ l[j] := by
 rcases Nat.lt_or_eq_of_le hij with hlt | rfl
 · exact List.pairwise_iff_getElem.1 h i j (by omega) hj hlt
 · omega
theorem cpt_pairwise {l : List Int} (h : l.Pairwise (· ≤ ·)) : (cpt l).Pairwise (· < ·) := by
 unfold cpt Lib.compact Lib.compactUpTo
 rw [List.pairwise_map]
 have h1 := (List.pairwise_lt_range (n := l.length)).filter (Lib.keeps l.toArray)
 refine h1.imp_of_mem fun {a b} ha hb hab => ?_
 obtain ⟨ha1, _⟩ := List.mem_filter.1 ha
 obtain ⟨hb1, hb2⟩ := List.mem_filter.1 hb
 have ha1 := List.mem_range.1 ha1
 have hb1 := List.mem_range.1 hb1
 simp only [Lib.keeps, decide_eq_true_eq] at hb2
 have hne := hb2.resolve_left (by omega)
 rw [arr_get l ha1, arr_get l hb1]
 rw [arr_get l hb1, arr_get l (by omega)] at hne
 have e1 := pair_le h (i := a) (j := b - 1) (by omega) (by omega)
 have e2 := pair_le h (i := b - 1) (j := b) (by omega) hb1
 omega
theorem cpt_mem {l : List Int} {a : Int} : a ∈ cpt l ↔ a ∈ l := by
 unfold cpt Lib.compact Lib.compactUpTo
 simp only [List.mem_map, List.mem_filter, List.mem_range]
 constructor
 · rintro ⟨i, ⟨h1, _⟩, rfl⟩
   rw [arr_get l h1]
   exact List.getElem_mem _
 · intro ha
   obtain ⟨i, hi, rfl⟩ := List.mem_iff_getElem.1 ha
   have : ∀ n (hn : n < l.length), ∃ j, ∃ hj : j < l.length, l[j] = l[n] ∧ (j = 0 ∨ l[j]! ≠ l[j - 1]!) := by
     intro n
     induction n with
     | zero => intro hn; exact ⟨0, hn, rfl, .inl rfl⟩
     | succ n ih =>
       intro hn
       by_cases he : l[n + 1] = l[n]
       · obtain ⟨j, hj, e, h2⟩ := ih (by omega)
         exact ⟨j, hj, e.trans he.symm, h2⟩
       · refine ⟨n + 1, hn, rfl, .inr ?_⟩
         rw [getElem!_pos l (n + 1) hn, getElem!_pos l (n + 1 - 1) (by omega)]
         exact he
   obtain ⟨j, hj, e, h2⟩ := this i hi
   refine ⟨j, ⟨hj, ?_⟩, by rw [arr_get l hj, e]⟩
   simp only [Lib.keeps, decide_eq_true_eq]
   rcases h2 with h2 | h2
   · exact .inl h2
   · refine .inr ?_
     rw [getElem!_pos l j hj, getElem!_pos l (j - 1) (by omega)] at h2
     rw [arr_get l hj, arr_get l (by omega)]
     exact h2
theorem gt_pair {l : List Int} (h : l.Pairwise (· < ·)) {i j : Nat} (hij : i < j) (hj : j < l.length) : gt l (i : Int) < gt l (j : Int) := by
 rw [gt_get (by omega), gt_get hj]
 exact List.pairwise_iff_getElem.1 h i j (by omega) hj hij
end Go.Proofs.YtamjajacnfmgeaaGreat
