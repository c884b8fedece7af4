/-
  The plain law: the first place that fails, and the bars behind a supply. Condition: none.
-/
import Derived.Test.YtamjajacnfmgeaaGreatK41
set_option linter.all false
namespace Go.Proofs.YtamjajacnfmgeaaGreat
open Go Go.RowKit
set_option maxHeartbeats 1000000
theorem sp_head (l : List Prt) : ∀ n : Nat, n ≤ l.length → (spN l n = [] ∧ ∀ k : Nat, k < n → (gt l k).wants ≤ (gt l k).there) ∨
    ∃ (s : Spn) (r : List Spn) (k : Nat), spN l n = s :: r ∧ k < n ∧ s.lo = (gt l k).lo ∧ (gt l k).there < (gt l k).wants ∧ ∀ j : Nat, j < k → (gt l j).wants ≤ (gt l j).there
  | 0, _ => .inl ⟨rfl, fun k hk => absurd hk (by omega)⟩
  | n + 1, hn => by
    have ih := sp_head l n (by omega)
    simp only [spN]
    by_cases hw : (gt l n).wants ≤ (gt l n).there
    · rw [if_pos hw]
      rcases ih with ⟨h1, h2⟩ | ⟨s, r, k, h1, h2, h3⟩
      · refine .inl ⟨h1, fun k hk => ?_⟩
        by_cases e : k = n
        · subst e; exact hw
        · exact h2 k (by omega)
      · exact .inr ⟨s, r, k, h1, by omega, h3⟩
    · rw [if_neg hw]
      rcases ih with ⟨h1, h2⟩ | ⟨s, r, k, h1, h2, h3, h4, h5⟩
      · rw [h1, if_neg (by simp)]
        exact .inr ⟨_, [], n, rfl, by omega, rfl, by omega, fun j hj => h2 j hj⟩
      · rw [h1]
        split
        · cases r with
          | nil => exact .inr ⟨_, [], k, rfl, by omega, h3, h4, h5⟩
          | cons t r => exact .inr ⟨s, _, k, rfl, by omega, h3, h4, h5⟩
        · exact .inr ⟨s, _, k, rfl, by omega, h3, h4, h5⟩
def want (x : Det) (d p : Int) : Int := stepAt (gt x.dems d).steps p
def have_ (x : Det) (d p : Int) : Int := valF (supF x d) p
section
variable {x : Det} {d : Int} (h : detOk x = true) (h0 : 0 ≤ d) (h1 : d < x.dems.length) (hl : (raw x d).length ≤ 200)
include h h0 h1
theorem want_st (p : Int) : want x d p = stF (gt x.dems d).steps p := stepAt_eq (stepsP (dstep_ok h h0 h1)) p
omit h0 h1 in
include hl in
theorem ofF_at (p : Int) : stepAt (ofF x d) p = have_ x d p := by
 rw [stepAt_eq (stepsP (ofF_ok h hl)) p]; exact ofF_val h hl p
omit h h0 h1 in
theorem pls_mem {a : Int} : a ∈ pls x d ↔ ∃ s ∈ both x d, s.fr = a := by
 unfold pls; rw [cpt_mem, srt_mem, List.mem_map]
omit h h0 h1 in
theorem pls_lt : (pls x d).Pairwise (· < ·) := cpt_pairwise (srt_pairwise _)
include hl in
theorem place (p : Int) : (want x d p = 0 ∧ have_ x d p = 0 ∧ ∀ q ∈ pls x d, p < q) ∨ ∃ k : Nat, k < (pls x d).length ∧ gt (pls x d) k ≤ p ∧ (∀ j : Nat, k < j → j < (pls x d).length → p < gt (pls x d) j) ∧ want x d p = want x d (gt (pls x d) k) ∧ have_ x d p = have_ x d (gt (pls x d) k) := by
 rcases last_le (pls_lt (x := x) (d := d)) p with h2 | ⟨k, h2, h3, h4⟩
 · refine .inl ⟨?_, ?_, h2⟩
   · rw [want_st h h0 h1]
     exact stF_zero _ fun s hs => h2 _ (pls_mem.2 ⟨s, List.mem_append_right _ hs, rfl⟩)
   · rw [← ofF_at h hl, stepAt_eq (stepsP (ofF_ok h hl)) p]
     exact stF_zero _ fun s hs => h2 _ (pls_mem.2 ⟨s, List.mem_append_left _ hs, rfl⟩)
 · have hn := none_in (pls_lt (x := x) (d := d)) h2 h4
   refine .inr ⟨k, h2, h3, h4, ?_, ?_⟩
   · rw [want_st h h0 h1, want_st h h0 h1]
     exact (stF_const h3 _ fun s hs => hn _ (pls_mem.2 ⟨s, List.mem_append_right _ hs, rfl⟩)).symm
   · rw [← ofF_at h hl, ← ofF_at h hl, stepAt_eq (stepsP (ofF_ok h hl)), stepAt_eq (stepsP (ofF_ok h hl))]
     exact (stF_const h3 _ fun s hs => hn _ (pls_mem.2 ⟨s, List.mem_append_left _ hs, rfl⟩)).symm
omit h h0 h1 in
theorem prts_gt {k : Nat} (hk : k < (pls x d).length) : gt (prts x d) k = prt x d k := rangeM_gt (f := prt x d) (by omega) (by omega)
include hl in
theorem no_span (hs : spans x d = []) (p : Int) : want x d p ≤ have_ x d p := by
 rcases place h h0 h1 hl p with ⟨a, b, _⟩ | ⟨k, a, _, _, b, c⟩
 · omega
 · rcases sp_head (prts x d) (prts x d).length (Nat.le_refl _) with ⟨_, h2⟩ | ⟨s, r, k, h2, _⟩
   · have := h2 k (by rw [prts_len]; exact a)
     rw [prts_gt a] at this
     rw [b, c, ← ofF_at h hl]
     exact this
   · unfold spans at hs; rw [hs] at h2; cases h2
include hl in
theorem first_span {s : Spn} {r : List Spn} (hs : spans x d = s :: r) : have_ x d s.lo < want x d s.lo ∧ (∀ p, p < s.lo → want x d p ≤ have_ x d p) ∧ -1048576 ≤ s.lo ∧ s.lo ≤ 1048576 := by
 rcases sp_head (prts x d) (prts x d).length (Nat.le_refl _) with ⟨h2, _⟩ | ⟨s', r', k, h2, h3, h4, h5, h6⟩
 · unfold spans at hs; rw [hs] at h2; cases h2
 · unfold spans at hs
   rw [hs] at h2; cases h2
   rw [prts_len] at h3
   rw [prts_gt h3] at h4 h5
   have e : s.lo = gt (pls x d) k := h4
   have hin := pls_gt h h0 h1 hl (k := (k : Int)) (by omega) (by omega)
   refine ⟨?_, fun p hp => ?_, by omega, by omega⟩
   · rw [e, ← ofF_at h hl]; exact h5
   · rcases place h h0 h1 hl p with ⟨a, b, _⟩ | ⟨j, a, a2, a3, b, c⟩
     · omega
     · have hjk : j < k := by
         rcases Nat.lt_trichotomy j k with h7 | h7 | h7
         · exact h7
         · subst h7; omega
         · have := gt_pair (pls_lt (x := x) (d := d)) h7 a; omega
       have := h6 j hjk
       rw [prts_gt a] at this
       rw [b, c, ← ofF_at h hl]
       exact this
end
theorem sum_nonneg {l : List Int} (h : ∀ a ∈ l, 0 ≤ a) : 0 ≤ l.sum := by
 induction l with
 | nil => simp
 | cons a l ih =>
   have := h a (List.mem_cons_self ..)
   have := ih fun b hb => h b (List.mem_cons_of_mem _ hb)
   simp only [List.sum_cons]; omega
theorem sum_pos {l : List Int} (h : ∀ a ∈ l, 0 ≤ a) {b : Int} (hb : b ∈ l) (hb1 : 1 ≤ b) : 1 ≤ l.sum := by
 induction l with
 | nil => cases hb
 | cons a l ih =>
   have h1 := h a (List.mem_cons_self ..)
   have h2 := sum_nonneg fun b hb => h b (List.mem_cons_of_mem _ hb)
   simp only [List.sum_cons]
   rcases List.mem_cons.1 hb with rfl | hb
   · omega
   · have := ih (fun b hb => h b (List.mem_cons_of_mem _ hb)) hb; omega
theorem valC_in {x : Det} (h : detOk x = true) {d p : Int} {c : Chn} (hc : c ∈ supF x d) : 0 ≤ valC p c := by
 have := (supP h hc).area
 unfold valC; split <;> omega
theorem have_pos {x : Det} (h : detOk x = true) {d p : Int} : 0 < have_ x d p ↔ ∃ c ∈ supF x d, c.lo ≤ p ∧ p < c.hi := by
 have hn : ∀ a ∈ (supF x d).map (valC p), 0 ≤ a := fun a ha => by
   obtain ⟨c, hc, rfl⟩ := List.mem_map.1 ha
   exact valC_in h hc
 unfold have_
 rw [valF_sum]
 constructor
 · intro hp
   by_cases hx : ∃ c ∈ supF x d, c.lo ≤ p ∧ p < c.hi
   · exact hx
   · exfalso
     have : ∀ l : List Chn, (∀ c ∈ l, c ∈ supF x d) → (l.map (valC p)).sum = 0 := by
       intro l
       induction l with
       | nil => intro _; rfl
       | cons c l ih =>
         intro hl
         rw [List.map_cons, List.sum_cons, ih fun c hc => hl c (List.mem_cons_of_mem _ hc)]
         have : ¬(c.lo ≤ p ∧ p < c.hi) := fun hh => hx ⟨c, hl c (List.mem_cons_self ..), hh⟩
         unfold valC
         rw [if_neg (by simp only [Bool.and_eq_true, decide_eq_true_eq]; exact this)]; rfl
     rw [this _ fun c hc => hc] at hp
     omega
 · rintro ⟨c, hc, h1, h2⟩
   have := sum_pos hn (List.mem_map_of_mem hc) (by
     unfold valC
     rw [if_pos (by simp only [Bool.and_eq_true, decide_eq_true_eq]; exact ⟨h1, h2⟩)]
     exact (supP h hc).area.1)
   omega
def hxOf (x : Det) (a : Int) : Int := (mainAt x.bars x.runs a).hx
theorem chain_cover {x : Det} (h : detOk x = true) : ∀ (f : Nat) (i p : Int), lxOf x i ≤ p → p ≤ hxOf x (gt (chainF x f i) (((chainF x f i).length : Int) - 1)) → ∃ a ∈ chainF x f i, lxOf x a ≤ p ∧ p ≤ hxOf x a := by
 intro f
 induction f with
 | zero =>
   intro i p h1 h2
   have e : gt (chainF x 0 i) (((chainF x 0 i).length : Int) - 1) = i := rfl
   rw [e] at h2
   exact ⟨i, List.mem_singleton.2 rfl, h1, h2⟩
 | succ f ih =>
   intro i p h1 h2
   by_cases hb : nxB x i = true
   · have ec : chainF x (f + 1) i = i :: chainF x f (nxV x i) := by simp only [chainF]; rw [if_pos hb]
     rw [ec] at h2 ⊢
     by_cases hi : p ≤ hxOf x i
     · exact ⟨i, List.mem_cons_self .., h1, hi⟩
     · obtain ⟨j, g1, g2, g3, g4⟩ := nx_joint h hb
       obtain ⟨p1, p2, p3, p4, p5, p6, p7⟩ := joint_parts g4
       have p8 : lxOf x (nxV x i) ≤ hxOf x i := by rw [g3, g2]; exact p7
       have hlen := chainF_len x f (nxV x i)
       have e : gt (i :: chainF x f (nxV x i)) (((i :: chainF x f (nxV x i)).length : Int) - 1) = gt (chainF x f (nxV x i)) (((chainF x f (nxV x i)).length : Int) - 1) := by
         have e1 : (((i :: chainF x f (nxV x i)).length : Int) - 1) = (((chainF x f (nxV x i)).length : Nat) : Int) := by simp
         have e2 : (((chainF x f (nxV x i)).length : Int) - 1) = (((chainF x f (nxV x i)).length - 1 : Nat) : Int) := by omega
         rw [e1, e2, gt_get (by simp), gt_get (by omega)]
         rw [List.getElem_cons]
         rw [dif_neg (by omega)]
       rw [e] at h2
       obtain ⟨a, ha, h3⟩ := ih (nxV x i) p (by omega) h2
       exact ⟨a, List.mem_cons_of_mem _ ha, h3⟩
   · have ec : chainF x (f + 1) i = [i] := by simp only [chainF]; rw [if_neg hb]
     rw [ec] at h2 ⊢
     have e : gt [i] ((([i] : List Int).length : Int) - 1) = i := rfl
     rw [e] at h2
     exact ⟨i, List.mem_singleton.2 rfl, h1, h2⟩
theorem bars_pos {x : Det} (h : detOk x = true) {d p : Int} : 0 < have_ x d p ↔ 0 < (barsF x d p).length := by
 have hlen : (barsF x d p).length = ((atF x d p).flatMap (overC x p)).length := srt_len _
 rw [have_pos h, hlen]
 constructor
 · rintro ⟨c, hc, h1, h2⟩
   have hP := supP h hc
   have hch := chainP h hP.ch
   have his := hP.is
   have e1 : c.lo = chLo x c.bars := by rw [hP.eq]; simp [chnOf, his]
   have e2 : c.hi = chHi x c.bars := by rw [hP.eq]; simp [chnOf, his]
   have hD := detP h
   have hf : inTot x (chFirst c.bars) := hch.at (by omega) (by have := hch.pos; omega)
   have hl : inTot x (chLast c.bars) := hch.at (by have := hch.pos; omega) (by omega)
   have n1 := lenF_in (rulP hD.rule) (size_in (barOk_size (barO_ok hD.runs hf))) (poorF x.mem (mainOf (legO x (chFirst c.bars)))) (bentLo (legO x (chFirst c.bars)))
   have n2 := lenF_in (rulP hD.rule) (size_in (barOk_size (barO_ok hD.runs hl))) (poorF x.mem (mainOf (legO x (chLast c.bars)))) (bentHi (legO x (chLast c.bars)))
   obtain ⟨i, hi, ei⟩ := chainsN_mem hP.ch
   have hov : ∃ a ∈ c.bars, lxOf x a ≤ p ∧ p ≤ hxOf x a := by
     have q1 : lxOf x (chFirst c.bars) ≤ p := by
       unfold chLo endLo at e1; unfold lxOf; omega
     have q2 : p ≤ hxOf x (chLast c.bars) := by
       unfold chHi endHi at e2; unfold hxOf; omega
     have ef : chFirst c.bars = i := by
       rw [ei]
       unfold chFirst chainOf
       cases (total x.runs).toNat with
       | zero => rfl
       | succ f =>
         simp only [chainF]
         split <;> rfl
     rw [ef] at q1
     have := chain_cover h (total x.runs).toNat i p q1 (by
       unfold chLast at q2
       rw [ei] at q2
       exact q2)
     rw [ei]; exact this
   obtain ⟨a, ha, h3, h4⟩ := hov
   refine List.length_pos_of_mem (a := a) (List.mem_flatMap.2 ⟨c, List.mem_filter.2 ⟨hc, ?_⟩, List.mem_filter.2 ⟨ha, ?_⟩⟩)
   · rw [← valC_off]; simp only [Bool.and_eq_true, decide_eq_true_eq]; exact ⟨h1, h2⟩
   · simp only [overB, Bool.and_eq_true, decide_eq_true_eq]; exact ⟨h3, h4⟩
 · intro hp
   obtain ⟨a, ha⟩ := List.exists_mem_of_length_pos hp
   obtain ⟨c, hc, _⟩ := List.mem_flatMap.1 ha
   obtain ⟨hc, ho⟩ := List.mem_filter.1 hc
   rw [← valC_off] at ho
   simp only [Bool.and_eq_true, decide_eq_true_eq] at ho
   exact ⟨c, hc, ho⟩
theorem bars_ok {x : Det} (h : detOk x = true) {d p : Int} {a : Int} (ha : a ∈ barsF x d p) : inTot x a ∧ hasMain x.bars x.runs a = true ∧ demIn (gt x.dems d) (mainAt x.bars x.runs a) = true ∧ (mainAt x.bars x.runs a).lx ≤ p ∧ p ≤ (mainAt x.bars x.runs a).hx := by
 unfold barsF at ha
 rw [srt_mem] at ha
 obtain ⟨c, hc, ha⟩ := List.mem_flatMap.1 ha
 obtain ⟨hc, _⟩ := List.mem_filter.1 hc
 obtain ⟨ha, hb⟩ := List.mem_filter.1 ha
 obtain ⟨h1, h2, h3⟩ := (supP h hc).inn a ha
 simp only [overB, Bool.and_eq_true, decide_eq_true_eq] at hb
 exact ⟨h1, h2, h3, hb⟩
end Go.Proofs.YtamjajacnfmgeaaGreat
