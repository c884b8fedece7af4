/-
  Contracts: paths of bars in the references. Condition: of a valid bar.
-/
import Derived.Test.YtamjajacnfmgeaaGreatK18
set_option linter.all false
namespace Go.Proofs.YtamjajacnfmgeaaGreat
open Go Go.RowKit
set_option maxHeartbeats 1000000
def movesOf (b : Bar) : List Pt :=
  if b.code == 11 then [⟨gt b.dims 0, 0, 0⟩, ⟨0, gt b.dims 1, 0⟩]
  else if b.code == 21 then [⟨0, -gt b.dims 0, 0⟩, ⟨gt b.dims 1, 0, 0⟩, ⟨0, gt b.dims 2, 0⟩]
  else if b.code == 26 then [⟨gt b.dims 0, 0, 0⟩, ⟨0, gt b.dims 1, 0⟩, ⟨gt b.dims 2, 0, 0⟩]
  else if b.code == 31 then [⟨gt b.dims 0, 0, 0⟩, ⟨0, gt b.dims 1, 0⟩, ⟨0, 0, gt b.dims 2⟩]
  else if b.code == 41 then [⟨gt b.dims 0, 0, 0⟩, ⟨0, gt b.dims 1, 0⟩, ⟨gt b.dims 2, 0, 0⟩, ⟨0, -gt b.dims 3, 0⟩, ⟨gt b.dims 4, 0, 0⟩]
  else if b.code == 51 then [⟨0, -gt b.dims 2, 0⟩, ⟨gt b.dims 0, 0, 0⟩, ⟨0, gt b.dims 1, 0⟩, ⟨-gt b.dims 0, 0, 0⟩, ⟨0, -gt b.dims 1, 0⟩, ⟨gt b.dims 2, 0, 0⟩]
  else if b.code == 98 then [⟨0, 0, gt b.dims 0⟩, ⟨0, -gt b.dims 1, 0⟩, ⟨gt b.dims 2, 0, 0⟩, ⟨0, gt b.dims 1, 0⟩, ⟨0, 0, gt b.dims 0⟩]
  else [⟨gt b.dims 0, 0, 0⟩]
structure BarP (b : Bar) : Prop where
  len : (b.dims.length : Int) = dimsOf b.code
  pos : 1 ≤ dimsOf b.code
  dim : ∀ j : Nat, j < b.dims.length → 1 ≤ gt b.dims j ∧ gt b.dims j ≤ 262144
  sum : sumI b.dims.length (fun i => gt b.dims i) ≤ 262144
theorem sumI_mem {f : Nat → Int} : ∀ {n : Nat} {j : Nat}, (∀ j, j < n → 0 ≤ f j) → j < n → f j ≤ sumI n f
  | n + 1, j, h, hj => by
    simp only [sumI]
    have h0 := h n (by omega)
    rcases Nat.lt_or_ge j n with h1 | h1
    · have := sumI_mem (fun j hj => h j (by omega)) h1
      omega
    · have : j = n := by omega
      subst this
      have : ∀ m, m ≤ j → 0 ≤ sumI m f := by
        intro m hm
        induction m with
        | zero => simp [sumI]
        | succ m ih => have := ih (by omega); have := h m (by omega); simp only [sumI]; omega
      have := this j (Nat.le_refl j)
      omega
theorem barP {b : Bar} (h : barOk b = true) : BarP b := by
 simp only [barOk, Bool.and_eq_true, Bool.not_eq_true', bne_eq_false_iff_eq, beq_eq_false_iff_ne, ne_eq, decide_eq_true_eq] at h
 obtain ⟨⟨⟨⟨⟨⟨h1, h2⟩, h3⟩, h4⟩, h5⟩, h6⟩, h7, h8⟩ := h
 have hd : ∀ j : Nat, j < b.dims.length → 1 ≤ gt b.dims j := fun j hj => by
   have := allN_iff.1 h7 j hj
   simp only [dimOk, Bool.and_eq_true, Bool.not_eq_true', decide_eq_false_iff_not] at this
   omega
 have hc := dimsOf_le b.code
 refine ⟨h6, by omega, fun j hj => ⟨hd j hj, ?_⟩, h8⟩
 have := sumI_mem (f := fun i => gt b.dims i) (n := b.dims.length) (j := j) (fun j hj => by have := hd j hj; omega) hj
 omega
theorem BarP.le {b : Bar} (h : BarP b) {k : Int} (h0 : 0 ≤ k) (hk : k < dimsOf b.code) : 1 ≤ gt b.dims k ∧ gt b.dims k ≤ 262144 := by
 have := h.dim k.toNat (by have := h.len; omega)
 have e : ((k.toNat : Nat) : Int) = k := by omega
 rwa [e] at this
theorem ok190 (b : Bar) (hb : BarP b) : Ok Tryz.prog 190 [.ag b.c] (.sl ((movesOf b).map Pt.c)) := by
 have hp := hb.pos
 have hl := hb.len
 have hd : ∀ k : Int, 0 ≤ k → k < dimsOf b.code → i64R (-gt b.dims k) := fun k h0 h1 => by have := hb.le h0 h1; constructor <;> omega
 unfold movesOf
 refine zz 148 Tryz.func190 rfl Tryz.call190 rfl (zR (zo rfl (zo rfl (zw (zR (zo rfl (zo rfl (zo rfl (zw (zq (zR (zo rfl ?_))))))))))))
 refine zo rfl (zw (zb rfl (zR (zo rfl (zo rfl (zw (zC rfl (fun h1 => ?_) (fun h1 => ?_))))))))
 refine zq (Sat.dwN tabOk mixed [] [8] [0, 1, 2, 3, 4, 5, 6, 7, 8, 9] (by decide) (by kernel_rfl) (walk_sil rfl rfl (zO (fun _ => rfl) ?_)))
 refine walk_sil rfl rfl (sil_index rfl rfl rfl rfl (by omega) (gt_idx (by omega) (by rw [hl]; first | omega | (simp_all [dimsOf]; done))) rfl ?_)
 refine walk_sil rfl rfl (zO (fun _ => rfl) ?_)
 refine walk_sil rfl rfl (zO (fun _ => rfl) ?_)
 refine walk_sil rfl rfl (zO (fun _ => rfl) ?_)
 refine walk_sil rfl rfl (sil_index rfl rfl rfl rfl (by omega) (gt_idx (by omega) (by rw [hl]; first | omega | (simp_all [dimsOf]; done))) rfl ?_)
 refine walk_sil rfl rfl (zO (fun _ => rfl) ?_)
 refine walk_sil rfl rfl (zO (fun _ => rfl) ?_)
 refine walk_eff rfl rfl (step_op rfl rfl rfl ⟨fun _ => ovr_eq trivial, ?_⟩)
 refine walk_sil rfl rfl (zO (fun _ => rfl) ?_)
 exact kn (nq (Sat.ret (rb (rq (ze rfl (by simp only [*, Bool.false_eq_true, if_true, if_false]; rfl))))))
 refine zR (zo rfl (zo rfl (zw (zC rfl (fun h2 => ?_) (fun h2 => ?_)))))
 refine zq (Sat.dwN tabOk mixed [] [13] [0, 1, 2, 3, 4, 5, 6, 7, 8, 9, 10, 11, 12, 13, 14] (by decide) (by kernel_rfl) (walk_sil rfl rfl (zO (fun _ => rfl) ?_)))
 refine walk_sil rfl rfl (sil_index rfl rfl rfl rfl (by omega) (gt_idx (by omega) (by rw [hl]; first | omega | (simp_all [dimsOf]; done))) rfl ?_)
 refine walk_sil rfl rfl (zO (fun _ => rfl) ?_)
 refine walk_sil rfl rfl (sil_neg rfl rfl (by exact hd _ (by omega) (by simp_all [dimsOf])) ?_)
 refine walk_sil rfl rfl (zO (fun _ => rfl) ?_)
 refine walk_sil rfl rfl (zO (fun _ => rfl) ?_)
 refine walk_sil rfl rfl (sil_index rfl rfl rfl rfl (by omega) (gt_idx (by omega) (by rw [hl]; first | omega | (simp_all [dimsOf]; done))) rfl ?_)
 refine walk_sil rfl rfl (zO (fun _ => rfl) ?_)
 refine walk_sil rfl rfl (zO (fun _ => rfl) ?_)
 refine walk_sil rfl rfl (zO (fun _ => rfl) ?_)
 refine walk_sil rfl rfl (sil_index rfl rfl rfl rfl (by omega) (gt_idx (by omega) (by rw [hl]; first | omega | (simp_all [dimsOf]; done))) rfl ?_)
 refine walk_sil rfl rfl (zO (fun _ => rfl) ?_)
 refine walk_sil rfl rfl (zO (fun _ => rfl) ?_)
 refine walk_eff rfl rfl (step_op rfl rfl rfl ⟨fun _ => ovr_eq trivial, ?_⟩)
 refine walk_sil rfl rfl (zO (fun _ => rfl) ?_)
 exact kn (nq (Sat.ret (rb (rq (ze rfl (by simp only [*, Bool.false_eq_true, if_true, if_false]; rfl))))))
 refine zR (zo rfl (zo rfl (zw (zC rfl (fun h3 => ?_) (fun h3 => ?_)))))
 refine zq (Sat.dwN tabOk mixed [] [12] [0, 1, 2, 3, 4, 5, 6, 7, 8, 9, 10, 11, 12, 13] (by decide) (by kernel_rfl) (walk_sil rfl rfl (zO (fun _ => rfl) ?_)))
 refine walk_sil rfl rfl (sil_index rfl rfl rfl rfl (by omega) (gt_idx (by omega) (by rw [hl]; first | omega | (simp_all [dimsOf]; done))) rfl ?_)
 refine walk_sil rfl rfl (zO (fun _ => rfl) ?_)
 refine walk_sil rfl rfl (zO (fun _ => rfl) ?_)
 refine walk_sil rfl rfl (zO (fun _ => rfl) ?_)
 refine walk_sil rfl rfl (sil_index rfl rfl rfl rfl (by omega) (gt_idx (by omega) (by rw [hl]; first | omega | (simp_all [dimsOf]; done))) rfl ?_)
 refine walk_sil rfl rfl (zO (fun _ => rfl) ?_)
 refine walk_sil rfl rfl (zO (fun _ => rfl) ?_)
 refine walk_sil rfl rfl (zO (fun _ => rfl) ?_)
 refine walk_sil rfl rfl (sil_index rfl rfl rfl rfl (by omega) (gt_idx (by omega) (by rw [hl]; first | omega | (simp_all [dimsOf]; done))) rfl ?_)
 refine walk_sil rfl rfl (zO (fun _ => rfl) ?_)
 refine walk_sil rfl rfl (zO (fun _ => rfl) ?_)
 refine walk_eff rfl rfl (step_op rfl rfl rfl ⟨fun _ => ovr_eq trivial, ?_⟩)
 refine walk_sil rfl rfl (zO (fun _ => rfl) ?_)
 exact kn (nq (Sat.ret (rb (rq (ze rfl (by simp only [*, Bool.false_eq_true, if_true, if_false]; rfl))))))
 refine zR (zo rfl (zo rfl (zw (zC rfl (fun h4 => ?_) (fun h4 => ?_)))))
 refine zq (Sat.dwN tabOk mixed [] [12] [0, 1, 2, 3, 4, 5, 6, 7, 8, 9, 10, 11, 12, 13] (by decide) (by kernel_rfl) (walk_sil rfl rfl (zO (fun _ => rfl) ?_)))
 refine walk_sil rfl rfl (sil_index rfl rfl rfl rfl (by omega) (gt_idx (by omega) (by rw [hl]; first | omega | (simp_all [dimsOf]; done))) rfl ?_)
 refine walk_sil rfl rfl (zO (fun _ => rfl) ?_)
 refine walk_sil rfl rfl (zO (fun _ => rfl) ?_)
 refine walk_sil rfl rfl (zO (fun _ => rfl) ?_)
 refine walk_sil rfl rfl (sil_index rfl rfl rfl rfl (by omega) (gt_idx (by omega) (by rw [hl]; first | omega | (simp_all [dimsOf]; done))) rfl ?_)
 refine walk_sil rfl rfl (zO (fun _ => rfl) ?_)
 refine walk_sil rfl rfl (zO (fun _ => rfl) ?_)
 refine walk_sil rfl rfl (zO (fun _ => rfl) ?_)
 refine walk_sil rfl rfl (sil_index rfl rfl rfl rfl (by omega) (gt_idx (by omega) (by rw [hl]; first | omega | (simp_all [dimsOf]; done))) rfl ?_)
 refine walk_sil rfl rfl (zO (fun _ => rfl) ?_)
 refine walk_sil rfl rfl (zO (fun _ => rfl) ?_)
 refine walk_eff rfl rfl (step_op rfl rfl rfl ⟨fun _ => ovr_eq trivial, ?_⟩)
 refine walk_sil rfl rfl (zO (fun _ => rfl) ?_)
 exact kn (nq (Sat.ret (rb (rq (ze rfl (by simp only [*, Bool.false_eq_true, if_true, if_false]; rfl))))))
 refine zR (zo rfl (zo rfl (zw (zC rfl (fun h5 => ?_) (fun h5 => ?_)))))
 refine zq (Sat.dwN tabOk mixed [] [21] [0, 1, 2, 3, 4, 5, 6, 7, 8, 9, 10, 11, 12, 13, 14, 15, 16, 17, 18, 19, 20, 21, 22] (by decide) (by kernel_rfl) (walk_sil rfl rfl (zO (fun _ => rfl) ?_)))
 refine walk_sil rfl rfl (sil_index rfl rfl rfl rfl (by omega) (gt_idx (by omega) (by rw [hl]; first | omega | (simp_all [dimsOf]; done))) rfl ?_)
 refine walk_sil rfl rfl (zO (fun _ => rfl) ?_)
 refine walk_sil rfl rfl (zO (fun _ => rfl) ?_)
 refine walk_sil rfl rfl (zO (fun _ => rfl) ?_)
 refine walk_sil rfl rfl (sil_index rfl rfl rfl rfl (by omega) (gt_idx (by omega) (by rw [hl]; first | omega | (simp_all [dimsOf]; done))) rfl ?_)
 refine walk_sil rfl rfl (zO (fun _ => rfl) ?_)
 refine walk_sil rfl rfl (zO (fun _ => rfl) ?_)
 refine walk_sil rfl rfl (zO (fun _ => rfl) ?_)
 refine walk_sil rfl rfl (sil_index rfl rfl rfl rfl (by omega) (gt_idx (by omega) (by rw [hl]; first | omega | (simp_all [dimsOf]; done))) rfl ?_)
 refine walk_sil rfl rfl (zO (fun _ => rfl) ?_)
 refine walk_sil rfl rfl (zO (fun _ => rfl) ?_)
 refine walk_sil rfl rfl (zO (fun _ => rfl) ?_)
 refine walk_sil rfl rfl (sil_index rfl rfl rfl rfl (by omega) (gt_idx (by omega) (by rw [hl]; first | omega | (simp_all [dimsOf]; done))) rfl ?_)
 refine walk_sil rfl rfl (zO (fun _ => rfl) ?_)
 refine walk_sil rfl rfl (sil_neg rfl rfl (by exact hd _ (by omega) (by simp_all [dimsOf])) ?_)
 refine walk_sil rfl rfl (zO (fun _ => rfl) ?_)
 refine walk_sil rfl rfl (zO (fun _ => rfl) ?_)
 refine walk_sil rfl rfl (sil_index rfl rfl rfl rfl (by omega) (gt_idx (by omega) (by rw [hl]; first | omega | (simp_all [dimsOf]; done))) rfl ?_)
 refine walk_sil rfl rfl (zO (fun _ => rfl) ?_)
 refine walk_sil rfl rfl (zO (fun _ => rfl) ?_)
 refine walk_eff rfl rfl (step_op rfl rfl rfl ⟨fun _ => ovr_eq trivial, ?_⟩)
 refine walk_sil rfl rfl (zO (fun _ => rfl) ?_)
 exact kn (nq (Sat.ret (rb (rq (ze rfl (by simp only [*, Bool.false_eq_true, if_true, if_false]; rfl))))))
 refine zR (zo rfl (zo rfl (zw (zC rfl (fun h6 => ?_) (fun h6 => ?_)))))
 refine zq (Sat.dwN tabOk mixed [] [27] [0, 1, 2, 3, 4, 5, 6, 7, 8, 9, 10, 11, 12, 13, 14, 15, 16, 17, 18, 19, 20, 21, 22, 23, 24, 25, 26, 27, 28] (by decide) (by kernel_rfl) (walk_sil rfl rfl (zO (fun _ => rfl) ?_)))
 refine walk_sil rfl rfl (sil_index rfl rfl rfl rfl (by omega) (gt_idx (by omega) (by rw [hl]; first | omega | (simp_all [dimsOf]; done))) rfl ?_)
 refine walk_sil rfl rfl (zO (fun _ => rfl) ?_)
 refine walk_sil rfl rfl (sil_neg rfl rfl (by exact hd _ (by omega) (by simp_all [dimsOf])) ?_)
 refine walk_sil rfl rfl (zO (fun _ => rfl) ?_)
 refine walk_sil rfl rfl (zO (fun _ => rfl) ?_)
 refine walk_sil rfl rfl (sil_index rfl rfl rfl rfl (by omega) (gt_idx (by omega) (by rw [hl]; first | omega | (simp_all [dimsOf]; done))) rfl ?_)
 refine walk_sil rfl rfl (zO (fun _ => rfl) ?_)
 refine walk_sil rfl rfl (zO (fun _ => rfl) ?_)
 refine walk_sil rfl rfl (zO (fun _ => rfl) ?_)
 refine walk_sil rfl rfl (sil_index rfl rfl rfl rfl (by omega) (gt_idx (by omega) (by rw [hl]; first | omega | (simp_all [dimsOf]; done))) rfl ?_)
 refine walk_sil rfl rfl (zO (fun _ => rfl) ?_)
 refine walk_sil rfl rfl (zO (fun _ => rfl) ?_)
 refine walk_sil rfl rfl (zO (fun _ => rfl) ?_)
 refine walk_sil rfl rfl (sil_index rfl rfl rfl rfl (by omega) (gt_idx (by omega) (by rw [hl]; first | omega | (simp_all [dimsOf]; done))) rfl ?_)
 refine walk_sil rfl rfl (zO (fun _ => rfl) ?_)
 refine walk_sil rfl rfl (sil_neg rfl rfl (by exact hd _ (by omega) (by simp_all [dimsOf])) ?_)
 refine walk_sil rfl rfl (zO (fun _ => rfl) ?_)
 refine walk_sil rfl rfl (zO (fun _ => rfl) ?_)
 refine walk_sil rfl rfl (sil_index rfl rfl rfl rfl (by omega) (gt_idx (by omega) (by rw [hl]; first | omega | (simp_all [dimsOf]; done))) rfl ?_)
 refine walk_sil rfl rfl (zO (fun _ => rfl) ?_)
 refine walk_sil rfl rfl (sil_neg rfl rfl (by exact hd _ (by omega) (by simp_all [dimsOf])) ?_)
 refine walk_sil rfl rfl (zO (fun _ => rfl) ?_)
 refine walk_sil rfl rfl (zO (fun _ => rfl) ?_)
 refine walk_sil rfl rfl (sil_index rfl rfl rfl rfl (by omega) (gt_idx (by omega) (by rw [hl]; first | omega | (simp_all [dimsOf]; done))) rfl ?_)
 refine walk_sil rfl rfl (zO (fun _ => rfl) ?_)
 refine walk_sil rfl rfl (zO (fun _ => rfl) ?_)
 refine walk_eff rfl rfl (step_op rfl rfl rfl ⟨fun _ => ovr_eq trivial, ?_⟩)
 refine walk_sil rfl rfl (zO (fun _ => rfl) ?_)
 exact kn (nq (Sat.ret (rb (rq (ze rfl (by simp only [*, Bool.false_eq_true, if_true, if_false]; rfl))))))
 refine zR (zo rfl (zo rfl (zw (zC rfl (fun h7 => ?_) (fun h7 => ?_)))))
 refine zq (Sat.dwN tabOk mixed [] [21] [0, 1, 2, 3, 4, 5, 6, 7, 8, 9, 10, 11, 12, 13, 14, 15, 16, 17, 18, 19, 20, 21, 22] (by decide) (by kernel_rfl) (walk_sil rfl rfl (zO (fun _ => rfl) ?_)))
 refine walk_sil rfl rfl (sil_index rfl rfl rfl rfl (by omega) (gt_idx (by omega) (by rw [hl]; first | omega | (simp_all [dimsOf]; done))) rfl ?_)
 refine walk_sil rfl rfl (zO (fun _ => rfl) ?_)
 refine walk_sil rfl rfl (zO (fun _ => rfl) ?_)
 refine walk_sil rfl rfl (zO (fun _ => rfl) ?_)
 refine walk_sil rfl rfl (sil_index rfl rfl rfl rfl (by omega) (gt_idx (by omega) (by rw [hl]; first | omega | (simp_all [dimsOf]; done))) rfl ?_)
 refine walk_sil rfl rfl (zO (fun _ => rfl) ?_)
 refine walk_sil rfl rfl (sil_neg rfl rfl (by exact hd _ (by omega) (by simp_all [dimsOf])) ?_)
 refine walk_sil rfl rfl (zO (fun _ => rfl) ?_)
 refine walk_sil rfl rfl (zO (fun _ => rfl) ?_)
 refine walk_sil rfl rfl (sil_index rfl rfl rfl rfl (by omega) (gt_idx (by omega) (by rw [hl]; first | omega | (simp_all [dimsOf]; done))) rfl ?_)
 refine walk_sil rfl rfl (zO (fun _ => rfl) ?_)
 refine walk_sil rfl rfl (zO (fun _ => rfl) ?_)
 refine walk_sil rfl rfl (zO (fun _ => rfl) ?_)
 refine walk_sil rfl rfl (sil_index rfl rfl rfl rfl (by omega) (gt_idx (by omega) (by rw [hl]; first | omega | (simp_all [dimsOf]; done))) rfl ?_)
 refine walk_sil rfl rfl (zO (fun _ => rfl) ?_)
 refine walk_sil rfl rfl (zO (fun _ => rfl) ?_)
 refine walk_sil rfl rfl (zO (fun _ => rfl) ?_)
 refine walk_sil rfl rfl (sil_index rfl rfl rfl rfl (by omega) (gt_idx (by omega) (by rw [hl]; first | omega | (simp_all [dimsOf]; done))) rfl ?_)
 refine walk_sil rfl rfl (zO (fun _ => rfl) ?_)
 refine walk_sil rfl rfl (zO (fun _ => rfl) ?_)
 refine walk_eff rfl rfl (step_op rfl rfl rfl ⟨fun _ => ovr_eq trivial, ?_⟩)
 refine walk_sil rfl rfl (zO (fun _ => rfl) ?_)
 exact kn (nq (Sat.ret (rb (rq (ze rfl (by simp only [*, Bool.false_eq_true, if_true, if_false]; rfl))))))
 refine Sat.skip (nb (nq (zR (zo rfl (step_sil (sil_index rfl rfl rfl rfl (by omega) (gt_idx (by omega) (by rw [hl]; first | omega | (simp_all [dimsOf]; done))) rfl ?_))))))
 exact zo rfl (zo rfl (zo rfl (zo rfl (zw (Sat.ret (ze rfl (by simp only [*, Bool.false_eq_true, if_true, if_false]; rfl)))))))
def un1 (n : Int) : Int := if n = 1 then 1 else if n = -1 then -1 else 0
def un2 (n : Int) : Int := if n = 2 then 1 else if n = -2 then -1 else 0
def un3 (n : Int) : Int := if n = 3 then 1 else if n = -3 then -1 else 0
theorem un_le (n : Int) : (-1 ≤ un1 n ∧ un1 n ≤ 1) ∧ (-1 ≤ un2 n ∧ un2 n ≤ 1) ∧ (-1 ≤ un3 n ∧ un3 n ≤ 1) := by
 unfold un1 un2 un3
 refine ⟨?_, ?_, ?_⟩ <;> split <;> (try split) <;> omega
theorem axis_cases {n : Int} (h : isAxis n = true) : n = 1 ∨ n = 2 ∨ n = 3 ∨ n = -1 ∨ n = -2 ∨ n = -3 := by
 simp only [isAxis, Bool.and_eq_true, decide_eq_true_eq, bne_iff_ne, ne_eq] at h
 omega
theorem ok191_1 : Ok Tryz.prog 191 [vi 1] (.ag [vi 1, vi 0, vi 0]) := by
 refine zz 26 Tryz.func191 rfl Tryz.call191 rfl (zR (zo rfl (zw (zq (zR (zo rfl (zo rfl (zw (zn rfl (rfl) ?_)))))))))
 refine zk (zq (zR (zo rfl (zo rfl (zw (zy rfl (rfl) (zR (zo rfl (zd rfl rfl ?_)))))))))
 exact zw (Sat.ret (rq (ze rfl rfl)))
theorem ok191_2 : Ok Tryz.prog 191 [vi 2] (.ag [vi 0, vi 1, vi 0]) := by
 refine zz 26 Tryz.func191 rfl Tryz.call191 rfl (zR (zo rfl (zw (zq (zR (zo rfl (zo rfl (zw (zn rfl (rfl) ?_)))))))))
 refine zk (zq (zR (zo rfl (zo rfl (zw (zn rfl (rfl) (zk (zq (zR (zo rfl ?_))))))))))
 exact zo rfl (zw (zy rfl (rfl) (zR (zo rfl (zd rfl rfl (zw (Sat.ret (rq (ze rfl rfl)))))))))
theorem ok191_3 : Ok Tryz.prog 191 [vi 3] (.ag [vi 0, vi 0, vi 1]) := by
 refine zz 26 Tryz.func191 rfl Tryz.call191 rfl (zR (zo rfl (zw (zq (zR (zo rfl (zo rfl (zw (zn rfl (rfl) ?_)))))))))
 refine zk (zq (zR (zo rfl (zo rfl (zw (zn rfl (rfl) (zk (zq (zR (zo rfl ?_))))))))))
 exact zo rfl (zw (zn rfl (rfl) (zk (zR (zo rfl (zd rfl rfl (zw (Sat.ret (ze rfl rfl)))))))))
theorem ok191_m1 : Ok Tryz.prog 191 [vi (-1)] (.ag [vi (-1), vi 0, vi 0]) := by
 refine zz 26 Tryz.func191 rfl Tryz.call191 rfl (zR (zo rfl (zw (zq (zR (zo rfl (zo rfl (zw (zy rfl (rfl) ?_)))))))))
 refine zR (zo rfl (zs rfl (zc rfl ok191_1 (zo rfl (zd rfl rfl (zw (zR (zo rfl (zo rfl ?_)))))))))
 refine zs rfl (zo rfl (zo rfl (zs rfl (zo rfl (zo rfl (zs rfl (zo rfl (zd rfl rfl (zw (Sat.ret ?_))))))))))
 exact rq (ze rfl rfl)
theorem ok191_m2 : Ok Tryz.prog 191 [vi (-2)] (.ag [vi 0, vi (-1), vi 0]) := by
 refine zz 26 Tryz.func191 rfl Tryz.call191 rfl (zR (zo rfl (zw (zq (zR (zo rfl (zo rfl (zw (zy rfl (rfl) ?_)))))))))
 refine zR (zo rfl (zs rfl (zc rfl ok191_2 (zo rfl (zd rfl rfl (zw (zR (zo rfl (zo rfl ?_)))))))))
 refine zs rfl (zo rfl (zo rfl (zs rfl (zo rfl (zo rfl (zs rfl (zo rfl (zd rfl rfl (zw (Sat.ret ?_))))))))))
 exact rq (ze rfl rfl)
theorem ok191_m3 : Ok Tryz.prog 191 [vi (-3)] (.ag [vi 0, vi 0, vi (-1)]) := by
 refine zz 26 Tryz.func191 rfl Tryz.call191 rfl (zR (zo rfl (zw (zq (zR (zo rfl (zo rfl (zw (zy rfl (rfl) ?_)))))))))
 refine zR (zo rfl (zs rfl (zc rfl ok191_3 (zo rfl (zd rfl rfl (zw (zR (zo rfl (zo rfl ?_)))))))))
 refine zs rfl (zo rfl (zo rfl (zs rfl (zo rfl (zo rfl (zs rfl (zo rfl (zd rfl rfl (zw (Sat.ret ?_))))))))))
 exact rq (ze rfl rfl)
theorem ok191 (n : Int) (h : isAxis n = true) : Ok Tryz.prog 191 [vi n] (.ag [vi (un1 n), vi (un2 n), vi (un3 n)]) := by
 rcases axis_cases h with rfl | rfl | rfl | rfl | rfl | rfl
 · exact ok191_1
 · exact ok191_2
 · exact ok191_3
 · exact ok191_m1
 · exact ok191_m2
 · exact ok191_m3
theorem ok192 (n x y z : Int) (hx : i64R (n * x)) (hy : i64R (n * y)) (hz : i64R (n * z)) : Ok Tryz.prog 192 [vi n, .ag [vi x, vi y, vi z]] (.ag [vi (n * x), vi (n * y), vi (n * z)]) := by
 refine zz 18 Tryz.func192 rfl Tryz.call192 rfl (zR (zo rfl (zo rfl (zw (zR (zo rfl (zo rfl (zo rfl (zM rfl (by assumption) ?_)))))))))
 refine zo rfl (zo rfl (zo rfl (zM rfl (by assumption) (zo rfl (zo rfl (zo rfl (zM rfl (by assumption) (zo rfl (zd rfl rfl ?_)))))))))
 exact zw (Sat.ret (ze rfl rfl))
theorem ok135 (x y z n : Int) (hx : i64R (x * n)) (hy : i64R (y * n)) (hz : i64R (z * n)) : Ok Tryz.prog 135 [.ag [vi x, vi y, vi z], vi n] (.ag [vi (x * n), vi (y * n), vi (z * n)]) := by
 refine zz 18 Tryz.func135 rfl Tryz.call135 rfl (zR (zo rfl (zo rfl (zw (zR (zo rfl (zo rfl (zo rfl (zM rfl (by assumption) ?_)))))))))
 refine zo rfl (zo rfl (zo rfl (zM rfl (by assumption) (zo rfl (zo rfl (zo rfl (zM rfl (by assumption) (zo rfl (zd rfl rfl ?_)))))))))
 exact zw (Sat.ret (ze rfl rfl))
theorem ok134 (a b c x y z : Int) (hx : i64R (a + x)) (hy : i64R (b + y)) (hz : i64R (c + z)) : Ok Tryz.prog 134 [.ag [vi a, vi b, vi c], .ag [vi x, vi y, vi z]] (.ag [vi (a + x), vi (b + y), vi (c + z)]) := by
 refine zz 21 Tryz.func134 rfl Tryz.call134 rfl (zR (zo rfl (zo rfl (zo rfl (zw (zR (zo rfl (zo rfl (zo rfl ?_)))))))))
 refine zo rfl (zA rfl (by assumption) (zo rfl (zo rfl (zo rfl (zo rfl (zA rfl (by assumption) (zo rfl (zo rfl (zo rfl ?_)))))))))
 exact zo rfl (zA rfl (by assumption) (zo rfl (zd rfl rfl (zw (Sat.ret (ze rfl rfl))))))
theorem mul_in {a b A B : Int} (ha : -A ≤ a ∧ a ≤ A) (hb : -B ≤ b ∧ b ≤ B) : -(A * B) ≤ a * b ∧ a * b ≤ A * B := by
 have hA : 0 ≤ A := by omega
 have hB : 0 ≤ B := by omega
 have h1 : a * b ≤ A * B ∧ -(A * B) ≤ a * b := by
   rcases Int.le_total 0 a with ha0 | ha0 <;> rcases Int.le_total 0 b with hb0 | hb0
   · exact ⟨Int.mul_le_mul ha.2 hb.2 hb0 hA, by have := Int.mul_nonneg ha0 hb0; have := Int.mul_nonneg hA hB; omega⟩
   · have h := Int.mul_le_mul ha.2 (show -b ≤ B by omega) (by omega) hA
     rw [Int.mul_neg] at h
     have h2 := Int.mul_nonneg ha0 (show 0 ≤ -b by omega)
     rw [Int.mul_neg] at h2
     have := Int.mul_nonneg hA hB
     omega
   · have h := Int.mul_le_mul (show -a ≤ A by omega) hb.2 hb0 hA
     rw [Int.neg_mul] at h
     have h2 := Int.mul_nonneg (show 0 ≤ -a by omega) hb0
     rw [Int.neg_mul] at h2
     have := Int.mul_nonneg hA hB
     omega
   · have h := Int.mul_le_mul (show -a ≤ A by omega) (show -b ≤ B by omega) (by omega) hA
     rw [Int.neg_mul_neg] at h
     have h2 := Int.mul_nonneg (show 0 ≤ -a by omega) (show 0 ≤ -b by omega)
     rw [Int.neg_mul_neg] at h2
     have := Int.mul_nonneg hA hB
     omega
 exact ⟨h1.2, h1.1⟩
def cr1 (s t : Int) : Int := un2 s * un3 t - un3 s * un2 t
def cr2 (s t : Int) : Int := un3 s * un1 t - un1 s * un3 t
def cr3 (s t : Int) : Int := un1 s * un2 t - un2 s * un1 t
theorem cr_le (s t : Int) : (-2 ≤ cr1 s t ∧ cr1 s t ≤ 2) ∧ (-2 ≤ cr2 s t ∧ cr2 s t ≤ 2) ∧ (-2 ≤ cr3 s t ∧ cr3 s t ≤ 2) := by
 obtain ⟨a1, a2, a3⟩ := un_le s
 obtain ⟨b1, b2, b3⟩ := un_le t
 have h1 := mul_in a2 b3
 have h2 := mul_in a3 b2
 have h3 := mul_in a3 b1
 have h4 := mul_in a1 b3
 have h5 := mul_in a1 b2
 have h6 := mul_in a2 b1
 unfold cr1 cr2 cr3
 omega
theorem ok193 (s t : Int) : Ok Tryz.prog 193 [.ag [vi (un1 s), vi (un2 s), vi (un3 s)], .ag [vi (un1 t), vi (un2 t), vi (un3 t)]] (.ag [vi (cr1 s t), vi (cr2 s t), vi (cr3 s t)]) := by
 obtain ⟨a1, a2, a3⟩ := un_le s
 obtain ⟨b1, b2, b3⟩ := un_le t
 have h1 := mul_in a2 b3
 have h2 := mul_in a3 b2
 have h3 := mul_in a3 b1
 have h4 := mul_in a1 b3
 have h5 := mul_in a1 b2
 have h6 := mul_in a2 b1
 refine zz 39 Tryz.func193 rfl Tryz.call193 rfl (zR (zo rfl (zo rfl (zo rfl (zw (zR (zo rfl (zo rfl (zo rfl ?_)))))))))
 refine zo rfl (zm rfl (zo rfl (zo rfl (zo rfl (zo rfl (zm rfl (zs rfl (zo rfl (zo rfl ?_)))))))))
 refine zo rfl (zo rfl (zm rfl (zo rfl (zo rfl (zo rfl (zo rfl (zm rfl (zs rfl (zo rfl ?_)))))))))
 refine zo rfl (zo rfl (zo rfl (zm rfl (zo rfl (zo rfl (zo rfl (zo rfl (zm rfl (zs rfl ?_)))))))))
 exact zo rfl (zd rfl rfl (zw (Sat.ret (ze rfl rfl))))
def img (s t : Int) (p : Pt) : Pt := ⟨p.x * un1 s + (p.y * un1 t + p.z * cr1 s t), p.x * un2 s + (p.y * un2 t + p.z * cr2 s t), p.x * un3 s + (p.y * un3 t + p.z * cr3 s t)⟩
def Pt.In (p : Pt) (B : Int) : Prop := (-B ≤ p.x ∧ p.x ≤ B) ∧ (-B ≤ p.y ∧ p.y ≤ B) ∧ (-B ≤ p.z ∧ p.z ≤ B)
theorem ok136 (s t x y z : Int) (hs : isAxis s = true) (ht : isAxis t = true) (hp : (Pt.mk x y z).In 16777216) :
  Ok Tryz.prog 136 [.ag [vi s, vi t], .ag [vi x, vi y, vi z]] (.ag [vi (img s t ⟨x, y, z⟩).x, vi (img s t ⟨x, y, z⟩).y, vi (img s t ⟨x, y, z⟩).z]) := by
 obtain ⟨hx, hy, hz⟩ := hp
 obtain ⟨a1, a2, a3⟩ := un_le s
 obtain ⟨b1, b2, b3⟩ := un_le t
 obtain ⟨c1, c2, c3⟩ := cr_le s t
 have x1 := mul_in hx a1
 have x2 := mul_in hx a2
 have x3 := mul_in hx a3
 have y1 := mul_in hy b1
 have y2 := mul_in hy b2
 have y3 := mul_in hy b3
 have z1 := mul_in hz c1
 have z2 := mul_in hz c2
 have z3 := mul_in hz c3
 simp only at x1 x2 x3 y1 y2 y3 z1 z2 z3
 refine zz 29 Tryz.func136 rfl Tryz.call136 rfl (zR (zo rfl (zo rfl (zo rfl (zw (zR (zo rfl (zo rfl (zc rfl (ok191 _ (by assumption)) ?_)))))))))
 refine zo rfl (zd rfl rfl (zw (zR (zo rfl (zo rfl (zc rfl (ok191 _ (by assumption)) (zo rfl (zd rfl rfl (zw (zq (Sat.dwN tabOk mixed [3, 5, 6] [16] [0, 1, 2, 3, 4, 5, 6, 7, 8, 9, 10, 11, 12, 13, 14, 15, 16] (by decide) (by kernel_rfl) ?_)))))))))))
 refine walk_sil rfl rfl (zO (fun _ => rfl) ?_)
 refine walk_sil rfl rfl (zO (fun _ => rfl) ?_)
 refine walk_sil rfl rfl (zO (fun _ => rfl) ?_)
 refine walk_sil rfl rfl (sil_call rfl rfl (fun _ => rfl) (fun _ => rfl) (ok192 _ _ _ _ (by constructor <;> omega) (by constructor <;> omega) (by constructor <;> omega)) ?_)
 refine walk_sil rfl rfl (zO (fun _ => rfl) ?_)
 refine walk_sil rfl rfl (zO (fun _ => rfl) ?_)
 refine walk_sil rfl rfl (zO (fun _ => rfl) ?_)
 refine walk_sil rfl rfl (sil_call rfl rfl (fun _ => rfl) (fun _ => rfl) (ok192 _ _ _ _ (by constructor <;> omega) (by constructor <;> omega) (by constructor <;> omega)) ?_)
 refine walk_sil rfl rfl (zO (fun _ => rfl) ?_)
 refine walk_sil rfl rfl (zO (fun _ => rfl) ?_)
 refine walk_sil rfl rfl (zO (fun _ => rfl) ?_)
 refine walk_sil rfl rfl (zO (fun _ => rfl) ?_)
 refine walk_sil rfl rfl (sil_call rfl rfl (fun _ => rfl) (fun _ => rfl) (ok193 _ _) ?_)
 refine walk_sil rfl rfl (sil_call rfl rfl (fun _ => rfl) (fun _ => rfl) (ok192 _ _ _ _ (by constructor <;> omega) (by constructor <;> omega) (by constructor <;> omega)) ?_)
 refine walk_sil rfl rfl (sil_call rfl rfl (fun _ => rfl) (fun _ => rfl) (ok134 _ _ _ _ _ _ (by constructor <;> omega) (by constructor <;> omega) (by constructor <;> omega)) ?_)
 refine walk_sil rfl rfl (sil_call rfl rfl (fun _ => rfl) (fun _ => rfl) (ok134 _ _ _ _ _ _ (by constructor <;> omega) (by constructor <;> omega) (by constructor <;> omega)) ?_)
 refine walk_eff rfl rfl (step_do rfl rfl ⟨lastly_no (by kernel_rfl), ?_⟩)
 exact kn (nq (Sat.ret (ze rfl rfl)))
def posAt (m : List Pt) (k : Nat) : Pt := ⟨sumI k fun i => (gt m i).x, sumI k fun i => (gt m i).y, sumI k fun i => (gt m i).z⟩
def pathOf (m : List Pt) : List Pt := (List.range (m.length + 1)).map (posAt m)
theorem moves_len (b : Bar) : 1 ≤ (movesOf b).length ∧ (movesOf b).length ≤ 6 := by
 unfold movesOf
 repeat' split
 all_goals simp
theorem BarP.all {b : Bar} (hb : BarP b) (k : Int) : 0 ≤ gt b.dims k ∧ gt b.dims k ≤ 262144 := by
 rcases Nat.lt_or_ge k.toNat b.dims.length with h | h
 · have := hb.dim k.toNat h
   have e : gt b.dims (k.toNat : Int) = gt b.dims k := rfl
   rw [e] at this
   omega
 · have : gt b.dims k = 0 := by simp only [gt, List.getD_eq_getElem?_getD, List.getElem?_eq_none h]; rfl
   rw [this]; omega
theorem moves_in {b : Bar} (hb : BarP b) : ∀ k : Nat, k < (movesOf b).length → (gt (movesOf b) k).In 262144 := by
 have h0 := hb.all 0
 have h1 := hb.all 1
 have h2 := hb.all 2
 have h3 := hb.all 3
 have h4 := hb.all 4
 have e : ∀ (l : List Pt), (∀ p ∈ l, p.In 262144) → ∀ k : Nat, k < l.length → (gt l k).In 262144 := fun l h k hk => h _ (gt_mem (by omega) (by omega))
 apply e
 unfold movesOf
 intro p hp
 revert hp
 repeat' split
 all_goals
   intro hp
   simp only [List.mem_cons, List.not_mem_nil, or_false] at hp
   rcases hp with rfl | rfl | rfl | rfl | rfl | rfl <;> refine ⟨?_, ?_, ?_⟩ <;> simp only <;> omega
theorem sumI_abs {f : Nat → Int} {B : Int} : ∀ {n : Nat}, (∀ j, j < n → -B ≤ f j ∧ f j ≤ B) → -(B * n) ≤ sumI n f ∧ sumI n f ≤ B * n
  | 0, _ => by simp [sumI]
  | n + 1, h => by
    have h1 := sumI_abs (n := n) fun j hj => h j (by omega)
    have h2 := h n (by omega)
    have e : B * ((n : Nat) + 1 : Nat) = B * n + B := by rw [Int.natCast_add]; simp [Int.mul_add]
    simp only [sumI]
    omega
theorem posAt_in {b : Bar} (hb : BarP b) {k : Nat} (hk : k ≤ (movesOf b).length) : (posAt (movesOf b) k).In 1572864 := by
 have h6 := (moves_len b).2
 have h := fun j (hj : j < k) => moves_in hb j (by omega)
 have hx := sumI_abs (f := fun i => (gt (movesOf b) i).x) (fun j hj => (h j hj).1)
 have hy := sumI_abs (f := fun i => (gt (movesOf b) i).y) (fun j hj => (h j hj).2.1)
 have hz := sumI_abs (f := fun i => (gt (movesOf b) i).z) (fun j hj => (h j hj).2.2)
 refine ⟨?_, ?_, ?_⟩ <;> simp only [posAt] <;> omega
theorem ok133 (b : Bar) (hb : BarP b) : Ok Tryz.prog 133 [.ag b.c] (.sl ((pathOf (movesOf b)).map Pt.c)) := by
 have hl := moves_len b
 refine zz 48 Tryz.func133 rfl Tryz.call133 rfl (zR (zo rfl (zo rfl (zw (zR (zo rfl (zc rfl (ok190 _ hb) (zo rfl (zw (zR (zo rfl ?_)))))))))))
 refine zo rfl (zd rfl rfl (zw (zR (zo rfl (zo rfl (zo rfl (zw (zq (zR (zo rfl ?_))))))))))
 refine zw (Sat.loop' (fun _ => True) (fun i => ⟨48, lk [(3, .v (.sl ((movesOf b).map Pt.c))), (4, .ptr 4 0), (5, slD 11 3 ((List.range (i + 1)).map fun k => (posAt (movesOf b) k).c)), (6, .v (vi i))], lkO [(4, some ⟨.cells [.v (vi (posAt (movesOf b) i).x), .v (vi (posAt (movesOf b) i).y), .v (vi (posAt (movesOf b) i).z)], false⟩), (11, slS 3 ((List.range (i + 1)).map fun k => (posAt (movesOf b) k).c))]⟩) ((movesOf b).length) ?_ (trivial) (fun i hi hI => ?_) (fun hI => ?_))
 exact weakO ⟨rfl, rfl, rfl, rfl, trivial⟩ ⟨so rfl, soS rfl, trivial⟩ (by repeat' (first | exact trivial | exact rfl | exact slD_ment rfl | exact moS | exact mo rfl | refine ⟨?_, ?_⟩)) (by repeat' (first | exact trivial | exact rfl | exact slD_ment rfl | exact moS | exact mo rfl | refine ⟨?_, ?_⟩))
 have hm := moves_in hb i hi
 have hq := posAt_in hb (show i ≤ (movesOf b).length by omega)
 obtain ⟨m1, m2, m3⟩ := hm
 obtain ⟨q1, q2, q3⟩ := hq
 refine zq (zR (zo rfl (zo rfl (zo rfl (zo rfl (zw (zy rfl (by simp [hi]) (zk (zq (zb rfl ?_))))))))))
 refine zq (Sat.dwN tabOk mixed [4] [25] [0, 1, 2, 3, 4, 5, 6, 7, 8, 9, 10, 11, 12, 13, 14, 15, 16, 17, 18, 19, 20, 21, 22, 23, 24, 25] (by decide) (by kernel_rfl) (walk_sil rfl rfl (zO (fun _ => rfl) ?_)))
 refine walk_sil rfl rfl (zO (fun _ => rfl) ?_)
 refine walk_sil rfl rfl (zO (fun _ => rfl) ?_)
 refine walk_sil rfl rfl (zO (fun _ => rfl) ?_)
 refine walk_sil rfl rfl (sil_index rfl rfl rfl rfl (by omega) (gt_idx (by omega) (by omega)) rfl ?_)
 refine walk_sil rfl rfl (zO (fun _ => rfl) ?_)
 refine walk_sil rfl rfl (zO (fun _ => rfl) ?_)
 refine walk_sil rfl rfl (sil_add rfl rfl rfl (by first | (constructor <;> omega) | (simp only [decide_eq_true_eq, decide_eq_false_iff_not, Bool.not_eq_true', Bool.not_eq_false', beq_eq_false_iff_ne, beq_iff_eq, ne_eq] at *; constructor <;> omega)) ?_)
 refine walk_sil rfl rfl (zO (fun _ => rfl) ?_)
 refine walk_sil rfl rfl (zO (fun _ => rfl) ?_)
 refine walk_sil rfl rfl (zO (fun _ => rfl) ?_)
 refine walk_sil rfl rfl (zO (fun _ => rfl) ?_)
 refine walk_sil rfl rfl (sil_index rfl rfl rfl rfl (by omega) (gt_idx (by omega) (by omega)) rfl ?_)
 refine walk_sil rfl rfl (zO (fun _ => rfl) ?_)
 refine walk_sil rfl rfl (zO (fun _ => rfl) ?_)
 refine walk_sil rfl rfl (sil_add rfl rfl rfl (by first | (constructor <;> omega) | (simp only [decide_eq_true_eq, decide_eq_false_iff_not, Bool.not_eq_true', Bool.not_eq_false', beq_eq_false_iff_ne, beq_iff_eq, ne_eq] at *; constructor <;> omega)) ?_)
 refine walk_sil rfl rfl (zO (fun _ => rfl) ?_)
 refine walk_sil rfl rfl (zO (fun _ => rfl) ?_)
 refine walk_sil rfl rfl (zO (fun _ => rfl) ?_)
 refine walk_sil rfl rfl (zO (fun _ => rfl) ?_)
 refine walk_sil rfl rfl (sil_index rfl rfl rfl rfl (by omega) (gt_idx (by omega) (by omega)) rfl ?_)
 refine walk_sil rfl rfl (zO (fun _ => rfl) ?_)
 refine walk_sil rfl rfl (zO (fun _ => rfl) ?_)
 refine walk_sil rfl rfl (sil_add rfl rfl rfl (by first | (constructor <;> omega) | (simp only [decide_eq_true_eq, decide_eq_false_iff_not, Bool.not_eq_true', Bool.not_eq_false', beq_eq_false_iff_ne, beq_iff_eq, ne_eq] at *; constructor <;> omega)) ?_)
 refine walk_sil rfl rfl (zO (fun _ => rfl) ?_)
 refine walk_eff rfl rfl (step_do rfl rfl ⟨lastly_no (by kernel_rfl), ?_⟩)
 refine kn (nq (zr (zo rfl (zo rfl (zo rfl ?_)))))
 first | (refine step_app1 rfl (by first | exact .inl rfl | (right; simp)) rfl rfl rfl rfl rfl rfl (by simp; omega) rfl ?_) | (refine step_op rfl rfl rfl ?_)
 exact zo rfl (wn (nb (nq (zr (zo rfl (za rfl (zo rfl (wn (ns trivial (weakO ⟨rfl, rfl, slD_eq rfl (rangeM_snoc _ _).symm, rfl, trivial⟩ ⟨so rfl, soA rfl (rangeM_snoc _ _).symm, trivial⟩ (by repeat' (first | exact trivial | exact rfl | exact slD_ment rfl | exact moS | exact mo rfl | refine ⟨?_, ?_⟩)) (by repeat' (first | exact trivial | exact rfl | exact slD_ment rfl | exact moS | exact mo rfl | refine ⟨?_, ?_⟩))))))))))))
 refine zq (zR (zo rfl (zo rfl (zo rfl (zo rfl (zw (zn rfl (by simp) (Sat.exit (xq ?_)))))))))
 exact xe (nq (Sat.pubS 5 rfl rfl (zR (zo rfl (zo rfl (zw (Sat.ret (ze rfl (by simp only [pathOf, List.map_map]; rfl)))))))))
end Go.Proofs.YtamjajacnfmgeaaGreat
