/-
  Contracts: shapes and schedules of the program, of valid bars.
  Contracts: schedules and paths of the program, of valid bars.
-/
import Derived.Test.YtamjajacnfmgeaaGreatK23
set_option linter.all false
namespace Go.Proofs.YtamjajacnfmgeaaGreat
open Go Go.RowKit
set_option maxHeartbeats 1000000
structure Lg where
  dim : Int
  way : Int
  deriving Inhabited
def Lg.c (l : Lg) : List V := [vi l.dim, vu l.way]
def legL (c : Int) : List Lg :=
  if c == 0 then [⟨0, 120⟩]
  else if c == 11 then [⟨0, 120⟩, ⟨1, 121⟩]
  else if c == 21 then [⟨0, 89⟩, ⟨1, 120⟩, ⟨2, 121⟩]
  else if c == 26 then [⟨0, 120⟩, ⟨1, 121⟩, ⟨2, 120⟩]
  else if c == 31 then [⟨0, 120⟩, ⟨1, 121⟩, ⟨2, 122⟩]
  else if c == 41 then [⟨0, 120⟩, ⟨1, 121⟩, ⟨2, 120⟩, ⟨3, 89⟩, ⟨4, 120⟩]
  else if c == 51 then [⟨2, 89⟩, ⟨0, 120⟩, ⟨1, 121⟩, ⟨0, 88⟩, ⟨1, 89⟩, ⟨2, 120⟩]
  else if c == 98 then [⟨0, 122⟩, ⟨1, 89⟩, ⟨2, 120⟩, ⟨1, 121⟩, ⟨0, 122⟩]
  else []
theorem ok180 (c : Int) : Ok Tryz.prog 180 [vi c] (.sl ((legL c).map Lg.c)) := by
 unfold legL
 refine zz 56 Tryz.func180 rfl Tryz.call180 rfl (zR (zo rfl (zw (zq (zR (zo rfl (zw (zb rfl (zR (zo rfl ?_))))))))))
 refine zo rfl (zw (zC rfl (fun h1 => ?_) (fun h1 => ?_)))
 exact zR (zo rfl (zo rfl (zo rfl (zw (Sat.ret (rb (rq (ze rfl (by simp only [*, Bool.false_eq_true, if_true, if_false]; rfl)))))))))
 refine zR (zo rfl (zo rfl (zw (zC rfl (fun h2 => ?_) (fun h2 => ?_)))))
 exact zR (zo rfl (zo rfl (zo rfl (zo rfl (zw (Sat.ret (rb (rq (ze rfl (by simp only [*, Bool.false_eq_true, if_true, if_false]; rfl))))))))))
 refine zR (zo rfl (zo rfl (zw (zC rfl (fun h3 => ?_) (fun h3 => ?_)))))
 refine zR (zo rfl (zo rfl (zo rfl (zo rfl (zo rfl (zw (Sat.ret (rb (rq ?_)))))))))
 exact ze rfl (by simp only [*, Bool.false_eq_true, if_true, if_false]; rfl)
 refine zR (zo rfl (zo rfl (zw (zC rfl (fun h4 => ?_) (fun h4 => ?_)))))
 refine zR (zo rfl (zo rfl (zo rfl (zo rfl (zo rfl (zw (Sat.ret (rb (rq ?_)))))))))
 exact ze rfl (by simp only [*, Bool.false_eq_true, if_true, if_false]; rfl)
 refine zR (zo rfl (zo rfl (zw (zC rfl (fun h5 => ?_) (fun h5 => ?_)))))
 refine zR (zo rfl (zo rfl (zo rfl (zo rfl (zo rfl (zw (Sat.ret (rb (rq ?_)))))))))
 exact ze rfl (by simp only [*, Bool.false_eq_true, if_true, if_false]; rfl)
 refine zR (zo rfl (zo rfl (zw (zC rfl (fun h6 => ?_) (fun h6 => ?_)))))
 refine zR (zo rfl (zo rfl (zo rfl (zo rfl (zo rfl (zo rfl (zo rfl (zw (Sat.ret ?_)))))))))
 exact rb (rq (ze rfl (by simp only [*, Bool.false_eq_true, if_true, if_false]; rfl)))
 refine zR (zo rfl (zo rfl (zw (zC rfl (fun h7 => ?_) (fun h7 => ?_)))))
 refine zR (zo rfl (zo rfl (zo rfl (zo rfl (zo rfl (zo rfl (zo rfl (zo rfl (zw (Sat.ret ?_))))))))))
 exact rb (rq (ze rfl (by simp only [*, Bool.false_eq_true, if_true, if_false]; rfl)))
 refine zR (zo rfl (zo rfl (zw (zC rfl (fun h8 => ?_) (fun h8 => ?_)))))
 refine zR (zo rfl (zo rfl (zo rfl (zo rfl (zo rfl (zo rfl (zo rfl (zw (Sat.ret ?_)))))))))
 exact rb (rq (ze rfl (by simp only [*, Bool.false_eq_true, if_true, if_false]; rfl)))
 exact Sat.skip (nb (nq (zR (zo rfl (zw (Sat.ret (ze rfl (by simp only [*, Bool.false_eq_true, if_true, if_false]; rfl))))))))
def mostI (l : List Lg) : Nat → Int
  | 0 => -1
  | n + 1 => mx (mostI l n) (gt l n).dim
theorem codes {c : Int} (h : 1 ≤ dimsOf c) : c = 0 ∨ c = 11 ∨ c = 21 ∨ c = 26 ∨ c = 31 ∨ c = 41 ∨ c = 51 ∨ c = 98 := by
 unfold dimsOf at h
 simp only [beq_iff_eq, Bool.or_eq_true] at h
 repeat' split at h
 all_goals omega
theorem most_eq {c : Int} (h : 1 ≤ dimsOf c) : mostI (legL c) (legL c).length + 1 = dimsOf c := by
 rcases codes h with rfl | rfl | rfl | rfl | rfl | rfl | rfl | rfl <;> rfl
theorem legL_len {c : Int} (h : 1 ≤ dimsOf c) : 1 ≤ (legL c).length ∧ (legL c).length ≤ 6 := by
 rcases codes h with rfl | rfl | rfl | rfl | rfl | rfl | rfl | rfl <;> decide
theorem legL_dim {c : Int} (h : 1 ≤ dimsOf c) : ∀ i : Nat, i < (legL c).length → 0 ≤ (gt (legL c) i).dim ∧ (gt (legL c) i).dim < dimsOf c := by
 rcases codes h with rfl | rfl | rfl | rfl | rfl | rfl | rfl | rfl <;> decide
theorem ok228 (c : Int) (h : 1 ≤ dimsOf c) : Ok Tryz.prog 228 [vi c] (.tp [vi (dimsOf c), vi 0]) := by
 have hm := most_eq h
 have hl := legL_len h
 have hd := dimsOf_le c
 refine zz 23 Tryz.func228 rfl Tryz.call228 rfl (zR (zo rfl (zo rfl (zw (zR (zo rfl (zw (zq (zR (zo rfl ?_))))))))))
 refine zc rfl (ok180 _) (zo rfl (zo rfl (zw (Sat.loop' (fun _ => True) (fun i => ⟨23, lk [(4, .v (vi (mostI (legL c) i))), (8, .v (.sl ((legL c).map Lg.c))), (9, .v (vi ((legL c).map Lg.c).length)), (10, .v (vi i))], lk []⟩) ((legL c).length) ?_ (trivial) (fun i hi hI => ?_) (fun hI => ?_)))))
 exact zv rfl rfl rfl rfl
 refine zR (zo rfl (zw (zq (zy rfl (by simp [hi]) (zk (zq (zb rfl (zR (zi rfl rfl rfl rfl rfl ?_)))))))))
 refine zo rfl (zo rfl (zd rfl rfl (zw (zr (zo rfl (zo rfl (zo rfl (zo rfl (zo rfl ?_)))))))))
 exact wn (nb (nq (zr (za rfl (zo rfl (wn (ns trivial (zv rfl rfl rfl rfl))))))))
 refine zR (zo rfl (zw (zq (zn rfl (by simp) (Sat.exit (xq (xe (nq (zq (zR (zo rfl ?_)))))))))))
 refine zo rfl (zw (zn rfl (by simp; omega) (zk (zR (zo rfl (za rfl (zo rfl (zo rfl (zw (Sat.ret ?_))))))))))
 exact ze rfl (by rw [hm])
theorem ok252 : Ok Tryz.prog 252 [] (.sl (sizesL.map ic)) := by
 exact zz 2 Tryz.func252 rfl Tryz.call252 rfl (zR (zo rfl (zw (zR (zo rfl (zo rfl (zw (Sat.ret (zg rfl)))))))))
theorem ok258 (l : List Int) (hl : l.length ≤ 1000) (d : Int) : Ok Tryz.prog 258 [.sl (l.map ic), vi d] (vi (findN l.length fun i => d == gt l i)) := by
 refine zz 19 Tryz.func258 rfl Tryz.call258 rfl (zR (zo rfl (zw (zq (zR (zo rfl (zo rfl (zo rfl (zw (Sat.loop' (fun z => ∀ j : Nat, j < z → (d == gt l j) = false) (fun i => ⟨19, lk [(0, .v (.sl (l.map ic))), (1, .v (vi d)), (7, .v (vi (l.map ic).length)), (8, .v (vi i))], lk []⟩) (l.length) ?_ (all_zero) (fun i hi hI => ?_) (fun hI => ?_)))))))))))
 exact zv rfl rfl rfl rfl
 refine zR (zo rfl (zw (zq (zy rfl (by simp [hi]) (zk (zq (zb rfl (zR (zo rfl ?_)))))))))
 refine zo rfl (zw (zR (zo rfl (zo rfl (zo rfl (zi rfl rfl rfl rfl rfl (zo rfl (zo rfl (zw (zC rfl (fun h1 => ?_) (fun h1 => ?_)))))))))))
 exact zR (zo rfl (zo rfl (zw (Sat.ret (rb (rq (rs (rq (ze rfl (by first | exact vint (findN_eq hi (by assumption) hI).symm | exact vint (findN_none hI).symm))))))))))
 exact Sat.skip (nb (nq (zr (za rfl (zo rfl (wn (ns (all_step hI (by assumption)) (zv rfl rfl rfl rfl))))))))
 refine zR (zo rfl (zw (zq (zn rfl (by simp) (Sat.exit (xq (xe (nq (zR (zo rfl ?_))))))))))
 exact zw (Sat.ret (ze rfl (by first | exact vint (findN_eq hi (by assumption) hI).symm | exact vint (findN_none hI).symm)))
theorem ok251 (l : List Int) (hl : l.length ≤ 1000) (d : Int) : Ok Tryz.prog 251 [.sl (l.map ic), vi d] (.bool (decide ((findN l.length fun i => d == gt l i) ≥ 0))) := by
 refine zz 9 Tryz.func251 rfl Tryz.call251 rfl (zR (zo rfl (zw (zR (zo rfl (zo rfl (zc rfl (ok258 l hl d) (zo rfl (zo rfl ?_)))))))))
 exact zw (Sat.ret (ze rfl rfl))
theorem ok229 (d : Int) : Ok Tryz.prog 229 [vi d] (.bool (isSize d)) := by
 have e : (fun i : Nat => d == gt sizesL i) = fun i : Nat => gt sizesL i == d := by funext i; exact Bool.beq_comm
 refine zz 6 Tryz.func229 rfl Tryz.call229 rfl (zR (zo rfl (zw (zR (zc rfl ok252 (zo rfl (zc rfl (ok251 sizesL (by decide) d) (zo rfl (zw (Sat.ret ?_))))))))))
 exact ze rfl (by simp only [isSize, sizeI, e]; rfl)
theorem ok179 (b : Bar) (h : barOk b = true) : Ok Tryz.prog 179 [.ag b.c] (.bool true) := by
 have hp := barP h
 have hpos := hp.pos
 have hlen := hp.len
 have hsum := hp.sum
 have hd5 := dimsOf_le b.code
 simp only [barOk, Bool.and_eq_true, Bool.not_eq_true', decide_eq_false_iff_not] at h
 obtain ⟨⟨⟨⟨⟨⟨g1, g2⟩, g3⟩, g4⟩, g5⟩, g6⟩, g7, g8⟩ := h
 have hall : ∀ j : Nat, 0 ≤ gt b.dims j := fun j => (hp.all j).1
 have hpre : ∀ i : Nat, i < b.dims.length → sumI i (fun i => gt b.dims i) + gt b.dims i ≤ 262144 := fun i hi => by
   have : ∀ m, i + 1 ≤ m → sumI (i + 1) (fun i => gt b.dims i) ≤ sumI m (fun i => gt b.dims i) := by
     intro m hm
     induction hm with
     | refl => omega
     | step _ ih => simp only [sumI] at ih ⊢; have := hall (by assumption); omega
   have := this b.dims.length hi
   simp only [sumI] at this
   omega
 refine zz 63 Tryz.func179 rfl Tryz.call179 rfl (zR (zo rfl (zo rfl (zw (zR (zo rfl (zo rfl (zc rfl (ok228 _ hpos) (zo rfl ?_)))))))))
 refine zo rfl (zo rfl (zo rfl (zo rfl (zw (zq (zq (Sat.to tabOk (⟨63, lk [(1, .ptr 1 0), (44, .v (.bool false))], lk [(1, ⟨.cells (b.c.map .v), false⟩)]⟩) ?_ ?_)))))))
 refine zo rfl (zo rfl (zo rfl (zF rfl (fun h1 => ?_) (fun h1 => ?_))))
 refine zO (fun _ => rfl) (zh rfl h1 rfl (step_sil (sil_on rfl h1 (sil_call rfl rfl (fun _ => rfl) (fun _ => rfl) (ok89 _ g1) ?_))))
 refine zh rfl h1 rfl (zP rfl h1 rfl (zo rfl (zF rfl (fun h2 => ?_) (fun h2 => ?_))))
 refine zO (fun _ => rfl) (zh rfl h2 rfl (step_sil (sil_on rfl h2 (sil_call rfl rfl (fun _ => rfl) (fun _ => rfl) (ok229 _) ?_))))
 refine zh rfl h2 rfl (zP rfl h2 rfl (zo rfl (zF rfl (fun h3 => ?_) (fun h3 => ?_))))
 refine zO (fun _ => rfl) (zh rfl h3 rfl (zh rfl h3 rfl (zP rfl h3 rfl (zo rfl (zF rfl (fun h4 => ?_) (fun h4 => ?_))))))
 refine zO (fun _ => rfl) (zh rfl h4 rfl (zh rfl h4 rfl (zP rfl h4 rfl (zo rfl (zF rfl (fun h5 => ?_) (fun h5 => ?_))))))
 exact zO (fun _ => rfl) (zh rfl h5 rfl (zh rfl h5 rfl (zh rfl h5 rfl (zh rfl h5 rfl (zP rfl h5 rfl (wn (weak_of ⟨rfl, bool_eq rfl (by first | rfl | (simp_all; done) | (simp_all; omega)), trivial⟩ ⟨rfl, trivial⟩ rfl rfl)))))))
 exact zf rfl h5 (zf rfl h5 (zf rfl h5 (zf rfl h5 (zp rfl h5 rfl (wn (weak_of ⟨rfl, bool_eq rfl (by first | rfl | (simp_all; done) | (simp_all; omega)), trivial⟩ ⟨rfl, trivial⟩ rfl rfl))))))
 refine zf rfl h4 (zf rfl h4 (zp rfl h4 rfl (zo rfl (zf rfl rfl (zf rfl rfl (zf rfl rfl (zf rfl rfl (zf rfl rfl (zp rfl rfl rfl ?_)))))))))
 exact wn (weak_of ⟨rfl, bool_eq rfl (by first | rfl | (simp_all; done) | (simp_all; omega)), trivial⟩ ⟨rfl, trivial⟩ rfl rfl)
 refine zf rfl h3 (zf rfl h3 (zp rfl h3 rfl (zo rfl (zf rfl rfl (zf rfl rfl (zf rfl rfl (zp rfl rfl rfl (zo rfl (zf rfl rfl ?_)))))))))
 exact zf rfl rfl (zf rfl rfl (zf rfl rfl (zf rfl rfl (zp rfl rfl rfl (wn (weak_of ⟨rfl, bool_eq rfl (by first | rfl | (simp_all; done) | (simp_all; omega)), trivial⟩ ⟨rfl, trivial⟩ rfl rfl))))))
 refine zf rfl h2 (zf rfl h2 (zf rfl h2 (zp rfl h2 rfl (zo rfl (zf rfl rfl (zf rfl rfl (zf rfl rfl (zp rfl rfl rfl (zo rfl ?_)))))))))
 refine zf rfl rfl (zf rfl rfl (zf rfl rfl (zp rfl rfl rfl (zo rfl (zf rfl rfl (zf rfl rfl (zf rfl rfl (zf rfl rfl (zf rfl rfl ?_)))))))))
 exact zp rfl rfl rfl (wn (weak_of ⟨rfl, bool_eq rfl (by first | rfl | (simp_all; done) | (simp_all; omega)), trivial⟩ ⟨rfl, trivial⟩ rfl rfl))
 refine zf rfl h1 (zf rfl h1 (zf rfl h1 (zp rfl h1 rfl (zo rfl (zf rfl rfl (zf rfl rfl (zf rfl rfl (zf rfl rfl (zp rfl rfl rfl ?_)))))))))
 refine zo rfl (zf rfl rfl (zf rfl rfl (zf rfl rfl (zp rfl rfl rfl (zo rfl (zf rfl rfl (zf rfl rfl (zf rfl rfl (zp rfl rfl rfl ?_)))))))))
 exact zo rfl (zf rfl rfl (zf rfl rfl (zf rfl rfl (zf rfl rfl (zf rfl rfl (zp rfl rfl rfl (wn (weak_of ⟨rfl, bool_eq rfl (by first | rfl | (simp_all; done) | (simp_all; omega)), trivial⟩ ⟨rfl, trivial⟩ rfl rfl))))))))
 refine nq (zn rfl (rfl) (zk (zR (zo rfl (zw (zq (zR (zo rfl (zo rfl ?_)))))))))
 refine zo rfl (zo rfl (zw (Sat.loop' (fun _ => True) (fun i => ⟨63, lk [(1, .ptr 1 0), (5, .v (vi (262144 - sumI i fun i => gt b.dims i))), (46, .v (.sl (b.dims.map ic))), (47, .v (vi (b.dims.map ic).length)), (48, .v (vi i))], lk [(1, ⟨.cells (b.c.map .v), false⟩)]⟩) (b.dims.length) ?_ (trivial) (fun i hi hI => ?_) (fun hI => ?_))))
 exact zv rfl rfl rfl rfl
 have ha := hp.dim i hi
 have hb := hpre i hi
 have hs0 := (dims_sum (b := b) (i := i) (fun j hj => by have := hp.dim j (by omega); simp [dimOk]; omega)).1
 clear hpre hall hsum g1 g2 g3 g4 g5 g6 g7 g8
 refine zR (zo rfl (zw (zq (zy rfl (by simp [hi]) (zk (zq (zb rfl (zR (zi rfl rfl rfl rfl rfl ?_)))))))))
 refine zo rfl (zo rfl (zw (zq (zR (zo rfl (zo rfl (zo rfl (zF rfl (fun h6 => ?_) (fun h6 => ?_)))))))))
 refine zO (fun _ => rfl) (zh rfl h6 rfl (zh rfl h6 rfl (zP rfl h6 rfl (zw (zC rfl (fun h7 => ?_) (fun h7 => ?_))))))
 exact zR (zo rfl (zw (Sat.ret (rq (rb (rq (rs (rq (ze rfl (by first | rfl | (simp_all; done) | (simp_all; omega)))))))))))
 refine zk (zr (zo rfl (zo rfl (zs rfl (zo rfl (wn (nb (nq (zr ?_)))))))))
 exact za rfl (zo rfl (wn (ns trivial (weak_of ⟨rfl, int_eq rfl (by simp only [sumI]; omega), rfl, rfl, rfl, trivial⟩ ⟨rfl, trivial⟩ rfl rfl))))
 refine zf rfl h6 (zf rfl h6 (zp rfl h6 rfl (zw (zy rfl rfl (zR (zo rfl (zw (Sat.ret (rq ?_)))))))))
 exact rb (rq (rs (rq (ze rfl (by first | rfl | (simp_all; done) | (simp_all; omega))))))
 refine zR (zo rfl (zw (zq (zn rfl (by simp) (Sat.exit (xq (xe (nq (zR (zo rfl ?_))))))))))
 exact zw (Sat.ret (ze rfl (by first | rfl | (simp_all; done) | (simp_all; omega))))
end Go.Proofs.YtamjajacnfmgeaaGreat
namespace Go.Proofs.YtamjajacnfmgeaaGreat
open Go Go.RowKit
set_option maxHeartbeats 1000000
theorem ok245 (b : Bar) (m : ByteArray) : Ok Tryz.prog 245 [.ag b.c, .cp [.str m] 0] (.bool (beqB b.mark m)) := by
 refine zz 8 Tryz.func245 rfl Tryz.call245 rfl (zR (zo rfl (zo rfl (zw (zR (zo rfl (zo rfl (zo rfl (zo rfl ?_)))))))))
 exact zo rfl (zw (Sat.ret (ze rfl rfl)))
theorem ok246 (b : Bar) (m : ByteArray) : Ok Tryz.prog 246 [.ag b.c, .cp [.str m] 0] (.bool (beqB b.mark m)) := by
 refine zz 8 Tryz.func246 rfl Tryz.call246 rfl (zR (zo rfl (zo rfl (zw (zR (zo rfl (zo rfl (zo rfl (zo rfl ?_)))))))))
 exact zo rfl (zw (Sat.ret (ze rfl rfl)))
theorem ok214 (l : List Bar) (hl : l.length ≤ 1000) (m : ByteArray) : Ok Tryz.prog 214 [.sl (l.map Bar.c), .str m] (vi (markIx l m)) := by
 refine zz 8 Tryz.func214 rfl Tryz.call214 rfl (zR (zo rfl (zo rfl (zw (zR (zo rfl (zo rfl (step_call rfl rfl rfl (ok97_1 l (by omega) 245 (.cp [.str m] 0) (fun i => beqB (gt l i).mark m) (fun i _ => ok245 _ _)) (zo rfl ?_)))))))))
 exact zw (Sat.ret (ze rfl rfl))
theorem ok215 (l : List Bar) (hl : l.length ≤ 1000) (m : ByteArray) : Ok Tryz.prog 215 [.sl (l.map Bar.c), .str m] (vi (markIx l m)) := by
 refine zz 8 Tryz.func215 rfl Tryz.call215 rfl (zR (zo rfl (zo rfl (zw (zR (zo rfl (zo rfl (step_call rfl rfl rfl (ok97_1 l (by omega) 246 (.cp [.str m] 0) (fun i => beqB (gt l i).mark m) (fun i _ => ok246 _ _)) (zo rfl ?_)))))))))
 exact zw (Sat.ret (ze rfl rfl))
theorem ok170 (l : List Bar) (h : barsOk l = true) : Ok Tryz.prog 170 [.sl (l.map Bar.c)] (.bool true) := by
 have hl := (barsP h).1
 have hx : ∀ i : Nat, i < l.length → barOk (gt l i) = true ∧ markIx l (gt l i).mark = i := fun i hi => by
   simp only [barsOk, Bool.and_eq_true] at h
   have := allN_iff.1 h.2 i hi
   simpa using this
 refine zz 27 Tryz.func170 rfl Tryz.call170 rfl (zR (zo rfl (zw (zq (zR (zo rfl (zo rfl (zo rfl (zw (zn rfl (by simp; omega) ?_))))))))))
 refine zk (zq (zR (zo rfl (zo rfl (zo rfl (zw (Sat.loop' (fun _ => True) (fun i => ⟨27, lk [(0, .v (.sl (l.map Bar.c))), (8, .v (.sl (l.map Bar.c))), (9, .v (vi (l.map Bar.c).length)), (10, .v (vi i))], lk []⟩) (l.length) ?_ (trivial) (fun i hi hI => ?_) (fun hI => ?_))))))))
 exact zv rfl rfl rfl rfl
 have ha := hx i hi
 clear hx
 refine zR (zo rfl (zw (zq (zy rfl (by simp [hi]) (zk (zq (zb rfl (zR (zo rfl ?_)))))))))
 refine zi rfl rfl rfl rfl rfl (zo rfl (zo rfl (zo rfl (zd rfl rfl (zw (zR (zo rfl (zc rfl (ok179 (gt l i) ha.1) (zo rfl ?_)))))))))
 refine zo rfl (zF rfl (fun h1 => ?_) (fun h1 => ?_))
 refine zO (fun _ => rfl) (zh rfl h1 rfl (zh rfl h1 rfl (step_sil (sil_on rfl h1 (sil_call rfl rfl (fun _ => rfl) (fun _ => rfl) (ok214 l (by omega) _) ?_)))))
 refine zh rfl h1 rfl (zh rfl h1 rfl (zP rfl h1 rfl (zw (zC rfl (fun h2 => ?_) (fun h2 => ?_)))))
 exact zR (zo rfl (zw (Sat.ret (rb (rq (rs (rq (ze rfl (by first | rfl | (exfalso; simp_all; done))))))))))
 exact Sat.skip (nb (nq (zr (za rfl (zo rfl (wn (ns trivial (zv rfl rfl rfl rfl))))))))
 refine zf rfl h1 (zf rfl h1 (zf rfl h1 (zf rfl h1 (zf rfl h1 (zp rfl h1 rfl (zw (zy rfl rfl (zR (zo rfl ?_)))))))))
 exact zw (Sat.ret (rb (rq (rs (rq (ze rfl (by first | rfl | (exfalso; simp_all; done))))))))
 refine zR (zo rfl (zw (zq (zn rfl (by simp) (Sat.exit (xq (xe (nq (zR (zo rfl ?_))))))))))
 exact zw (Sat.ret (ze rfl (by first | rfl | (exfalso; simp_all; done))))
theorem ok208 (l : List Bar) (h : barsOk l = true) (m : ByteArray) (hm : 0 ≤ markIx l m) : Ok Tryz.prog 208 [.sl (l.map Bar.c), .str m] (.tp [vi (markIx l m), vi 0]) := by
 have hl := (barsP h).1
 refine zz 16 Tryz.func208 rfl Tryz.call208 rfl (zR (zo rfl (zo rfl (zw (zq (zR (zo rfl (zc rfl (ok170 l h) (zo rfl ?_)))))))))
 refine zw (zn rfl (by first | rfl | (simp; omega)) (zk (zR (zo rfl (zo rfl (zc rfl (ok214 l (by omega) _) (zo rfl (zw (zq (zR (zo rfl ?_)))))))))))
 refine zo rfl (zw (zn rfl (by first | rfl | (simp; omega)) (zk (zR (zo rfl (zo rfl (zo rfl (zw (Sat.ret ?_)))))))))
 exact ze rfl rfl
def moveOf (b : Bar) (l : Lg) : Pt :=
  if l.way == 120 then ⟨gt b.dims l.dim, 0, 0⟩ else if l.way == 88 then ⟨-gt b.dims l.dim, 0, 0⟩
  else if l.way == 121 then ⟨0, gt b.dims l.dim, 0⟩ else if l.way == 89 then ⟨0, -gt b.dims l.dim, 0⟩
  else if l.way == 122 then ⟨0, 0, gt b.dims l.dim⟩ else ⟨0, 0, 0⟩
theorem moves_legs {b : Bar} (h : 1 ≤ dimsOf b.code) : (legL b.code).map (moveOf b) = movesOf b := by
 unfold movesOf
 rcases codes h with e | e | e | e | e | e | e | e <;> rw [e] <;> rfl
theorem gt_map {α β : Type} [Inhabited α] [Inhabited β] {f : α → β} {l : List α} {i : Nat} (h : i < l.length) : gt (l.map f) (i : Int) = f (gt l (i : Int)) := by
 rw [gt_get h, gt_get (by simpa using h)]; simp
theorem cell3_eq {s : Store} {t : Nat} {a b c a' b' c' : Int} {z : Bool} (h : s t = some ⟨.cells [.v (vi a), .v (vi b), .v (vi c)], z⟩) (e1 : a = a') (e2 : b = b') (e3 : c = c') : s t = some ⟨.cells [.v (vi a'), .v (vi b'), .v (vi c')], z⟩ := by subst e1 e2 e3; exact h
theorem row3_eq {l : List (List V)} {a b c a' b' c' : Int} (e1 : a = a') (e2 : b = b') (e3 : c = c') : l ++ [[vi a, vi b, vi c]] = l ++ [[vi a', vi b', vi c']] := by rw [e1, e2, e3]
theorem ok209 (b : Bar) (h : barOk b = true) : Ok Tryz.prog 209 [.ag b.c] (.tp [.sl ((pathOf (movesOf b)).map Pt.c), vi 0]) := by
 have hp := barP h
 have hpos := hp.pos
 have hlen := hp.len
 have hl := legL_len hpos
 have hml : (movesOf b).length = (legL b.code).length := by rw [← moves_legs hpos]; simp
 refine zz 71 Tryz.func209 rfl Tryz.call209 rfl (zR (zo rfl (zo rfl (zo rfl (zw (zq (zR (zo rfl (zc rfl (ok179 b h) ?_)))))))))
 refine zo rfl (zw (zn rfl (rfl) (zk (zR (zo rfl (zw (zR (zo rfl (zo rfl ?_)))))))))
 refine zo rfl (zw (zq (zR (zo rfl (zo rfl (zc rfl (ok180 _) (zo rfl (zo rfl (zw (Sat.loop' (fun _ => True) (fun i => ⟨71, lk [(1, .ptr 1 0), (4, .ptr 4 0), (5, slD 13 3 ((List.range (i + 1)).map fun k => (posAt (movesOf b) k).c)), (16, .v (.sl ((legL b.code).map Lg.c))), (17, .v (vi ((legL b.code).map Lg.c).length)), (18, .v (vi i))], lkO [(1, some ⟨.cells (b.c.map .v), false⟩), (4, some ⟨.cells [.v (vi (posAt (movesOf b) i).x), .v (vi (posAt (movesOf b) i).y), .v (vi (posAt (movesOf b) i).z)], false⟩), (13, slS 3 ((List.range (i + 1)).map fun k => (posAt (movesOf b) k).c))]⟩) ((legL b.code).length) ?_ (trivial) (fun i hi hI => ?_) (fun hI => ?_)))))))))))
 exact weakO ⟨rfl, rfl, rfl, rfl, rfl, rfl, trivial⟩ ⟨so rfl, so rfl, soS rfl, trivial⟩ (by repeat' (first | exact trivial | exact rfl | exact slD_ment rfl | exact moS | exact mo rfl | refine ⟨?_, ?_⟩)) (by repeat' (first | exact trivial | exact rfl | exact slD_ment rfl | exact moS | exact mo rfl | refine ⟨?_, ?_⟩))
 have hm := moves_in hp i (by omega)
 have hq := posAt_in hp (show i ≤ (movesOf b).length by omega)
 have hmv : gt (movesOf b) (i : Int) = moveOf b (gt (legL b.code) (i : Int)) := by rw [← moves_legs hpos, gt_map hi]
 have hdm := legL_dim hpos i hi
 have hda := hp.all (gt (legL b.code) (i : Int)).dim
 obtain ⟨m1, m2, m3⟩ := hm
 obtain ⟨q1, q2, q3⟩ := hq
 refine zR (zo rfl (zw (zq (zy rfl (by simp [hi]) (zk (zq (zb rfl (zR (zi rfl rfl rfl rfl rfl ?_)))))))))
 refine zo rfl (zo rfl (zd rfl rfl (zw (zR (zo rfl (zo rfl (zo rfl (zo rfl (zi rfl rfl rfl rfl rfl ?_)))))))))
 refine zo rfl (zo rfl (zw (zq (zR (zo rfl (zo rfl (zw (zb rfl (zR (zo rfl ?_))))))))))
 refine zo rfl (zw (zC rfl (fun h1 => ?_) (fun h1 => ?_)))
 refine zr (zo rfl (zo rfl (zo rfl (za rfl (zo rfl (zd rfl rfl (wn (nb (nq ?_)))))))))
 refine zr (zo rfl (zo rfl (zo rfl ?_)))
 first | (refine step_app1 rfl (by first | exact .inl rfl | (right; simp)) rfl rfl rfl rfl rfl rfl (by simp; omega) rfl ?_) | (refine step_op rfl rfl rfl ?_)
 exact zo rfl (wn (nb (nq (zr (za rfl (zo rfl (wn (ns trivial (weakO ⟨rfl, rfl, slD_eq rfl ((row3_eq (by first | (simp only [posAt, sumI, hmv, moveOf, *, Bool.false_eq_true, if_true, if_false]; done) | (simp only [posAt, sumI, hmv, moveOf, *, Bool.false_eq_true, if_true, if_false]; omega)) (by first | (simp only [posAt, sumI, hmv, moveOf, *, Bool.false_eq_true, if_true, if_false]; done) | (simp only [posAt, sumI, hmv, moveOf, *, Bool.false_eq_true, if_true, if_false]; omega)) (by first | (simp only [posAt, sumI, hmv, moveOf, *, Bool.false_eq_true, if_true, if_false]; done) | (simp only [posAt, sumI, hmv, moveOf, *, Bool.false_eq_true, if_true, if_false]; omega))).trans (rangeM_snoc _ _).symm), rfl, rfl, rfl, trivial⟩ ⟨so rfl, so (cell3_eq rfl (by first | (simp only [posAt, sumI, hmv, moveOf, *, Bool.false_eq_true, if_true, if_false]; done) | (simp only [posAt, sumI, hmv, moveOf, *, Bool.false_eq_true, if_true, if_false]; omega)) (by first | (simp only [posAt, sumI, hmv, moveOf, *, Bool.false_eq_true, if_true, if_false]; done) | (simp only [posAt, sumI, hmv, moveOf, *, Bool.false_eq_true, if_true, if_false]; omega)) (by first | (simp only [posAt, sumI, hmv, moveOf, *, Bool.false_eq_true, if_true, if_false]; done) | (simp only [posAt, sumI, hmv, moveOf, *, Bool.false_eq_true, if_true, if_false]; omega))), soA rfl ((row3_eq (by first | (simp only [posAt, sumI, hmv, moveOf, *, Bool.false_eq_true, if_true, if_false]; done) | (simp only [posAt, sumI, hmv, moveOf, *, Bool.false_eq_true, if_true, if_false]; omega)) (by first | (simp only [posAt, sumI, hmv, moveOf, *, Bool.false_eq_true, if_true, if_false]; done) | (simp only [posAt, sumI, hmv, moveOf, *, Bool.false_eq_true, if_true, if_false]; omega)) (by first | (simp only [posAt, sumI, hmv, moveOf, *, Bool.false_eq_true, if_true, if_false]; done) | (simp only [posAt, sumI, hmv, moveOf, *, Bool.false_eq_true, if_true, if_false]; omega))).trans (rangeM_snoc _ _).symm), trivial⟩ (by repeat' (first | exact trivial | exact rfl | exact slD_ment rfl | exact moS | exact mo rfl | refine ⟨?_, ?_⟩)) (by repeat' (first | exact trivial | exact rfl | exact slD_ment rfl | exact moS | exact mo rfl | refine ⟨?_, ?_⟩)))))))))))
 refine zR (zo rfl (zo rfl (zw (zC rfl (fun h2 => ?_) (fun h2 => ?_)))))
 refine zr (zo rfl (zo rfl (zo rfl (zs rfl (zo rfl (zd rfl rfl (wn (nb (nq ?_)))))))))
 refine zr (zo rfl (zo rfl (zo rfl ?_)))
 first | (refine step_app1 rfl (by first | exact .inl rfl | (right; simp)) rfl rfl rfl rfl rfl rfl (by simp; omega) rfl ?_) | (refine step_op rfl rfl rfl ?_)
 exact zo rfl (wn (nb (nq (zr (za rfl (zo rfl (wn (ns trivial (weakO ⟨rfl, rfl, slD_eq rfl ((row3_eq (by first | (simp only [posAt, sumI, hmv, moveOf, *, Bool.false_eq_true, if_true, if_false]; done) | (simp only [posAt, sumI, hmv, moveOf, *, Bool.false_eq_true, if_true, if_false]; omega)) (by first | (simp only [posAt, sumI, hmv, moveOf, *, Bool.false_eq_true, if_true, if_false]; done) | (simp only [posAt, sumI, hmv, moveOf, *, Bool.false_eq_true, if_true, if_false]; omega)) (by first | (simp only [posAt, sumI, hmv, moveOf, *, Bool.false_eq_true, if_true, if_false]; done) | (simp only [posAt, sumI, hmv, moveOf, *, Bool.false_eq_true, if_true, if_false]; omega))).trans (rangeM_snoc _ _).symm), rfl, rfl, rfl, trivial⟩ ⟨so rfl, so (cell3_eq rfl (by first | (simp only [posAt, sumI, hmv, moveOf, *, Bool.false_eq_true, if_true, if_false]; done) | (simp only [posAt, sumI, hmv, moveOf, *, Bool.false_eq_true, if_true, if_false]; omega)) (by first | (simp only [posAt, sumI, hmv, moveOf, *, Bool.false_eq_true, if_true, if_false]; done) | (simp only [posAt, sumI, hmv, moveOf, *, Bool.false_eq_true, if_true, if_false]; omega)) (by first | (simp only [posAt, sumI, hmv, moveOf, *, Bool.false_eq_true, if_true, if_false]; done) | (simp only [posAt, sumI, hmv, moveOf, *, Bool.false_eq_true, if_true, if_false]; omega))), soA rfl ((row3_eq (by first | (simp only [posAt, sumI, hmv, moveOf, *, Bool.false_eq_true, if_true, if_false]; done) | (simp only [posAt, sumI, hmv, moveOf, *, Bool.false_eq_true, if_true, if_false]; omega)) (by first | (simp only [posAt, sumI, hmv, moveOf, *, Bool.false_eq_true, if_true, if_false]; done) | (simp only [posAt, sumI, hmv, moveOf, *, Bool.false_eq_true, if_true, if_false]; omega)) (by first | (simp only [posAt, sumI, hmv, moveOf, *, Bool.false_eq_true, if_true, if_false]; done) | (simp only [posAt, sumI, hmv, moveOf, *, Bool.false_eq_true, if_true, if_false]; omega))).trans (rangeM_snoc _ _).symm), trivial⟩ (by repeat' (first | exact trivial | exact rfl | exact slD_ment rfl | exact moS | exact mo rfl | refine ⟨?_, ?_⟩)) (by repeat' (first | exact trivial | exact rfl | exact slD_ment rfl | exact moS | exact mo rfl | refine ⟨?_, ?_⟩)))))))))))
 refine zR (zo rfl (zo rfl (zw (zC rfl (fun h3 => ?_) (fun h3 => ?_)))))
 refine zr (zo rfl (zo rfl (zo rfl (za rfl (zo rfl (zd rfl rfl (wn (nb (nq ?_)))))))))
 refine zr (zo rfl (zo rfl (zo rfl ?_)))
 first | (refine step_app1 rfl (by first | exact .inl rfl | (right; simp)) rfl rfl rfl rfl rfl rfl (by simp; omega) rfl ?_) | (refine step_op rfl rfl rfl ?_)
 exact zo rfl (wn (nb (nq (zr (za rfl (zo rfl (wn (ns trivial (weakO ⟨rfl, rfl, slD_eq rfl ((row3_eq (by first | (simp only [posAt, sumI, hmv, moveOf, *, Bool.false_eq_true, if_true, if_false]; done) | (simp only [posAt, sumI, hmv, moveOf, *, Bool.false_eq_true, if_true, if_false]; omega)) (by first | (simp only [posAt, sumI, hmv, moveOf, *, Bool.false_eq_true, if_true, if_false]; done) | (simp only [posAt, sumI, hmv, moveOf, *, Bool.false_eq_true, if_true, if_false]; omega)) (by first | (simp only [posAt, sumI, hmv, moveOf, *, Bool.false_eq_true, if_true, if_false]; done) | (simp only [posAt, sumI, hmv, moveOf, *, Bool.false_eq_true, if_true, if_false]; omega))).trans (rangeM_snoc _ _).symm), rfl, rfl, rfl, trivial⟩ ⟨so rfl, so (cell3_eq rfl (by first | (simp only [posAt, sumI, hmv, moveOf, *, Bool.false_eq_true, if_true, if_false]; done) | (simp only [posAt, sumI, hmv, moveOf, *, Bool.false_eq_true, if_true, if_false]; omega)) (by first | (simp only [posAt, sumI, hmv, moveOf, *, Bool.false_eq_true, if_true, if_false]; done) | (simp only [posAt, sumI, hmv, moveOf, *, Bool.false_eq_true, if_true, if_false]; omega)) (by first | (simp only [posAt, sumI, hmv, moveOf, *, Bool.false_eq_true, if_true, if_false]; done) | (simp only [posAt, sumI, hmv, moveOf, *, Bool.false_eq_true, if_true, if_false]; omega))), soA rfl ((row3_eq (by first | (simp only [posAt, sumI, hmv, moveOf, *, Bool.false_eq_true, if_true, if_false]; done) | (simp only [posAt, sumI, hmv, moveOf, *, Bool.false_eq_true, if_true, if_false]; omega)) (by first | (simp only [posAt, sumI, hmv, moveOf, *, Bool.false_eq_true, if_true, if_false]; done) | (simp only [posAt, sumI, hmv, moveOf, *, Bool.false_eq_true, if_true, if_false]; omega)) (by first | (simp only [posAt, sumI, hmv, moveOf, *, Bool.false_eq_true, if_true, if_false]; done) | (simp only [posAt, sumI, hmv, moveOf, *, Bool.false_eq_true, if_true, if_false]; omega))).trans (rangeM_snoc _ _).symm), trivial⟩ (by repeat' (first | exact trivial | exact rfl | exact slD_ment rfl | exact moS | exact mo rfl | refine ⟨?_, ?_⟩)) (by repeat' (first | exact trivial | exact rfl | exact slD_ment rfl | exact moS | exact mo rfl | refine ⟨?_, ?_⟩)))))))))))
 refine zR (zo rfl (zo rfl (zw (zC rfl (fun h4 => ?_) (fun h4 => ?_)))))
 refine zr (zo rfl (zo rfl (zo rfl (zs rfl (zo rfl (zd rfl rfl (wn (nb (nq ?_)))))))))
 refine zr (zo rfl (zo rfl (zo rfl ?_)))
 first | (refine step_app1 rfl (by first | exact .inl rfl | (right; simp)) rfl rfl rfl rfl rfl rfl (by simp; omega) rfl ?_) | (refine step_op rfl rfl rfl ?_)
 exact zo rfl (wn (nb (nq (zr (za rfl (zo rfl (wn (ns trivial (weakO ⟨rfl, rfl, slD_eq rfl ((row3_eq (by first | (simp only [posAt, sumI, hmv, moveOf, *, Bool.false_eq_true, if_true, if_false]; done) | (simp only [posAt, sumI, hmv, moveOf, *, Bool.false_eq_true, if_true, if_false]; omega)) (by first | (simp only [posAt, sumI, hmv, moveOf, *, Bool.false_eq_true, if_true, if_false]; done) | (simp only [posAt, sumI, hmv, moveOf, *, Bool.false_eq_true, if_true, if_false]; omega)) (by first | (simp only [posAt, sumI, hmv, moveOf, *, Bool.false_eq_true, if_true, if_false]; done) | (simp only [posAt, sumI, hmv, moveOf, *, Bool.false_eq_true, if_true, if_false]; omega))).trans (rangeM_snoc _ _).symm), rfl, rfl, rfl, trivial⟩ ⟨so rfl, so (cell3_eq rfl (by first | (simp only [posAt, sumI, hmv, moveOf, *, Bool.false_eq_true, if_true, if_false]; done) | (simp only [posAt, sumI, hmv, moveOf, *, Bool.false_eq_true, if_true, if_false]; omega)) (by first | (simp only [posAt, sumI, hmv, moveOf, *, Bool.false_eq_true, if_true, if_false]; done) | (simp only [posAt, sumI, hmv, moveOf, *, Bool.false_eq_true, if_true, if_false]; omega)) (by first | (simp only [posAt, sumI, hmv, moveOf, *, Bool.false_eq_true, if_true, if_false]; done) | (simp only [posAt, sumI, hmv, moveOf, *, Bool.false_eq_true, if_true, if_false]; omega))), soA rfl ((row3_eq (by first | (simp only [posAt, sumI, hmv, moveOf, *, Bool.false_eq_true, if_true, if_false]; done) | (simp only [posAt, sumI, hmv, moveOf, *, Bool.false_eq_true, if_true, if_false]; omega)) (by first | (simp only [posAt, sumI, hmv, moveOf, *, Bool.false_eq_true, if_true, if_false]; done) | (simp only [posAt, sumI, hmv, moveOf, *, Bool.false_eq_true, if_true, if_false]; omega)) (by first | (simp only [posAt, sumI, hmv, moveOf, *, Bool.false_eq_true, if_true, if_false]; done) | (simp only [posAt, sumI, hmv, moveOf, *, Bool.false_eq_true, if_true, if_false]; omega))).trans (rangeM_snoc _ _).symm), trivial⟩ (by repeat' (first | exact trivial | exact rfl | exact slD_ment rfl | exact moS | exact mo rfl | refine ⟨?_, ?_⟩)) (by repeat' (first | exact trivial | exact rfl | exact slD_ment rfl | exact moS | exact mo rfl | refine ⟨?_, ?_⟩)))))))))))
 refine zR (zo rfl (zo rfl (zw (zC rfl (fun h5 => ?_) (fun h5 => ?_)))))
 refine zr (zo rfl (zo rfl (zo rfl (za rfl (zo rfl (zd rfl rfl (wn (nb (nq ?_)))))))))
 refine zr (zo rfl (zo rfl (zo rfl ?_)))
 first | (refine step_app1 rfl (by first | exact .inl rfl | (right; simp)) rfl rfl rfl rfl rfl rfl (by simp; omega) rfl ?_) | (refine step_op rfl rfl rfl ?_)
 exact zo rfl (wn (nb (nq (zr (za rfl (zo rfl (wn (ns trivial (weakO ⟨rfl, rfl, slD_eq rfl ((row3_eq (by first | (simp only [posAt, sumI, hmv, moveOf, *, Bool.false_eq_true, if_true, if_false]; done) | (simp only [posAt, sumI, hmv, moveOf, *, Bool.false_eq_true, if_true, if_false]; omega)) (by first | (simp only [posAt, sumI, hmv, moveOf, *, Bool.false_eq_true, if_true, if_false]; done) | (simp only [posAt, sumI, hmv, moveOf, *, Bool.false_eq_true, if_true, if_false]; omega)) (by first | (simp only [posAt, sumI, hmv, moveOf, *, Bool.false_eq_true, if_true, if_false]; done) | (simp only [posAt, sumI, hmv, moveOf, *, Bool.false_eq_true, if_true, if_false]; omega))).trans (rangeM_snoc _ _).symm), rfl, rfl, rfl, trivial⟩ ⟨so rfl, so (cell3_eq rfl (by first | (simp only [posAt, sumI, hmv, moveOf, *, Bool.false_eq_true, if_true, if_false]; done) | (simp only [posAt, sumI, hmv, moveOf, *, Bool.false_eq_true, if_true, if_false]; omega)) (by first | (simp only [posAt, sumI, hmv, moveOf, *, Bool.false_eq_true, if_true, if_false]; done) | (simp only [posAt, sumI, hmv, moveOf, *, Bool.false_eq_true, if_true, if_false]; omega)) (by first | (simp only [posAt, sumI, hmv, moveOf, *, Bool.false_eq_true, if_true, if_false]; done) | (simp only [posAt, sumI, hmv, moveOf, *, Bool.false_eq_true, if_true, if_false]; omega))), soA rfl ((row3_eq (by first | (simp only [posAt, sumI, hmv, moveOf, *, Bool.false_eq_true, if_true, if_false]; done) | (simp only [posAt, sumI, hmv, moveOf, *, Bool.false_eq_true, if_true, if_false]; omega)) (by first | (simp only [posAt, sumI, hmv, moveOf, *, Bool.false_eq_true, if_true, if_false]; done) | (simp only [posAt, sumI, hmv, moveOf, *, Bool.false_eq_true, if_true, if_false]; omega)) (by first | (simp only [posAt, sumI, hmv, moveOf, *, Bool.false_eq_true, if_true, if_false]; done) | (simp only [posAt, sumI, hmv, moveOf, *, Bool.false_eq_true, if_true, if_false]; omega))).trans (rangeM_snoc _ _).symm), trivial⟩ (by repeat' (first | exact trivial | exact rfl | exact slD_ment rfl | exact moS | exact mo rfl | refine ⟨?_, ?_⟩)) (by repeat' (first | exact trivial | exact rfl | exact slD_ment rfl | exact moS | exact mo rfl | refine ⟨?_, ?_⟩)))))))))))
 refine Sat.skip (nb (nq (zr (zo rfl (zo rfl (zo rfl ?_))))))
 first | (refine step_app1 rfl (by first | exact .inl rfl | (right; simp)) rfl rfl rfl rfl rfl rfl (by simp; omega) rfl ?_) | (refine step_op rfl rfl rfl ?_)
 exact zo rfl (wn (nb (nq (zr (za rfl (zo rfl (wn (ns trivial (weakO ⟨rfl, rfl, slD_eq rfl ((row3_eq (by first | (simp only [posAt, sumI, hmv, moveOf, *, Bool.false_eq_true, if_true, if_false]; done) | (simp only [posAt, sumI, hmv, moveOf, *, Bool.false_eq_true, if_true, if_false]; omega)) (by first | (simp only [posAt, sumI, hmv, moveOf, *, Bool.false_eq_true, if_true, if_false]; done) | (simp only [posAt, sumI, hmv, moveOf, *, Bool.false_eq_true, if_true, if_false]; omega)) (by first | (simp only [posAt, sumI, hmv, moveOf, *, Bool.false_eq_true, if_true, if_false]; done) | (simp only [posAt, sumI, hmv, moveOf, *, Bool.false_eq_true, if_true, if_false]; omega))).trans (rangeM_snoc _ _).symm), rfl, rfl, rfl, trivial⟩ ⟨so rfl, so (cell3_eq rfl (by first | (simp only [posAt, sumI, hmv, moveOf, *, Bool.false_eq_true, if_true, if_false]; done) | (simp only [posAt, sumI, hmv, moveOf, *, Bool.false_eq_true, if_true, if_false]; omega)) (by first | (simp only [posAt, sumI, hmv, moveOf, *, Bool.false_eq_true, if_true, if_false]; done) | (simp only [posAt, sumI, hmv, moveOf, *, Bool.false_eq_true, if_true, if_false]; omega)) (by first | (simp only [posAt, sumI, hmv, moveOf, *, Bool.false_eq_true, if_true, if_false]; done) | (simp only [posAt, sumI, hmv, moveOf, *, Bool.false_eq_true, if_true, if_false]; omega))), soA rfl ((row3_eq (by first | (simp only [posAt, sumI, hmv, moveOf, *, Bool.false_eq_true, if_true, if_false]; done) | (simp only [posAt, sumI, hmv, moveOf, *, Bool.false_eq_true, if_true, if_false]; omega)) (by first | (simp only [posAt, sumI, hmv, moveOf, *, Bool.false_eq_true, if_true, if_false]; done) | (simp only [posAt, sumI, hmv, moveOf, *, Bool.false_eq_true, if_true, if_false]; omega)) (by first | (simp only [posAt, sumI, hmv, moveOf, *, Bool.false_eq_true, if_true, if_false]; done) | (simp only [posAt, sumI, hmv, moveOf, *, Bool.false_eq_true, if_true, if_false]; omega))).trans (rangeM_snoc _ _).symm), trivial⟩ (by repeat' (first | exact trivial | exact rfl | exact slD_ment rfl | exact moS | exact mo rfl | refine ⟨?_, ?_⟩)) (by repeat' (first | exact trivial | exact rfl | exact slD_ment rfl | exact moS | exact mo rfl | refine ⟨?_, ?_⟩)))))))))))
 refine zR (zo rfl (zw (zq (zn rfl (by simp) (Sat.exit (xq (xe (nq (Sat.pubS 5 rfl rfl ?_)))))))))
 exact zR (zo rfl (zo rfl (zo rfl (zw (Sat.ret (ze rfl (by simp only [pathOf, List.map_map]; rw [hml]; rfl)))))))
end Go.Proofs.YtamjajacnfmgeaaGreat
