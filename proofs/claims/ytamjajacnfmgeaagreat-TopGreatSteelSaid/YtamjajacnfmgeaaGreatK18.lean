/-
  Contracts: validity in the references, but for laid bars. Condition: none beyond the statements'.
-/
import Derived.Test.YtamjajacnfmgeaaGreatK17
set_option linter.all false
namespace Go.Proofs.YtamjajacnfmgeaaGreat
open Go Go.RowKit
set_option maxHeartbeats 1000000
def shortBar (b : Bar) : Bool := decide ((b.dims.length : Int) ≤ 8) && decide ((b.mark.size : Int) ≤ 60)
theorem ok12 (b : Bar) : Ok Tryz.prog 12 [.ag b.c] (.bool (shortBar b)) := by
 unfold shortBar
 refine zz 13 Tryz.func12 rfl Tryz.call12 rfl (zR (zo rfl (zo rfl (zw (zR (zo rfl (zo rfl (zo rfl (zo rfl ?_)))))))))
 refine zo rfl (zT rfl (fun h1 => ?_) (fun h1 => ?_))
 exact zO (fun _ => rfl) (zh rfl h1 rfl (zh rfl h1 rfl (zh rfl h1 rfl (zp rfl h1 rfl (zo rfl (zw (Sat.ret (zg rfl))))))))
 exact zt rfl h1 (zt rfl h1 (zt rfl h1 (zP rfl h1 rfl (zo rfl (zw (Sat.ret (zg rfl)))))))
def wordB (s : ByteArray) (i : Nat) : Bool := isLetter (byteN s i) || isDigit (byteN s i) || byteN s i == 95
def run1 (n : Nat) (p : Nat → Bool) : Nat := (findN n fun i => !p i).toNat + (if findN n (fun i => !p i) = -1 then n else 0)
theorem run1_spec (n : Nat) (p : Nat → Bool) : run1 n p ≤ n ∧ (∀ i, i < run1 n p → p i = true) ∧ (run1 n p < n → p (run1 n p) = false) := by
 unfold run1
 rcases findN_cases n fun i => !p i with ⟨h1, h2⟩ | ⟨i, h1, h2, h3, h4⟩
 · rw [h1]
   simp only [if_true]
   have e : (-1 : Int).toNat + n = n := by simp
   rw [e]
   exact ⟨Nat.le_refl _, fun i hi => by simpa using h2 i hi, fun h => by omega⟩
 · rw [h1]
   have e : ((i : Int)).toNat + (if (i : Int) = -1 then n else 0) = i := by
     rw [if_neg (by omega)]; simp
   rw [e]
   exact ⟨by omega, fun j hj => by simpa using h4 j hj, fun _ => by simpa using h3⟩
def wordLen (s : ByteArray) : Nat := run1 s.size (wordB s)
theorem ok74 (s : ByteArray) (hs : s.size ≤ 20) : Ok Tryz.prog 74 [.str s, vi 0] (vi (wordLen s)) := by
 obtain ⟨g1, g2, g3⟩ := run1_spec s.size (wordB s)
 refine zz 30 Tryz.func74 rfl Tryz.call74 rfl (zR (zo rfl (zw (zq (Sat.loop' (fun _ => True) (fun i => ⟨30, lk [(0, .v (.str s)), (1, .v (vi i))], lk []⟩) (wordLen s) ?_ (trivial) (fun i hi hI => ?_) (fun hI => ?_))))))
 exact zv rfl rfl rfl rfl
 have hs1 : i < s.size := by unfold wordLen at hi; omega
 have hw := g2 i hi
 refine zq (zR (zo rfl (zo rfl (zo rfl (zo rfl (zo rfl (zT rfl (fun h1 => ?_) (fun h1 => ?_))))))))
 refine zO (fun _ => rfl) (zh rfl h1 rfl (step_sil (sil_on rfl h1 (sil_byte rfl rfl rfl rfl (by omega) (byte_at (by omega) (by simp_all)) ?_))))
 refine step_sil (sil_on rfl h1 (sil_call rfl rfl (fun _ => rfl) (fun _ => rfl) (ok73 _) ?_))
 refine zh rfl h1 rfl (zF rfl (fun h2 => ?_) (fun h2 => ?_))
 refine zO (fun _ => rfl) (zh rfl h2 rfl (step_sil (sil_on rfl h2 (sil_byte rfl rfl rfl rfl (by omega) (byte_at (by omega) (by simp_all)) ?_))))
 refine step_sil (sil_on rfl h2 (sil_call rfl rfl (fun _ => rfl) (fun _ => rfl) (ok128 _) ?_))
 refine step_sil (sil_on rfl h1 (sil_pick (want := false) rfl rfl h2 rfl ?_))
 refine zh rfl h1 rfl (zF rfl (fun h3 => ?_) (fun h3 => ?_))
 refine zO (fun _ => rfl) (zh rfl h3 rfl (step_sil (sil_on rfl h3 (sil_byte rfl rfl rfl rfl (by omega) (byte_at (by omega) (by simp_all)) ?_))))
 refine zh rfl h3 rfl (step_sil (sil_on rfl h1 (sil_pick (want := false) rfl rfl h3 rfl ?_)))
 refine zp rfl h1 rfl (zw (zy rfl (by simp_all [wordB, byteN]) (zk (zb rfl (zr (zo rfl (za rfl (zo rfl (wn (nb ?_))))))))))
 exact ns trivial (zv rfl rfl rfl rfl)
 refine zf rfl h3 (zf rfl h3 (zf rfl h3 (step_sil (sil_on rfl h1 (sil_pick (want := true) rfl rfl h3 rfl ?_)))))
 refine zp rfl h1 rfl (zw (zy rfl rfl (zk (zb rfl (zr (zo rfl (za rfl (zo rfl (wn (nb ?_))))))))))
 exact ns trivial (zv rfl rfl rfl rfl)
 refine zf rfl h2 (zf rfl h2 (zf rfl h2 (step_sil (sil_on rfl h1 (sil_pick (want := true) rfl rfl h2 rfl ?_)))))
 refine zh rfl h1 rfl (zf rfl rfl (zf rfl rfl (zf rfl rfl (zf rfl rfl (step_sil (sil_on rfl h1 (sil_pick (want := true) rfl rfl rfl rfl ?_)))))))
 refine zp rfl h1 rfl (zw (zy rfl rfl (zk (zb rfl (zr (zo rfl (za rfl (zo rfl (wn (nb ?_))))))))))
 exact ns trivial (zv rfl rfl rfl rfl)
 refine zt rfl h1 (zt rfl h1 (zt rfl h1 (zt rfl h1 (zu rfl (zu rfl (zu rfl (zu rfl (zt rfl h1 (zt rfl h1 ?_)))))))))
 refine zu rfl (zu rfl (zu rfl (zu rfl (zt rfl h1 (zP rfl h1 rfl (zw ?_))))))
 exfalso; simp_all [wordB, byteN]
 have hw : wordLen s < s.size → wordB s (wordLen s) = false := g3
 have hw2 : wordLen s ≤ s.size := g1
 refine zq (zR (zo rfl (zo rfl (zo rfl (zo rfl (zo rfl (zT rfl (fun h4 => ?_) (fun h4 => ?_))))))))
 refine zO (fun _ => rfl) (zh rfl h4 rfl (step_sil (sil_on rfl h4 (sil_byte rfl rfl rfl rfl (by omega) (byte_at (by omega) (by simp_all)) ?_))))
 refine step_sil (sil_on rfl h4 (sil_call rfl rfl (fun _ => rfl) (fun _ => rfl) (ok73 _) ?_))
 refine zh rfl h4 rfl (zF rfl (fun h5 => ?_) (fun h5 => ?_))
 refine zO (fun _ => rfl) (zh rfl h5 rfl (step_sil (sil_on rfl h5 (sil_byte rfl rfl rfl rfl (by omega) (byte_at (by omega) (by simp_all)) ?_))))
 refine step_sil (sil_on rfl h5 (sil_call rfl rfl (fun _ => rfl) (fun _ => rfl) (ok128 _) ?_))
 refine step_sil (sil_on rfl h4 (sil_pick (want := false) rfl rfl h5 rfl ?_))
 refine zh rfl h4 rfl (zF rfl (fun h6 => ?_) (fun h6 => ?_))
 refine zO (fun _ => rfl) (zh rfl h6 rfl (step_sil (sil_on rfl h6 (sil_byte rfl rfl rfl rfl (by omega) (byte_at (by omega) (by simp_all)) ?_))))
 refine zh rfl h6 rfl (step_sil (sil_on rfl h4 (sil_pick (want := false) rfl rfl h6 rfl ?_)))
 refine zp rfl h4 rfl (zw (zn rfl (by simp_all [wordB, byteN]) (Sat.exit (xq (xe (nq (zR (zo rfl (zo rfl ?_)))))))))
 exact zw (Sat.ret (zg rfl))
 refine zf rfl h6 (zf rfl h6 (zf rfl h6 (step_sil (sil_on rfl h4 (sil_pick (want := true) rfl rfl h6 rfl ?_)))))
 refine zp rfl h4 rfl (zw ?_)
 exfalso; simp_all [wordB, byteN]
 refine zf rfl h5 (zf rfl h5 (zf rfl h5 (step_sil (sil_on rfl h4 (sil_pick (want := true) rfl rfl h5 rfl ?_)))))
 refine zh rfl h4 rfl (zf rfl rfl (zf rfl rfl (zf rfl rfl (zf rfl rfl (step_sil (sil_on rfl h4 (sil_pick (want := true) rfl rfl rfl rfl ?_)))))))
 refine zp rfl h4 rfl (zw ?_)
 exfalso; simp_all [wordB, byteN]
 refine zt rfl h4 (zt rfl h4 (zt rfl h4 (zt rfl h4 (zu rfl (zu rfl (zu rfl (zu rfl (zt rfl h4 (zt rfl h4 ?_)))))))))
 refine zu rfl (zu rfl (zu rfl (zu rfl (zt rfl h4 (zP rfl h4 rfl (zw (zn rfl rfl (Sat.exit (xq ?_)))))))))
 exact xe (nq (zR (zo rfl (zo rfl (zw (Sat.ret (zg rfl)))))))
def nameOk (s : ByteArray) : Bool := !((s.size : Int) == 0) && !decide ((s.size : Int) > 20) && isLetter (byteN s 0) && ((wordLen s : Int) == (s.size : Int))
theorem ok31 (s : ByteArray) : Ok Tryz.prog 31 [.str s] (.bool (nameOk s)) := by
 unfold nameOk byteN
 refine zz 22 Tryz.func31 rfl Tryz.call31 rfl (zR (zo rfl (zw (zq (zR (zo rfl (zo rfl (zo rfl (zo rfl ?_)))))))))
 refine zF rfl (fun h1 => ?_) (fun h1 => ?_)
 refine zO (fun _ => rfl) (zh rfl h1 rfl (zh rfl h1 rfl (zP rfl h1 rfl (zo rfl (zF rfl (fun h2 => ?_) (fun h2 => ?_))))))
 refine zO (fun _ => rfl) (step_sil (sil_on rfl h2 (sil_byte rfl rfl rfl rfl (by omega) (byte_at (by omega) (pos_of (by assumption))) ?_)))
 refine step_sil (sil_on rfl h2 (sil_call rfl rfl (fun _ => rfl) (fun _ => rfl) (ok73 _) ?_))
 refine zh rfl h2 rfl (zP rfl h2 rfl (zw (zC rfl (fun h3 => ?_) (fun h3 => ?_))))
 exact zR (zo rfl (zw (Sat.ret (rq (zg rfl)))))
 refine zk (zR (zo rfl (zc rfl (ok74 _ (by first | omega | (simp_all []; done) | (simp_all []; omega))) (zo rfl (zo rfl (zo rfl (zo rfl (zw (Sat.ret ?_)))))))))
 exact zg rfl
 refine zf rfl h2 (zf rfl h2 (zf rfl h2 (zp rfl h2 rfl (zw (zy rfl rfl (zR (zo rfl (zw (Sat.ret ?_)))))))))
 exact rq (zg rfl)
 refine zf rfl h1 (zf rfl h1 (zp rfl h1 rfl (zo rfl (zf rfl rfl (zf rfl rfl (zf rfl rfl (zf rfl rfl (zp rfl rfl rfl (zw (zy rfl rfl ?_))))))))))
 exact zR (zo rfl (zw (Sat.ret (rq (zg rfl)))))
def sizesL : List Int := [6, 8, 10, 12, 16, 20, 25, 32, 40]
theorem ok189 : Ok Tryz.prog 189 [] (.sl (sizesL.map ic)) := by
 exact zz 2 Tryz.func189 rfl Tryz.call189 rfl (zR (zo rfl (zw (zR (zo rfl (zo rfl (zw (Sat.ret (zg rfl)))))))))
def sizeI (d : Int) : Int := findN 9 fun i => gt sizesL i == d
def isSize (d : Int) : Bool := decide (sizeI d ≥ 0)
theorem isSize_true {d : Int} {i : Nat} (hi : i < 9) (h : (gt sizesL i == d) = true) (hb : ∀ j, j < i → (gt sizesL j == d) = false) : V.bool true = V.bool (isSize d) := by
 rw [isSize, sizeI, findN_eq hi h hb]; simp
theorem isSize_false {d : Int} (hb : ∀ j : Nat, j < 9 → (gt sizesL j == d) = false) : V.bool false = V.bool (isSize d) := by
 rw [isSize, sizeI, findN_none hb]; rfl
theorem ok129 (d : Int) : Ok Tryz.prog 129 [vi d] (.bool (isSize d)) := by
 refine zz 18 Tryz.func129 rfl Tryz.call129 rfl (zR (zo rfl (zw (zR (zc rfl ok189 (zo rfl (zw (zq (zR (zo rfl ?_))))))))))
 refine zw (Sat.loop' (fun i => ∀ j : Nat, j < i → (gt sizesL j == d) = false) (fun i => ⟨18, lk [(0, .v (vi d)), (3, .v (.sl (sizesL.map ic))), (4, .v (vi i))], lk []⟩) (9) ?_ (all_zero) (fun i hi hI => ?_) (fun hI => ?_))
 exact zv rfl rfl rfl rfl
 refine zq (zR (zo rfl (zo rfl (zo rfl (zo rfl (zw (zy rfl (by simp [sizesL]; omega) (zk (zq (zb rfl ?_))))))))))
 refine zR (zo rfl (zo rfl (step_sil (sil_index rfl rfl rfl rfl (by omega) (gt_idx (by omega) (by simp [sizesL]; omega)) rfl ?_))))
 refine zo rfl (zo rfl (zo rfl (zw (zC rfl (fun h1 => ?_) (fun h1 => ?_)))))
 exact zR (zo rfl (zw (Sat.ret (rb (rq (rs (rq (ze rfl (by first | exact isSize_true hi (by assumption) hI | exact isSize_false hI)))))))))
 exact Sat.skip (nb (nq (zr (zo rfl (za rfl (zo rfl (wn (ns (all_step hI (by assumption)) (zv rfl rfl rfl rfl)))))))))
 refine zq (zR (zo rfl (zo rfl (zo rfl (zo rfl (zw (zn rfl (by simp [sizesL]) (Sat.exit (xq ?_)))))))))
 exact xe (nq (zR (zo rfl (zw (Sat.ret (ze rfl (by first | exact isSize_true hi (by assumption) hI | exact isSize_false hI)))))))
def dimsOf (c : Int) : Int := if c == 0 then 1 else if c == 11 then 2 else if c == 21 || c == 26 || c == 31 || c == 51 || c == 98 then 3 else if c == 41 then 5 else 0
theorem dimsOf_le (c : Int) : 0 ≤ dimsOf c ∧ dimsOf c ≤ 5 := by
 unfold dimsOf
 repeat' split
 all_goals omega
theorem ok130 (c : Int) : Ok Tryz.prog 130 [vi c] (vi (dimsOf c)) := by
 unfold dimsOf
 refine zz 16 Tryz.func130 rfl Tryz.call130 rfl (zR (zo rfl (zw (zq (zR (zo rfl (zw (zb rfl (zR (zo rfl ?_))))))))))
 refine zo rfl (zw (zC rfl (fun h1 => ?_) (fun h1 => ?_)))
 exact zR (zo rfl (zw (Sat.ret (rb (rq (ze rfl (by simp_all)))))))
 refine zR (zo rfl (zo rfl (zw (zC rfl (fun h2 => ?_) (fun h2 => ?_)))))
 exact zR (zo rfl (zw (Sat.ret (rb (rq (ze rfl (by simp_all)))))))
 refine zq (zR (zo rfl (zo rfl (zw (zC rfl (fun h3 => ?_) (fun h3 => ?_))))))
 exact zk (zy rfl h3 (zR (zo rfl (zw (Sat.ret (rb (rq (ze rfl (by simp_all)))))))))
 refine zR (zo rfl (zo rfl (zw (zC rfl (fun h4 => ?_) (fun h4 => ?_)))))
 exact zk (zy rfl h4 (zR (zo rfl (zw (Sat.ret (rb (rq (ze rfl (by simp_all)))))))))
 refine zR (zo rfl (zo rfl (zw (zC rfl (fun h5 => ?_) (fun h5 => ?_)))))
 exact zk (zy rfl h5 (zR (zo rfl (zw (Sat.ret (rb (rq (ze rfl (by simp_all)))))))))
 refine zR (zo rfl (zo rfl (zw (zC rfl (fun h6 => ?_) (fun h6 => ?_)))))
 exact zk (zy rfl h6 (zR (zo rfl (zw (Sat.ret (rb (rq (ze rfl (by simp_all)))))))))
 refine zr (zo rfl (zo rfl (zw (zC rfl (fun h7 => ?_) (fun h7 => ?_)))))
 exact zR (zo rfl (zw (Sat.ret (rb (rq (ze rfl (by simp_all)))))))
 refine zR (zo rfl (zo rfl (zw (zC rfl (fun h8 => ?_) (fun h8 => ?_)))))
 exact zR (zo rfl (zw (Sat.ret (rb (rq (ze rfl (by simp_all)))))))
 exact Sat.skip (nb (nq (zR (zo rfl (zw (Sat.ret (ze rfl (by simp_all))))))))
def ax3 (x y z : Int) (k : Int) : Int := if k = 0 then x else if k = 1 then y else z
def axOk (b : Bx) (i : Nat) : Bool := isLen (ax3 b.lx b.ly b.lz i) && isLen (ax3 b.hx b.hy b.hz i) && !decide (ax3 b.lx b.ly b.lz i > ax3 b.hx b.hy b.hz i)
def boxOk (b : Bx) : Bool := allN 3 (axOk b)
theorem ok37 (b : Bx) : Ok Tryz.prog 37 [.ag [vi b.lx, vi b.ly, vi b.lz, vi b.hx, vi b.hy, vi b.hz]] (.bool (boxOk b)) := by
 refine zz 33 Tryz.func37 rfl Tryz.call37 rfl (zR (zo rfl (zo rfl (zw (zq (zR (zo rfl (zw (Sat.loop' (fun i => ∀ j : Nat, j < i → axOk b j = true) (fun i => ⟨33, lk [(1, .ptr 1 0), (3, .v (vi i))], lk [(1, ⟨.cells (b.c.map .v), false⟩)]⟩) (3) ?_ (all_zero) (fun i hi hI => ?_) (fun hI => ?_))))))))))
 exact zv rfl rfl rfl rfl
 refine zq (zR (zo rfl (zo rfl (zw (zy rfl (by simp; omega) (zk (zq (zb rfl (zq (Sat.dr tabOk mixed (by kernel_rfl) ?_))))))))))
 refine zO (fun _ => rfl) (zO (fun _ => rfl) (zO (fun _ => rfl) (sil_call rfl rfl (fun _ => rfl) (fun _ => rfl) (ok84 _ _ _ _) (sil_call rfl rfl (fun _ => rfl) (fun _ => rfl) (ok83 _) (zO (fun _ => rfl) (zO (fun _ => rfl) (sil_splitF rfl rfl (fun h1 => ?_) (fun h1 => ?_))))))))
 refine zO (fun _ => rfl) (sil_on rfl h1 (zO (fun _ => rfl) ?_))
 refine sil_on rfl h1 (zO (fun _ => rfl) ?_)
 refine sil_on rfl h1 (sil_call rfl rfl (fun _ => rfl) (fun _ => rfl) (ok84 _ _ _ _) ?_)
 refine sil_on rfl h1 (sil_call rfl rfl (fun _ => rfl) (fun _ => rfl) (ok83 _) ?_)
 refine sil_on rfl h1 (zO (fun _ => rfl) ?_)
 refine sil_pick (want := false) rfl rfl h1 rfl (zO (fun _ => rfl) (sil_splitF rfl rfl (fun h2 => ?_) (fun h2 => ?_)))
 refine zO (fun _ => rfl) (sil_on rfl h2 (zO (fun _ => rfl) ?_))
 refine sil_on rfl h2 (zO (fun _ => rfl) ?_)
 refine sil_on rfl h2 (sil_call rfl rfl (fun _ => rfl) (fun _ => rfl) (ok84 _ _ _ _) ?_)
 refine sil_on rfl h2 (zO (fun _ => rfl) ?_)
 refine sil_on rfl h2 (zO (fun _ => rfl) ?_)
 refine sil_on rfl h2 (zO (fun _ => rfl) ?_)
 refine sil_on rfl h2 (sil_call rfl rfl (fun _ => rfl) (fun _ => rfl) (ok84 _ _ _ _) ?_)
 refine sil_on rfl h2 (zO (fun _ => rfl) ?_)
 refine sil_pick (want := false) rfl rfl h2 rfl (sn (nq (zC rfl (fun h3 => ?_) (fun h3 => ?_))))
 exact zR (zo rfl (zw (Sat.ret (rb (rq (rs (rq (ze rfl (by first | exact vb (allN_false hi (by simp_all [axOk, ax3])).symm | exact vb (allN_iff.2 hI).symm)))))))))
 exact Sat.skip (nb (nq (zr (zo rfl (za rfl (zo rfl (wn (ns (all_step hI (by simp_all [axOk, ax3])) (zv rfl rfl rfl rfl)))))))))
 refine sil_offF rfl rfl h2 (sil_offF rfl rfl h2 (sil_offF rfl rfl h2 (sil_offF rfl rfl h2 (sil_offF rfl rfl h2 (sil_offF rfl rfl h2 (sil_offF rfl rfl h2 (sil_offF rfl rfl h2 (sil_pick (want := true) rfl rfl h2 rfl (sn ?_)))))))))
 refine nq (zy rfl rfl (zR (zo rfl (zw (Sat.ret (rb (rq (rs (rq ?_)))))))))
 exact ze rfl (by first | exact vb (allN_false hi (by simp_all [axOk, ax3])).symm | exact vb (allN_iff.2 hI).symm)
 refine sil_offF rfl rfl h1 (sil_offF rfl rfl h1 (sil_offF rfl rfl h1 (sil_offF rfl rfl h1 (sil_offF rfl rfl h1 (sil_pick (want := true) rfl rfl h1 rfl (zO (fun _ => rfl) (sil_offF rfl rfl rfl (sil_offF rfl rfl rfl (sil_offF rfl rfl rfl ?_)))))))))
 refine sil_offF rfl rfl rfl (sil_offF rfl rfl rfl (sil_offF rfl rfl rfl (sil_offF rfl rfl rfl (sil_offF rfl rfl rfl (sil_offF rfl rfl rfl (sil_pick (want := true) rfl rfl rfl rfl (sn (nq (zy rfl rfl ?_)))))))))
 exact zR (zo rfl (zw (Sat.ret (rb (rq (rs (rq (ze rfl (by first | exact vb (allN_false hi (by simp_all [axOk, ax3])).symm | exact vb (allN_iff.2 hI).symm)))))))))
 refine zq (zR (zo rfl (zo rfl (zw (zn rfl (by simp) (Sat.exit (xq (xe (nq ?_)))))))))
 exact zR (zo rfl (zw (Sat.ret (ze rfl (by first | exact vb (allN_false hi (by simp_all [axOk, ax3])).symm | exact vb (allN_iff.2 hI).symm)))))
def stepOk (l : List Stp) (i : Nat) : Bool := isLen (gt l i).fr && (decide ((gt l i).va ≥ 0) && decide ((gt l i).va ≤ 1099511627776)) && !(decide ((i : Int) > 0) && decide ((gt l i).fr ≤ (gt l ((i : Int) - 1)).fr))
def stepsOk (l : List Stp) : Bool := !decide ((l.length : Int) > 200) && allN l.length (stepOk l)
theorem ok38 (l : List Stp) : Ok Tryz.prog 38 [.sl (l.map Stp.c)] (.bool (stepsOk l)) := by
 unfold stepsOk
 refine zz 47 Tryz.func38 rfl Tryz.call38 rfl (zR (zo rfl (zw (zq (zR (zo rfl (zo rfl (zo rfl (zw (zC rfl (fun h1 => ?_) (fun h1 => ?_)))))))))))
 exact zR (zo rfl (zw (Sat.ret (rq (ze rfl (by first | (simp_all; done) | exact vb (and_allN_false hi (by first | omega | (simp_all [stepOk]; done) | (simp_all [stepOk]; omega))).symm | exact vb (and_allN_true (by simp_all) hI).symm))))))
 refine zk (zq (zR (zo rfl (zw (Sat.loop' (fun z => ∀ j : Nat, j < z → stepOk l j = true) (fun i => ⟨47, lk [(0, .v (.sl (l.map Stp.c))), (3, .v (vi i))], lk []⟩) (l.length) ?_ (all_zero) (fun i hi hI => ?_) (fun hI => ?_))))))
 exact zv rfl rfl rfl rfl
 have hl : l.length ≤ 200 := by simp at h1; omega
 refine zq (zR (zo rfl (zo rfl (zo rfl (zo rfl (zw (zy rfl (by simp [hi]) (zk (zq (zb rfl ?_))))))))))
 refine zq (Sat.dr tabOk mixed (by kernel_rfl) (zO (fun _ => rfl) (zO (fun _ => rfl) (sil_index rfl rfl rfl rfl (by first | omega | (simp_all []; done) | (simp_all []; omega)) (gt_idx (by first | omega | (simp_all []; done) | (simp_all []; omega)) (by omega)) rfl (zO (fun _ => rfl) (zO (fun _ => rfl) (sil_call rfl rfl (fun _ => rfl) (fun _ => rfl) (ok85 _) (zO (fun _ => rfl) (zO (fun _ => rfl) ?_)))))))))
 refine sil_splitF rfl rfl (fun h2 => ?_) (fun h2 => ?_)
 refine zO (fun _ => rfl) (sil_on rfl h2 (zO (fun _ => rfl) ?_))
 refine sil_on rfl h2 (sil_index rfl rfl rfl rfl (by first | omega | (simp_all []; done) | (simp_all []; omega)) (gt_idx (by first | omega | (simp_all []; done) | (simp_all []; omega)) (by omega)) rfl ?_)
 refine sil_on rfl h2 (zO (fun _ => rfl) ?_)
 refine sil_on rfl h2 (zO (fun _ => rfl) ?_)
 refine sil_on rfl h2 (sil_call rfl rfl (fun _ => rfl) (fun _ => rfl) (ok86 _ _ _) ?_)
 refine sil_on rfl h2 (zO (fun _ => rfl) ?_)
 refine sil_pick (want := false) rfl rfl h2 rfl (zO (fun _ => rfl) (sil_splitF rfl rfl (fun h3 => ?_) (fun h3 => ?_)))
 refine zO (fun _ => rfl) (sil_on rfl h3 (zO (fun _ => rfl) ?_))
 refine sil_on rfl h3 (zO (fun _ => rfl) ?_)
 refine sil_splitT rfl rfl (fun h4 => ?_) (fun h4 => ?_)
 refine zO (fun _ => rfl) (sil_on rfl h4 (zO (fun _ => rfl) ?_))
 refine sil_on rfl h4 (sil_index rfl rfl rfl rfl (by first | omega | (simp_all []; done) | (simp_all []; omega)) (gt_idx (by first | omega | (simp_all []; done) | (simp_all []; omega)) (by omega)) rfl ?_)
 refine sil_on rfl h4 (zO (fun _ => rfl) ?_)
 refine sil_on rfl h4 (zO (fun _ => rfl) ?_)
 refine sil_on rfl h4 (zO (fun _ => rfl) ?_)
 refine sil_on rfl h4 (zO (fun _ => rfl) ?_)
 refine sil_on rfl h4 (sil_sub rfl rfl rfl (by first | (constructor <;> omega) | (simp only [decide_eq_true_eq, decide_eq_false_iff_not, Bool.not_eq_true', Bool.not_eq_false', beq_eq_false_iff_ne, beq_iff_eq, ne_eq] at *; constructor <;> omega)) ?_)
 refine sil_on rfl h4 (sil_index rfl rfl rfl rfl (by first | omega | (simp_all []; done) | (simp_all []; omega)) (gt_idx (by first | omega | (simp_all []; done) | (simp_all []; omega)) (by omega)) rfl ?_)
 refine sil_on rfl h4 (zO (fun _ => rfl) ?_)
 refine sil_on rfl h4 (zO (fun _ => rfl) ?_)
 refine sil_on rfl h4 (zO (fun _ => rfl) ?_)
 refine sil_on rfl h3 (sil_pick (want := true) rfl rfl h4 rfl ?_)
 refine sil_pick (want := false) rfl rfl h3 rfl (sn (nq (zC rfl (fun h5 => ?_) (fun h5 => ?_))))
 exact zR (zo rfl (zw (Sat.ret (rb (rq (rs (rq (ze rfl (by first | (simp_all; done) | exact vb (and_allN_false hi (by first | omega | (simp_all [stepOk]; done) | (simp_all [stepOk]; omega))).symm | exact vb (and_allN_true (by simp_all) hI).symm)))))))))
 exact Sat.skip (nb (nq (zr (zo rfl (za rfl (zo rfl (wn (ns (all_step hI (by first | omega | (simp_all [stepOk]; done) | (simp_all [stepOk]; omega))) (zv rfl rfl rfl rfl)))))))))
 refine sil_offT rfl rfl h4 (sil_offT rfl rfl h4 (sil_offT rfl rfl h4 (sil_offT rfl rfl h4 (sil_offT rfl rfl h4 (sil_offT rfl rfl h4 (sil_offT rfl rfl h4 (sil_offT rfl rfl h4 (sil_offT rfl rfl h4 (sil_offT rfl rfl h4 ?_)))))))))
 refine sil_offT rfl rfl h4 (sil_on rfl h3 (sil_pick (want := false) rfl rfl h4 rfl ?_))
 refine sil_pick (want := false) rfl rfl h3 rfl (sn (nq (zn rfl rfl (Sat.skip (nb (nq (zr (zo rfl (za rfl ?_)))))))))
 exact zo rfl (wn (ns (all_step hI (by first | omega | (simp_all [stepOk]; done) | (simp_all [stepOk]; omega))) (zv rfl rfl rfl rfl)))
 refine sil_offF rfl rfl h3 (sil_offF rfl rfl h3 (sil_offu rfl rfl (sil_offu rfl rfl (sil_offu rfl rfl (sil_offu rfl rfl (sil_offu rfl rfl (sil_offu rfl rfl (sil_offu rfl rfl (sil_offu rfl rfl ?_)))))))))
 refine sil_offu rfl rfl (sil_offu rfl rfl (sil_offu rfl rfl (sil_offu rfl rfl (sil_offF rfl rfl h3 (sil_pick (want := true) rfl rfl h3 rfl (sn (nq (zy rfl rfl (zR (zo rfl ?_))))))))))
 exact zw (Sat.ret (rb (rq (rs (rq (ze rfl (by first | (simp_all; done) | exact vb (and_allN_false hi (by first | omega | (simp_all [stepOk]; done) | (simp_all [stepOk]; omega))).symm | exact vb (and_allN_true (by simp_all) hI).symm)))))))
 refine sil_offF rfl rfl h2 (sil_offF rfl rfl h2 (sil_offF rfl rfl h2 (sil_offF rfl rfl h2 (sil_offF rfl rfl h2 (sil_offF rfl rfl h2 (sil_pick (want := true) rfl rfl h2 rfl (zO (fun _ => rfl) (sil_offF rfl rfl rfl (sil_offF rfl rfl rfl ?_)))))))))
 refine sil_offF rfl rfl rfl (sil_offu rfl rfl (sil_offu rfl rfl (sil_offu rfl rfl (sil_offu rfl rfl (sil_offu rfl rfl (sil_offu rfl rfl (sil_offu rfl rfl (sil_offu rfl rfl (sil_offu rfl rfl ?_)))))))))
 refine sil_offu rfl rfl (sil_offu rfl rfl (sil_offu rfl rfl (sil_offF rfl rfl rfl (sil_pick (want := true) rfl rfl rfl rfl (sn (nq (zy rfl rfl (zR (zo rfl ?_)))))))))
 exact zw (Sat.ret (rb (rq (rs (rq (ze rfl (by first | (simp_all; done) | exact vb (and_allN_false hi (by first | omega | (simp_all [stepOk]; done) | (simp_all [stepOk]; omega))).symm | exact vb (and_allN_true (by simp_all) hI).symm)))))))
 refine zq (zR (zo rfl (zo rfl (zo rfl (zo rfl (zw (zn rfl (by simp) (Sat.exit (xq ?_)))))))))
 exact xe (nq (zR (zo rfl (zw (Sat.ret (ze rfl (by first | (simp_all; done) | exact vb (and_allN_false hi (by first | omega | (simp_all [stepOk]; done) | (simp_all [stepOk]; omega))).symm | exact vb (and_allN_true (by simp_all) hI).symm)))))))
def dimOk (b : Bar) (i : Nat) : Bool := !decide (gt b.dims i < 1) && !decide (gt b.dims i > 1048576)
def barOk (b : Bar) : Bool := nameOk b.mark && isSize b.size && !decide (b.count < 1) && !decide (b.count > 1000) && !(dimsOf b.code == 0) && !((b.dims.length : Int) != dimsOf b.code) && (allN b.dims.length (dimOk b) && decide (sumI b.dims.length (fun i => gt b.dims i) ≤ 262144))
theorem dims_sum {b : Bar} {i : Nat} (h : ∀ j : Nat, j < i → dimOk b j = true) : 0 ≤ sumI i (fun i => gt b.dims i) ∧ sumI i (fun i => gt b.dims i) ≤ 1048576 * i :=
  sumI_le fun j hj => by have := h j hj; simp only [dimOk, Bool.and_eq_true, Bool.not_eq_true', decide_eq_false_iff_not] at this; omega
theorem ok76 (b : Bar) : Ok Tryz.prog 76 [.ag b.c] (.bool (barOk b)) := by
 unfold barOk
 have hd := dimsOf_le b.code
 refine zz 70 Tryz.func76 rfl Tryz.call76 rfl (zR (zo rfl (zo rfl (zw (zq (zq (Sat.dr tabOk mixed (by kernel_rfl) (zO (fun _ => rfl) (zO (fun _ => rfl) ?_)))))))))
 refine sil_call rfl rfl (fun _ => rfl) (fun _ => rfl) (ok31 _) (zO (fun _ => rfl) (zO (fun _ => rfl) (sil_splitF rfl rfl (fun h1 => ?_) (fun h1 => ?_))))
 refine zO (fun _ => rfl) (sil_on rfl h1 (zO (fun _ => rfl) ?_))
 refine sil_on rfl h1 (sil_call rfl rfl (fun _ => rfl) (fun _ => rfl) (ok129 _) ?_)
 refine sil_on rfl h1 (zO (fun _ => rfl) ?_)
 refine sil_pick (want := false) rfl rfl h1 rfl (zO (fun _ => rfl) (sil_splitF rfl rfl (fun h2 => ?_) (fun h2 => ?_)))
 refine zO (fun _ => rfl) (sil_on rfl h2 (zO (fun _ => rfl) ?_))
 refine sil_on rfl h2 (zO (fun _ => rfl) ?_)
 refine sil_pick (want := false) rfl rfl h2 rfl (zO (fun _ => rfl) (sil_splitF rfl rfl (fun h3 => ?_) (fun h3 => ?_)))
 refine zO (fun _ => rfl) (sil_on rfl h3 (zO (fun _ => rfl) ?_))
 refine sil_on rfl h3 (zO (fun _ => rfl) ?_)
 refine sil_pick (want := false) rfl rfl h3 rfl (zO (fun _ => rfl) (sil_splitF rfl rfl (fun h4 => ?_) (fun h4 => ?_)))
 refine zO (fun _ => rfl) (sil_on rfl h4 (zO (fun _ => rfl) ?_))
 refine sil_on rfl h4 (sil_call rfl rfl (fun _ => rfl) (fun _ => rfl) (ok130 _) ?_)
 refine sil_on rfl h4 (zO (fun _ => rfl) ?_)
 refine sil_pick (want := false) rfl rfl h4 rfl (zO (fun _ => rfl) (sil_splitF rfl rfl (fun h5 => ?_) (fun h5 => ?_)))
 refine zO (fun _ => rfl) (sil_on rfl h5 (zO (fun _ => rfl) ?_))
 refine sil_on rfl h5 (zO (fun _ => rfl) ?_)
 refine sil_on rfl h5 (zO (fun _ => rfl) ?_)
 refine sil_on rfl h5 (zO (fun _ => rfl) ?_)
 refine sil_on rfl h5 (sil_call rfl rfl (fun _ => rfl) (fun _ => rfl) (ok130 _) ?_)
 refine sil_on rfl h5 (zO (fun _ => rfl) ?_)
 refine sil_pick (want := false) rfl rfl h5 rfl (sn (nq (zC rfl (fun h6 => ?_) (fun h6 => ?_))))
 exact zR (zo rfl (zw (Sat.ret (rq (ze rfl (by first | (simp_all; done) | exact vb (by rw [allN_false hi (by first | omega | (simp_all [dimOk]; done) | (simp_all [dimOk]; omega))]; simp) | exact vb (by rw [allN_iff.2 hI]; simp_all)))))))
 refine zk (zR (zo rfl (zw (zq (zR (zo rfl (zw (Sat.loop' (fun z => ∀ j : Nat, j < z → dimOk b j = true) (fun i => ⟨70, lk [(1, .ptr 1 0), (3, .v (vi (sumI i fun i => gt b.dims i))), (4, .v (vi i))], lk [(1, ⟨.cells (b.c.map .v), false⟩)]⟩) (b.dims.length) ?_ (all_zero) (fun i hi hI => ?_) (fun hI => ?_)))))))))
 exact zv rfl rfl rfl rfl
 have hl : b.dims.length ≤ 5 := by simp at h6; omega
 have hs := dims_sum hI
 refine zq (zR (zo rfl (zo rfl (zo rfl (zo rfl (zo rfl (zw (zy rfl (by simp [hi]) (zk (zq (zb rfl ?_)))))))))))
 refine zq (zR (zo rfl (zo rfl (zo rfl (zi rfl rfl rfl rfl rfl (zo rfl (zo rfl (zo rfl (zF rfl (fun h7 => ?_) (fun h7 => ?_))))))))))
 refine zO (fun _ => rfl) (zh rfl h7 rfl (zh rfl h7 rfl (step_sil (sil_on rfl h7 (sil_index rfl rfl rfl rfl (by omega) (gt_idx (by omega) (by omega)) rfl ?_)))))
 refine zh rfl h7 rfl (zh rfl h7 rfl (zP rfl h7 rfl (zw (zC rfl (fun h8 => ?_) (fun h8 => ?_)))))
 exact zR (zo rfl (zw (Sat.ret (rq (rb (rq (rs (rq (ze rfl (by first | (simp_all; done) | exact vb (by rw [allN_false hi (by first | omega | (simp_all [dimOk]; done) | (simp_all [dimOk]; omega))]; simp) | exact vb (by rw [allN_iff.2 hI]; simp_all)))))))))))
 refine zk (zr (zo rfl (zo rfl (zo rfl (zo rfl (zi rfl rfl rfl rfl rfl (zo rfl (za rfl (zo rfl ?_)))))))))
 exact wn (nb (nq (zr (zo rfl (za rfl (zo rfl (wn (ns (all_step hI (by first | omega | (simp_all [dimOk]; done) | (simp_all [dimOk]; omega))) (zv rfl rfl rfl rfl)))))))))
 refine zf rfl h7 (zf rfl h7 (zf rfl h7 (zf rfl h7 (zf rfl h7 (zp rfl h7 rfl (zw (zy rfl rfl (zR (zo rfl ?_)))))))))
 exact zw (Sat.ret (rq (rb (rq (rs (rq (ze rfl (by first | (simp_all; done) | exact vb (by rw [allN_false hi (by first | omega | (simp_all [dimOk]; done) | (simp_all [dimOk]; omega))]; simp) | exact vb (by rw [allN_iff.2 hI]; simp_all)))))))))
 refine zq (zR (zo rfl (zo rfl (zo rfl (zo rfl (zo rfl (zw (zn rfl (by simp) (Sat.exit ?_)))))))))
 exact xq (xe (nq (zR (zo rfl (zo rfl (zo rfl (zw (Sat.ret (ze rfl (by first | (simp_all; done) | exact vb (by rw [allN_false hi (by first | omega | (simp_all [dimOk]; done) | (simp_all [dimOk]; omega))]; simp) | exact vb (by rw [allN_iff.2 hI]; simp_all)))))))))))
 refine sil_offF rfl rfl h5 (sil_offF rfl rfl h5 (sil_offF rfl rfl h5 (sil_offF rfl rfl h5 (sil_offF rfl rfl h5 (sil_offF rfl rfl h5 (sil_pick (want := true) rfl rfl h5 rfl (sn (nq (zy rfl rfl ?_)))))))))
 exact zR (zo rfl (zw (Sat.ret (rq (ze rfl (by first | (simp_all; done) | exact vb (by rw [allN_false hi (by first | omega | (simp_all [dimOk]; done) | (simp_all [dimOk]; omega))]; simp) | exact vb (by rw [allN_iff.2 hI]; simp_all)))))))
 refine sil_offF rfl rfl h4 (sil_offF rfl rfl h4 (sil_offF rfl rfl h4 (sil_pick (want := true) rfl rfl h4 rfl (zO (fun _ => rfl) (sil_offF rfl rfl rfl (sil_offF rfl rfl rfl (sil_offF rfl rfl rfl (sil_offF rfl rfl rfl (sil_offF rfl rfl rfl ?_)))))))))
 refine sil_offF rfl rfl rfl (sil_offF rfl rfl rfl (sil_pick (want := true) rfl rfl rfl rfl (sn (nq (zy rfl rfl (zR (zo rfl (zw (Sat.ret ?_)))))))))
 exact rq (ze rfl (by first | (simp_all; done) | exact vb (by rw [allN_false hi (by first | omega | (simp_all [dimOk]; done) | (simp_all [dimOk]; omega))]; simp) | exact vb (by rw [allN_iff.2 hI]; simp_all)))
 refine sil_offF rfl rfl h3 (sil_offF rfl rfl h3 (sil_pick (want := true) rfl rfl h3 rfl (zO (fun _ => rfl) (sil_offF rfl rfl rfl (sil_offF rfl rfl rfl (sil_offF rfl rfl rfl (sil_offF rfl rfl rfl (sil_pick (want := true) rfl rfl rfl rfl (zO (fun _ => rfl) ?_)))))))))
 refine sil_offF rfl rfl rfl (sil_offF rfl rfl rfl (sil_offF rfl rfl rfl (sil_offF rfl rfl rfl (sil_offF rfl rfl rfl (sil_offF rfl rfl rfl (sil_offF rfl rfl rfl (sil_pick (want := true) rfl rfl rfl rfl (sn (nq ?_)))))))))
 exact zy rfl rfl (zR (zo rfl (zw (Sat.ret (rq (ze rfl (by first | (simp_all; done) | exact vb (by rw [allN_false hi (by first | omega | (simp_all [dimOk]; done) | (simp_all [dimOk]; omega))]; simp) | exact vb (by rw [allN_iff.2 hI]; simp_all))))))))
 refine sil_offF rfl rfl h2 (sil_offF rfl rfl h2 (sil_pick (want := true) rfl rfl h2 rfl (zO (fun _ => rfl) (sil_offF rfl rfl rfl (sil_offF rfl rfl rfl (sil_offF rfl rfl rfl (sil_pick (want := true) rfl rfl rfl rfl (zO (fun _ => rfl) (sil_offF rfl rfl rfl ?_)))))))))
 refine sil_offF rfl rfl rfl (sil_offF rfl rfl rfl (sil_offF rfl rfl rfl (sil_pick (want := true) rfl rfl rfl rfl (zO (fun _ => rfl) (sil_offF rfl rfl rfl (sil_offF rfl rfl rfl (sil_offF rfl rfl rfl (sil_offF rfl rfl rfl (sil_offF rfl rfl rfl ?_)))))))))
 refine sil_offF rfl rfl rfl (sil_offF rfl rfl rfl (sil_pick (want := true) rfl rfl rfl rfl (sn (nq (zy rfl rfl (zR (zo rfl (zw (Sat.ret ?_)))))))))
 exact rq (ze rfl (by first | (simp_all; done) | exact vb (by rw [allN_false hi (by first | omega | (simp_all [dimOk]; done) | (simp_all [dimOk]; omega))]; simp) | exact vb (by rw [allN_iff.2 hI]; simp_all)))
 refine sil_offF rfl rfl h1 (sil_offF rfl rfl h1 (sil_offF rfl rfl h1 (sil_pick (want := true) rfl rfl h1 rfl (zO (fun _ => rfl) (sil_offF rfl rfl rfl (sil_offF rfl rfl rfl (sil_offF rfl rfl rfl (sil_pick (want := true) rfl rfl rfl rfl (zO (fun _ => rfl) ?_)))))))))
 refine sil_offF rfl rfl rfl (sil_offF rfl rfl rfl (sil_offF rfl rfl rfl (sil_pick (want := true) rfl rfl rfl rfl (zO (fun _ => rfl) (sil_offF rfl rfl rfl (sil_offF rfl rfl rfl (sil_offF rfl rfl rfl (sil_offF rfl rfl rfl (sil_pick (want := true) rfl rfl rfl rfl ?_)))))))))
 refine zO (fun _ => rfl) (sil_offF rfl rfl rfl (sil_offF rfl rfl rfl (sil_offF rfl rfl rfl (sil_offF rfl rfl rfl (sil_offF rfl rfl rfl (sil_offF rfl rfl rfl (sil_offF rfl rfl rfl (sil_pick (want := true) rfl rfl rfl rfl (sn ?_)))))))))
 exact nq (zy rfl rfl (zR (zo rfl (zw (Sat.ret (rq (ze rfl (by first | (simp_all; done) | exact vb (by rw [allN_false hi (by first | omega | (simp_all [dimOk]; done) | (simp_all [dimOk]; omega))]; simp) | exact vb (by rw [allN_iff.2 hI]; simp_all)))))))))
def markIx (l : List Bar) (m : ByteArray) : Int := findN l.length fun i => beqB (gt l i).mark m
theorem ok77 (l : List Bar) (m : ByteArray) (hl : l.length ≤ 100000) : Ok Tryz.prog 77 [.sl (l.map Bar.c), .str m] (vi (markIx l m)) := by
 refine zz 20 Tryz.func77 rfl Tryz.call77 rfl (zR (zo rfl (zw (zq (zR (zo rfl (zw (Sat.loop' (fun z => ∀ j : Nat, j < z → beqB (gt l j).mark m = false) (fun i => ⟨20, lk [(0, .v (.sl (l.map Bar.c))), (1, .v (.str m)), (5, .v (vi i))], lk []⟩) (l.length) ?_ (all_zero) (fun i hi hI => ?_) (fun hI => ?_)))))))))
 exact zv rfl rfl rfl rfl
 refine zq (zR (zo rfl (zo rfl (zo rfl (zo rfl (zw (zy rfl (by simp [hi]) (zk (zq (zb rfl ?_))))))))))
 refine zR (zo rfl (zo rfl (zi rfl rfl rfl rfl rfl (zo rfl (zo rfl (zo rfl (zo rfl (zw (zC rfl (fun h1 => ?_) (fun h1 => ?_))))))))))
 exact zR (zo rfl (zo rfl (zw (Sat.ret (rb (rq (rs (rq (ze rfl (by first | exact vint (findN_eq hi (by assumption) hI).symm | exact vint (findN_none hI).symm))))))))))
 exact Sat.skip (nb (nq (zr (zo rfl (za rfl (zo rfl (wn (ns (all_step hI (by assumption)) (zv rfl rfl rfl rfl)))))))))
 refine zq (zR (zo rfl (zo rfl (zo rfl (zo rfl (zw (zn rfl (by simp) (Sat.exit (xq ?_)))))))))
 exact xe (nq (zR (zo rfl (zw (Sat.ret (ze rfl (by first | exact vint (findN_eq hi (by assumption) hI).symm | exact vint (findN_none hI).symm)))))))
def barsOk (l : List Bar) : Bool := !decide ((l.length : Int) > 60) && allN l.length fun i => barOk (gt l i) && (markIx l (gt l i).mark == i)
theorem ok33 (l : List Bar) : Ok Tryz.prog 33 [.sl (l.map Bar.c)] (.bool (barsOk l)) := by
 unfold barsOk
 refine zz 30 Tryz.func33 rfl Tryz.call33 rfl (zR (zo rfl (zw (zq (zR (zo rfl (zo rfl (zo rfl (zw (zC rfl (fun h1 => ?_) (fun h1 => ?_)))))))))))
 exact zR (zo rfl (zw (Sat.ret (rq (ze rfl (by first | (simp_all; done) | exact vb (and_allN_false hi (by first | omega | (simp_all []; done) | (simp_all []; omega))).symm | exact vb (and_allN_true (by simp_all) hI).symm))))))
 refine zk (zq (zR (zo rfl (zw (Sat.loop' (fun z => ∀ j : Nat, j < z → (barOk (gt l j) && (markIx l (gt l j).mark == j)) = true) (fun i => ⟨30, lk [(0, .v (.sl (l.map Bar.c))), (3, .v (vi i))], lk []⟩) (l.length) ?_ (all_zero) (fun i hi hI => ?_) (fun hI => ?_))))))
 exact zv rfl rfl rfl rfl
 have hl : l.length ≤ 60 := by simp at h1; omega
 refine zq (zR (zo rfl (zo rfl (zo rfl (zo rfl (zw (zy rfl (by simp [hi]) (zk (zq (zb rfl ?_))))))))))
 refine zR (zo rfl (zo rfl (zi rfl rfl rfl rfl rfl (zo rfl (zc rfl (ok76 _) (zo rfl (zo rfl (zF rfl (fun h2 => ?_) (fun h2 => ?_)))))))))
 refine zO (fun _ => rfl) (zh rfl h2 rfl (zh rfl h2 rfl (step_sil (sil_on rfl h2 (sil_index rfl rfl rfl rfl (by omega) (gt_idx (by omega) (by omega)) rfl ?_)))))
 refine zh rfl h2 rfl (zh rfl h2 rfl (step_sil (sil_on rfl h2 (sil_call rfl rfl (fun _ => rfl) (fun _ => rfl) (ok77 _ _ (by omega)) ?_))))
 refine zh rfl h2 rfl (zh rfl h2 rfl (zP rfl h2 rfl (zw (zC rfl (fun h3 => ?_) (fun h3 => ?_)))))
 exact zR (zo rfl (zw (Sat.ret (rb (rq (rs (rq (ze rfl (by first | (simp_all; done) | exact vb (and_allN_false hi (by first | omega | (simp_all []; done) | (simp_all []; omega))).symm | exact vb (and_allN_true (by simp_all) hI).symm)))))))))
 exact Sat.skip (nb (nq (zr (zo rfl (za rfl (zo rfl (wn (ns (all_step hI (by first | omega | (simp_all []; done) | (simp_all []; omega))) (zv rfl rfl rfl rfl)))))))))
 refine zf rfl h2 (zf rfl h2 (zf rfl h2 (zf rfl h2 (zf rfl h2 (zf rfl h2 (zf rfl h2 (zf rfl h2 (zp rfl h2 rfl (zw (zy rfl rfl ?_))))))))))
 exact zR (zo rfl (zw (Sat.ret (rb (rq (rs (rq (ze rfl (by first | (simp_all; done) | exact vb (and_allN_false hi (by first | omega | (simp_all []; done) | (simp_all []; omega))).symm | exact vb (and_allN_true (by simp_all) hI).symm)))))))))
 refine zq (zR (zo rfl (zo rfl (zo rfl (zo rfl (zw (zn rfl (by simp) (Sat.exit (xq ?_)))))))))
 exact xe (nq (zR (zo rfl (zw (Sat.ret (ze rfl (by first | (simp_all; done) | exact vb (and_allN_false hi (by first | omega | (simp_all []; done) | (simp_all []; omega))).symm | exact vb (and_allN_true (by simp_all) hI).symm)))))))
def nearAll (l : List Pt) : Bool := allN l.length fun i => near3 (gt l i).x (gt l i).y (gt l i).z
theorem ok81 (l : List Pt) (hl : l.length ≤ 1000) : Ok Tryz.prog 81 [.sl (l.map Pt.c)] (.bool (nearAll l)) := by
 unfold nearAll
 refine zz 16 Tryz.func81 rfl Tryz.call81 rfl (zR (zo rfl (zw (zq (zR (zo rfl (zw (Sat.loop' (fun z => ∀ j : Nat, j < z → near3 (gt l j).x (gt l j).y (gt l j).z = true) (fun i => ⟨16, lk [(0, .v (.sl (l.map Pt.c))), (3, .v (vi i))], lk []⟩) (l.length) ?_ (all_zero) (fun i hi hI => ?_) (fun hI => ?_)))))))))
 exact zv rfl rfl rfl rfl
 refine zq (zR (zo rfl (zo rfl (zo rfl (zo rfl (zw (zy rfl (by simp [hi]) (zk (zq (zb rfl ?_))))))))))
 refine zR (zo rfl (zo rfl (zi rfl rfl rfl rfl rfl (zo rfl (zc rfl (ok79 _ _ _) (zo rfl (zw (zC rfl (fun h1 => ?_) (fun h1 => ?_)))))))))
 exact zR (zo rfl (zw (Sat.ret (rb (rq (rs (rq (ze rfl (by first | exact vb (allN_false hi (by first | omega | (simp_all []; done) | (simp_all []; omega))).symm | exact vb (allN_iff.2 hI).symm | (simp_all; done))))))))))
 exact Sat.skip (nb (nq (zr (zo rfl (za rfl (zo rfl (wn (ns (all_step hI (by first | omega | (simp_all []; done) | (simp_all []; omega))) (zv rfl rfl rfl rfl)))))))))
 refine zq (zR (zo rfl (zo rfl (zo rfl (zo rfl (zw (zn rfl (by simp) (Sat.exit (xq ?_)))))))))
 exact xe (nq (zR (zo rfl (zw (Sat.ret (ze rfl (by first | exact vb (allN_false hi (by first | omega | (simp_all []; done) | (simp_all []; omega))).symm | exact vb (allN_iff.2 hI).symm | (simp_all; done))))))))
def nameIx (l : List Dem) (m : ByteArray) : Int := findN l.length fun i => beqB (gt l i).name m
theorem ok36 (l : List Dem) (m : ByteArray) (hl : l.length ≤ 100000) : Ok Tryz.prog 36 [.sl (l.map Dem.c), .str m] (vi (nameIx l m)) := by
 refine zz 20 Tryz.func36 rfl Tryz.call36 rfl (zR (zo rfl (zw (zq (zR (zo rfl (zw (Sat.loop' (fun z => ∀ j : Nat, j < z → beqB (gt l j).name m = false) (fun i => ⟨20, lk [(0, .v (.sl (l.map Dem.c))), (1, .v (.str m)), (5, .v (vi i))], lk []⟩) (l.length) ?_ (all_zero) (fun i hi hI => ?_) (fun hI => ?_)))))))))
 exact zv rfl rfl rfl rfl
 refine zq (zR (zo rfl (zo rfl (zo rfl (zo rfl (zw (zy rfl (by simp [hi]) (zk (zq (zb rfl ?_))))))))))
 refine zR (zo rfl (zo rfl (zi rfl rfl rfl rfl rfl (zo rfl (zo rfl (zo rfl (zo rfl (zw (zC rfl (fun h1 => ?_) (fun h1 => ?_))))))))))
 exact zR (zo rfl (zo rfl (zw (Sat.ret (rb (rq (rs (rq (ze rfl (by first | exact vint (findN_eq hi (by assumption) hI).symm | exact vint (findN_none hI).symm))))))))))
 exact Sat.skip (nb (nq (zr (zo rfl (za rfl (zo rfl (wn (ns (all_step hI (by assumption)) (zv rfl rfl rfl rfl)))))))))
 refine zq (zR (zo rfl (zo rfl (zo rfl (zo rfl (zw (zn rfl (by simp) (Sat.exit (xq ?_)))))))))
 exact xe (nq (zR (zo rfl (zw (Sat.ret (ze rfl (by first | exact vint (findN_eq hi (by assumption) hI).symm | exact vint (findN_none hI).symm)))))))
def demOk (l : List Dem) (i : Nat) : Bool := nameOk (gt l i).name && (nameIx l (gt l i).name == i) && boxOk (gt l i).zone && stepsOk (gt l i).steps
def demsOk (l : List Dem) : Bool := !decide ((l.length : Int) > 20) && allN l.length (demOk l)
theorem ok15 (l : List Dem) : Ok Tryz.prog 15 [.sl (l.map Dem.c)] (.bool (demsOk l)) := by
 unfold demsOk
 refine zz 49 Tryz.func15 rfl Tryz.call15 rfl (zR (zo rfl (zw (zq (zR (zo rfl (zo rfl (zo rfl (zw (zC rfl (fun h1 => ?_) (fun h1 => ?_)))))))))))
 exact zR (zo rfl (zw (Sat.ret (rq (ze rfl (by first | (simp_all; done) | exact vb (and_allN_false hi (by first | omega | (simp_all [demOk]; done) | (simp_all [demOk]; omega))).symm | exact vb (and_allN_true (by simp_all) hI).symm))))))
 refine zk (zq (zR (zo rfl (zw (Sat.loop' (fun z => ∀ j : Nat, j < z → demOk l j = true) (fun i => ⟨49, lk [(0, .v (.sl (l.map Dem.c))), (3, .v (vi i))], lk []⟩) (l.length) ?_ (all_zero) (fun i hi hI => ?_) (fun hI => ?_))))))
 exact zv rfl rfl rfl rfl
 have hl : l.length ≤ 20 := by simp at h1; omega
 refine zq (zR (zo rfl (zo rfl (zo rfl (zo rfl (zw (zy rfl (by simp [hi]) (zk (zq (zb rfl ?_))))))))))
 refine zR (zo rfl (zo rfl (zi rfl rfl rfl rfl rfl (zo rfl (zo rfl (zc rfl (ok31 _) (zo rfl (zo rfl (zF rfl (fun h2 => ?_) (fun h2 => ?_))))))))))
 refine zO (fun _ => rfl) (zh rfl h2 rfl (zh rfl h2 rfl (step_sil (sil_on rfl h2 (sil_index rfl rfl rfl rfl (by omega) (gt_idx (by omega) (by omega)) rfl ?_)))))
 refine zh rfl h2 rfl (zh rfl h2 rfl (step_sil (sil_on rfl h2 (sil_call rfl rfl (fun _ => rfl) (fun _ => rfl) (ok36 _ _ (by omega)) ?_))))
 refine zh rfl h2 rfl (zh rfl h2 rfl (zP rfl h2 rfl (zo rfl (zF rfl (fun h3 => ?_) (fun h3 => ?_)))))
 refine zO (fun _ => rfl) (zh rfl h3 rfl (step_sil (sil_on rfl h3 (sil_index rfl rfl rfl rfl (by omega) (gt_idx (by omega) (by omega)) rfl ?_))))
 refine zh rfl h3 rfl (zh rfl h3 rfl (step_sil (sil_on rfl h3 (sil_call rfl rfl (fun _ => rfl) (fun _ => rfl) (ok37 _) ?_))))
 refine zh rfl h3 rfl (zP rfl h3 rfl (zo rfl (zF rfl (fun h4 => ?_) (fun h4 => ?_))))
 refine zO (fun _ => rfl) (zh rfl h4 rfl (step_sil (sil_on rfl h4 (sil_index rfl rfl rfl rfl (by omega) (gt_idx (by omega) (by omega)) rfl ?_))))
 refine zh rfl h4 rfl (zh rfl h4 rfl (step_sil (sil_on rfl h4 (sil_call rfl rfl (fun _ => rfl) (fun _ => rfl) (ok38 _) ?_))))
 refine zh rfl h4 rfl (zP rfl h4 rfl (zw (zC rfl (fun h5 => ?_) (fun h5 => ?_))))
 exact zR (zo rfl (zw (Sat.ret (rb (rq (rs (rq (ze rfl (by first | (simp_all; done) | exact vb (and_allN_false hi (by first | omega | (simp_all [demOk]; done) | (simp_all [demOk]; omega))).symm | exact vb (and_allN_true (by simp_all) hI).symm)))))))))
 exact Sat.skip (nb (nq (zr (zo rfl (za rfl (zo rfl (wn (ns (all_step hI (by first | omega | (simp_all [demOk]; done) | (simp_all [demOk]; omega))) (zv rfl rfl rfl rfl)))))))))
 refine zf rfl h4 (zf rfl h4 (zf rfl h4 (zf rfl h4 (zf rfl h4 (zf rfl h4 (zp rfl h4 rfl (zw (zy rfl rfl (zR (zo rfl ?_))))))))))
 exact zw (Sat.ret (rb (rq (rs (rq (ze rfl (by first | (simp_all; done) | exact vb (and_allN_false hi (by first | omega | (simp_all [demOk]; done) | (simp_all [demOk]; omega))).symm | exact vb (and_allN_true (by simp_all) hI).symm)))))))
 refine zf rfl h3 (zf rfl h3 (zf rfl h3 (zf rfl h3 (zf rfl h3 (zf rfl h3 (zp rfl h3 rfl (zo rfl (zf rfl rfl (zf rfl rfl ?_)))))))))
 refine zf rfl rfl (zf rfl rfl (zf rfl rfl (zf rfl rfl (zf rfl rfl (zp rfl rfl rfl (zw (zy rfl rfl (zR (zo rfl ?_)))))))))
 exact zw (Sat.ret (rb (rq (rs (rq (ze rfl (by first | (simp_all; done) | exact vb (and_allN_false hi (by first | omega | (simp_all [demOk]; done) | (simp_all [demOk]; omega))).symm | exact vb (and_allN_true (by simp_all) hI).symm)))))))
 refine zf rfl h2 (zf rfl h2 (zf rfl h2 (zf rfl h2 (zf rfl h2 (zf rfl h2 (zf rfl h2 (zf rfl h2 (zp rfl h2 rfl (zo rfl ?_)))))))))
 refine zf rfl rfl (zf rfl rfl (zf rfl rfl (zf rfl rfl (zf rfl rfl (zf rfl rfl (zf rfl rfl (zp rfl rfl rfl (zo rfl (zf rfl rfl ?_)))))))))
 refine zf rfl rfl (zf rfl rfl (zf rfl rfl (zf rfl rfl (zf rfl rfl (zf rfl rfl (zp rfl rfl rfl (zw (zy rfl rfl (zR (zo rfl ?_))))))))))
 exact zw (Sat.ret (rb (rq (rs (rq (ze rfl (by first | (simp_all; done) | exact vb (and_allN_false hi (by first | omega | (simp_all [demOk]; done) | (simp_all [demOk]; omega))).symm | exact vb (and_allN_true (by simp_all) hI).symm)))))))
 refine zq (zR (zo rfl (zo rfl (zo rfl (zo rfl (zw (zn rfl (by simp) (Sat.exit (xq ?_)))))))))
 exact xe (nq (zR (zo rfl (zw (Sat.ret (ze rfl (by first | (simp_all; done) | exact vb (and_allN_false hi (by first | omega | (simp_all [demOk]; done) | (simp_all [demOk]; omega))).symm | exact vb (and_allN_true (by simp_all) hI).symm)))))))
def thick (b : Bx) : Bool := boxOk b && decide (b.lx < b.hx) && decide (b.ly < b.hy) && decide (b.lz < b.hz)
theorem ok75 (b : Bx) : Ok Tryz.prog 75 [.ag [vi b.lx, vi b.ly, vi b.lz, vi b.hx, vi b.hy, vi b.hz]] (.bool (thick b)) := by
 unfold thick
 refine zz 32 Tryz.func75 rfl Tryz.call75 rfl (zR (zo rfl (zo rfl (zw (zR (zo rfl (zc rfl (ok37 _) (zo rfl (zT rfl (fun h1 => ?_) (fun h1 => ?_))))))))))
 refine zO (fun _ => rfl) (zh rfl h1 rfl (zh rfl h1 rfl (zh rfl h1 rfl (zh rfl h1 rfl (zh rfl h1 rfl (zh rfl h1 rfl (zp rfl h1 rfl (zo rfl (zT rfl (fun h2 => ?_) (fun h2 => ?_))))))))))
 refine zO (fun _ => rfl) (zh rfl h2 rfl (zh rfl h2 rfl (zh rfl h2 rfl (zh rfl h2 rfl (zh rfl h2 rfl (zh rfl h2 rfl (zp rfl h2 rfl (zo rfl (zT rfl (fun h3 => ?_) (fun h3 => ?_))))))))))
 refine zO (fun _ => rfl) (zh rfl h3 rfl (zh rfl h3 rfl (zh rfl h3 rfl (zh rfl h3 rfl (zh rfl h3 rfl (zh rfl h3 rfl (zp rfl h3 rfl (zo rfl (zw (Sat.ret ?_))))))))))
 exact zg rfl
 refine zt rfl h3 (zt rfl h3 (zt rfl h3 (zt rfl h3 (zt rfl h3 (zt rfl h3 (zP rfl h3 rfl (zo rfl (zw (Sat.ret ?_)))))))))
 exact zg rfl
 refine zt rfl h2 (zt rfl h2 (zt rfl h2 (zt rfl h2 (zt rfl h2 (zt rfl h2 (zP rfl h2 rfl (zo rfl (zt rfl rfl (zt rfl rfl ?_)))))))))
 exact zt rfl rfl (zt rfl rfl (zt rfl rfl (zt rfl rfl (zt rfl rfl (zP rfl rfl rfl (zo rfl (zw (Sat.ret (zg rfl)))))))))
 refine zt rfl h1 (zt rfl h1 (zt rfl h1 (zt rfl h1 (zt rfl h1 (zt rfl h1 (zP rfl h1 rfl (zo rfl (zt rfl rfl (zt rfl rfl ?_)))))))))
 refine zt rfl rfl (zt rfl rfl (zt rfl rfl (zt rfl rfl (zt rfl rfl (zP rfl rfl rfl (zo rfl (zt rfl rfl (zt rfl rfl (zt rfl rfl ?_)))))))))
 exact zt rfl rfl (zt rfl rfl (zt rfl rfl (zt rfl rfl (zP rfl rfl rfl (zo rfl (zw (Sat.ret (zg rfl))))))))
def solidOk (a h : List Bx) : Bool := !decide ((a.length : Int) < 1) && !decide ((a.length : Int) > 20) && !decide ((h.length : Int) > 20) && (allN a.length (fun i => thick (gt a i)) && allN h.length (fun i => thick (gt h i)))
theorem ok32 (a h : List Bx) : Ok Tryz.prog 32 [.ag [.sl (a.map Bx.c), .sl (h.map Bx.c)]] (.bool (solidOk a h)) := by
 unfold solidOk
 refine zz 49 Tryz.func32 rfl Tryz.call32 rfl (zR (zo rfl (zo rfl (zw (zq (zR (zo rfl (zo rfl (zo rfl ?_)))))))))
 refine zo rfl (zo rfl (zF rfl (fun h1 => ?_) (fun h1 => ?_)))
 refine zO (fun _ => rfl) (zh rfl h1 rfl (zh rfl h1 rfl (zh rfl h1 rfl (zP rfl h1 rfl (zo rfl (zF rfl (fun h2 => ?_) (fun h2 => ?_)))))))
 refine zO (fun _ => rfl) (zh rfl h2 rfl (zh rfl h2 rfl (zh rfl h2 rfl (zP rfl h2 rfl (zw (zC rfl (fun h3 => ?_) (fun h3 => ?_)))))))
 exact zR (zo rfl (zw (Sat.ret (rq (ze rfl (by first | (simp_all; done) | exact vb (by rw [allN_false hj (by first | omega | (simp_all []; done) | (simp_all []; omega))]; simp) | exact vb (by rw [allN_false hi (by first | omega | (simp_all []; done) | (simp_all []; omega))]; simp) | exact vb (by rw [allN_iff.2 hI, allN_iff.2 hJ]; simp_all)))))))
 refine zk (zq (zR (zo rfl (zw (Sat.loop' (fun z => ∀ j : Nat, j < z → thick (gt a j) = true) (fun i => ⟨49, lk [(1, .ptr 1 0), (3, .v (vi i))], lk [(1, ⟨.cells [.v (.sl (a.map Bx.c)), .v (.sl (h.map Bx.c))], false⟩)]⟩) (a.length) ?_ (all_zero) (fun i hi hI => ?_) (fun hI => ?_))))))
 exact zv rfl rfl rfl rfl
 have hl : a.length ≤ 20 := by simp at h2; omega
 refine zq (zR (zo rfl (zo rfl (zo rfl (zo rfl (zo rfl (zw (zy rfl (by simp [hi]) (zk (zq (zb rfl ?_)))))))))))
 refine zR (zo rfl (zo rfl (zo rfl (zi rfl rfl rfl rfl rfl (zo rfl (zc rfl (ok75 _) (zo rfl (zw (zC rfl (fun h4 => ?_) (fun h4 => ?_))))))))))
 exact zR (zo rfl (zw (Sat.ret (rb (rq (rs (rq (ze rfl (by first | (simp_all; done) | exact vb (by rw [allN_false hj (by first | omega | (simp_all []; done) | (simp_all []; omega))]; simp) | exact vb (by rw [allN_false hi (by first | omega | (simp_all []; done) | (simp_all []; omega))]; simp) | exact vb (by rw [allN_iff.2 hI, allN_iff.2 hJ]; simp_all))))))))))
 exact Sat.skip (nb (nq (zr (zo rfl (za rfl (zo rfl (wn (ns (all_step hI (by first | omega | (simp_all []; done) | (simp_all []; omega))) (zv rfl rfl rfl rfl)))))))))
 refine zq (zR (zo rfl (zo rfl (zo rfl (zo rfl (zo rfl (zw (zn rfl (by simp) (Sat.exit ?_)))))))))
 refine xq (xe (nq (zq (zR (zo rfl (zw (Sat.loop' (fun z => ∀ j : Nat, j < z → thick (gt h j) = true) (fun j => ⟨49, lk [(1, .ptr 1 0), (4, .v (vi j))], lk [(1, ⟨.cells [.v (.sl (a.map Bx.c)), .v (.sl (h.map Bx.c))], false⟩)]⟩) (h.length) ?_ (all_zero) (fun j hj hJ => ?_) (fun hJ => ?_))))))))
 exact zv rfl rfl rfl rfl
 have hl : h.length ≤ 20 := by simp at h3; omega
 refine zq (zR (zo rfl (zo rfl (zo rfl (zo rfl (zo rfl (zw (zy rfl (by simp [hj]) (zk (zq (zb rfl ?_)))))))))))
 refine zR (zo rfl (zo rfl (zo rfl (zi rfl rfl rfl rfl rfl (zo rfl (zc rfl (ok75 _) (zo rfl (zw (zC rfl (fun h5 => ?_) (fun h5 => ?_))))))))))
 exact zR (zo rfl (zw (Sat.ret (rb (rq (rs (rq (ze rfl (by first | (simp_all; done) | exact vb (by rw [allN_false hj (by first | omega | (simp_all []; done) | (simp_all []; omega))]; simp) | exact vb (by rw [allN_false hi (by first | omega | (simp_all []; done) | (simp_all []; omega))]; simp) | exact vb (by rw [allN_iff.2 hI, allN_iff.2 hJ]; simp_all))))))))))
 exact Sat.skip (nb (nq (zr (zo rfl (za rfl (zo rfl (wn (ns (all_step hJ (by first | omega | (simp_all []; done) | (simp_all []; omega))) (zv rfl rfl rfl rfl)))))))))
 refine zq (zR (zo rfl (zo rfl (zo rfl (zo rfl (zo rfl (zw (zn rfl (by simp) (Sat.exit ?_)))))))))
 exact xq (xe (nq (zR (zo rfl (zw (Sat.ret (ze rfl (by first | (simp_all; done) | exact vb (by rw [allN_false hj (by first | omega | (simp_all []; done) | (simp_all []; omega))]; simp) | exact vb (by rw [allN_false hi (by first | omega | (simp_all []; done) | (simp_all []; omega))]; simp) | exact vb (by rw [allN_iff.2 hI, allN_iff.2 hJ]; simp_all)))))))))
 refine zf rfl h2 (zf rfl h2 (zf rfl h2 (zp rfl h2 rfl (zw (zy rfl rfl (zR (zo rfl (zw (Sat.ret ?_)))))))))
 exact rq (ze rfl (by first | (simp_all; done) | exact vb (by rw [allN_false hj (by first | omega | (simp_all []; done) | (simp_all []; omega))]; simp) | exact vb (by rw [allN_false hi (by first | omega | (simp_all []; done) | (simp_all []; omega))]; simp) | exact vb (by rw [allN_iff.2 hI, allN_iff.2 hJ]; simp_all)))
 refine zf rfl h1 (zf rfl h1 (zf rfl h1 (zp rfl h1 rfl (zo rfl (zf rfl rfl (zf rfl rfl (zf rfl rfl (zf rfl rfl (zp rfl rfl rfl ?_)))))))))
 exact zw (zy rfl rfl (zR (zo rfl (zw (Sat.ret (rq (ze rfl (by first | (simp_all; done) | exact vb (by rw [allN_false hj (by first | omega | (simp_all []; done) | (simp_all []; omega))]; simp) | exact vb (by rw [allN_false hi (by first | omega | (simp_all []; done) | (simp_all []; omega))]; simp) | exact vb (by rw [allN_iff.2 hI, allN_iff.2 hJ]; simp_all)))))))))
def memOk (m : Mem) : Bool := nameOk m.name && solidOk m.boxes m.holes && decide (m.cover ≥ 0) && decide (m.cover ≤ 200) && decide (m.agg ≥ 1) && decide (m.agg ≤ 100) && decide (m.poker ≥ 1) && decide (m.poker ≤ 200)
theorem ok13 (m : Mem) : Ok Tryz.prog 13 [.ag m.c] (.bool (memOk m)) := by
 unfold memOk
 refine zz 41 Tryz.func13 rfl Tryz.call13 rfl (zR (zo rfl (zo rfl (zw (zR (zo rfl (zo rfl (zc rfl (ok31 _) (zo rfl ?_)))))))))
 refine zT rfl (fun h1 => ?_) (fun h1 => ?_)
 refine zO (fun _ => rfl) (zh rfl h1 rfl (step_sil (sil_on rfl h1 (sil_call rfl rfl (fun _ => rfl) (fun _ => rfl) (ok32 _ _) ?_))))
 refine zp rfl h1 rfl (zo rfl (zT rfl (fun h2 => ?_) (fun h2 => ?_)))
 refine zO (fun _ => rfl) (zh rfl h2 rfl (zh rfl h2 rfl (zp rfl h2 rfl (zo rfl (zT rfl (fun h3 => ?_) (fun h3 => ?_))))))
 refine zO (fun _ => rfl) (zh rfl h3 rfl (zh rfl h3 rfl (zp rfl h3 rfl (zo rfl (zT rfl (fun h4 => ?_) (fun h4 => ?_))))))
 refine zO (fun _ => rfl) (zh rfl h4 rfl (zh rfl h4 rfl (zp rfl h4 rfl (zo rfl (zT rfl (fun h5 => ?_) (fun h5 => ?_))))))
 refine zO (fun _ => rfl) (zh rfl h5 rfl (zh rfl h5 rfl (zp rfl h5 rfl (zo rfl (zT rfl (fun h6 => ?_) (fun h6 => ?_))))))
 refine zO (fun _ => rfl) (zh rfl h6 rfl (zh rfl h6 rfl (zp rfl h6 rfl (zo rfl (zT rfl (fun h7 => ?_) (fun h7 => ?_))))))
 exact zO (fun _ => rfl) (zh rfl h7 rfl (zh rfl h7 rfl (zp rfl h7 rfl (zo rfl (zw (Sat.ret (zg rfl)))))))
 exact zt rfl h7 (zt rfl h7 (zP rfl h7 rfl (zo rfl (zw (Sat.ret (zg rfl))))))
 refine zt rfl h6 (zt rfl h6 (zP rfl h6 rfl (zo rfl (zt rfl rfl (zt rfl rfl (zt rfl rfl (zP rfl rfl rfl (zo rfl (zw (Sat.ret ?_))))))))))
 exact zg rfl
 refine zt rfl h5 (zt rfl h5 (zP rfl h5 rfl (zo rfl (zt rfl rfl (zt rfl rfl (zt rfl rfl (zP rfl rfl rfl (zo rfl (zt rfl rfl ?_)))))))))
 exact zt rfl rfl (zt rfl rfl (zP rfl rfl rfl (zo rfl (zw (Sat.ret (zg rfl))))))
 refine zt rfl h4 (zt rfl h4 (zP rfl h4 rfl (zo rfl (zt rfl rfl (zt rfl rfl (zt rfl rfl (zP rfl rfl rfl (zo rfl (zt rfl rfl ?_)))))))))
 refine zt rfl rfl (zt rfl rfl (zP rfl rfl rfl (zo rfl (zt rfl rfl (zt rfl rfl (zt rfl rfl (zP rfl rfl rfl (zo rfl (zw (Sat.ret ?_))))))))))
 exact zg rfl
 refine zt rfl h3 (zt rfl h3 (zP rfl h3 rfl (zo rfl (zt rfl rfl (zt rfl rfl (zt rfl rfl (zP rfl rfl rfl (zo rfl (zt rfl rfl ?_)))))))))
 refine zt rfl rfl (zt rfl rfl (zP rfl rfl rfl (zo rfl (zt rfl rfl (zt rfl rfl (zt rfl rfl (zP rfl rfl rfl (zo rfl (zt rfl rfl ?_)))))))))
 exact zt rfl rfl (zt rfl rfl (zP rfl rfl rfl (zo rfl (zw (Sat.ret (zg rfl))))))
 refine zt rfl h2 (zt rfl h2 (zP rfl h2 rfl (zo rfl (zt rfl rfl (zt rfl rfl (zt rfl rfl (zP rfl rfl rfl (zo rfl (zt rfl rfl ?_)))))))))
 refine zt rfl rfl (zt rfl rfl (zP rfl rfl rfl (zo rfl (zt rfl rfl (zt rfl rfl (zt rfl rfl (zP rfl rfl rfl (zo rfl (zt rfl rfl ?_)))))))))
 refine zt rfl rfl (zt rfl rfl (zP rfl rfl rfl (zo rfl (zt rfl rfl (zt rfl rfl (zt rfl rfl (zP rfl rfl rfl (zo rfl (zw (Sat.ret ?_))))))))))
 exact zg rfl
 refine zt rfl h1 (zt rfl h1 (zP rfl h1 rfl (zo rfl (zt rfl rfl (zt rfl rfl (zt rfl rfl (zP rfl rfl rfl (zo rfl (zt rfl rfl ?_)))))))))
 refine zt rfl rfl (zt rfl rfl (zP rfl rfl rfl (zo rfl (zt rfl rfl (zt rfl rfl (zt rfl rfl (zP rfl rfl rfl (zo rfl (zt rfl rfl ?_)))))))))
 refine zt rfl rfl (zt rfl rfl (zP rfl rfl rfl (zo rfl (zt rfl rfl (zt rfl rfl (zt rfl rfl (zP rfl rfl rfl (zo rfl (zt rfl rfl ?_)))))))))
 exact zt rfl rfl (zt rfl rfl (zP rfl rfl rfl (zo rfl (zw (Sat.ret (zg rfl))))))
def ruleOk (r : Rul) : Bool := num1000 r.num && num1000 r.den && num1000 r.pn && num1000 r.pd && num1000 r.bn && num1000 r.bd && num1000 r.ln && num1000 r.ld && decide (r.pn ≥ r.pd) && decide (r.ln ≥ r.ld) && decide (r.bn ≤ r.bd) && decide (r.least ≥ 0) && decide (r.least ≤ 1000)
theorem ok16 (r : Rul) : Ok Tryz.prog 16 [.ag r.c] (.bool (ruleOk r)) := by
 unfold ruleOk
 refine zz 72 Tryz.func16 rfl Tryz.call16 rfl (zR (zo rfl (zo rfl (zw (zR (zo rfl (zo rfl (zc rfl (ok39 _) (zo rfl ?_)))))))))
 refine zT rfl (fun h1 => ?_) (fun h1 => ?_)
 refine zO (fun _ => rfl) (zh rfl h1 rfl (step_sil (sil_on rfl h1 (sil_call rfl rfl (fun _ => rfl) (fun _ => rfl) (ok39 _) ?_))))
 refine zp rfl h1 rfl (zo rfl (zT rfl (fun h2 => ?_) (fun h2 => ?_)))
 refine zO (fun _ => rfl) (zh rfl h2 rfl (step_sil (sil_on rfl h2 (sil_call rfl rfl (fun _ => rfl) (fun _ => rfl) (ok39 _) ?_))))
 refine zp rfl h2 rfl (zo rfl (zT rfl (fun h3 => ?_) (fun h3 => ?_)))
 refine zO (fun _ => rfl) (zh rfl h3 rfl (step_sil (sil_on rfl h3 (sil_call rfl rfl (fun _ => rfl) (fun _ => rfl) (ok39 _) ?_))))
 refine zp rfl h3 rfl (zo rfl (zT rfl (fun h4 => ?_) (fun h4 => ?_)))
 refine zO (fun _ => rfl) (zh rfl h4 rfl (step_sil (sil_on rfl h4 (sil_call rfl rfl (fun _ => rfl) (fun _ => rfl) (ok39 _) ?_))))
 refine zp rfl h4 rfl (zo rfl (zT rfl (fun h5 => ?_) (fun h5 => ?_)))
 refine zO (fun _ => rfl) (zh rfl h5 rfl (step_sil (sil_on rfl h5 (sil_call rfl rfl (fun _ => rfl) (fun _ => rfl) (ok39 _) ?_))))
 refine zp rfl h5 rfl (zo rfl (zT rfl (fun h6 => ?_) (fun h6 => ?_)))
 refine zO (fun _ => rfl) (zh rfl h6 rfl (step_sil (sil_on rfl h6 (sil_call rfl rfl (fun _ => rfl) (fun _ => rfl) (ok39 _) ?_))))
 refine zp rfl h6 rfl (zo rfl (zT rfl (fun h7 => ?_) (fun h7 => ?_)))
 refine zO (fun _ => rfl) (zh rfl h7 rfl (step_sil (sil_on rfl h7 (sil_call rfl rfl (fun _ => rfl) (fun _ => rfl) (ok39 _) ?_))))
 refine zp rfl h7 rfl (zo rfl (zT rfl (fun h8 => ?_) (fun h8 => ?_)))
 refine zO (fun _ => rfl) (zh rfl h8 rfl (zh rfl h8 rfl (zh rfl h8 rfl (zh rfl h8 rfl (zp rfl h8 rfl (zo rfl (zT rfl (fun h9 => ?_) (fun h9 => ?_))))))))
 refine zO (fun _ => rfl) (zh rfl h9 rfl (zh rfl h9 rfl (zh rfl h9 rfl (zh rfl h9 rfl (zp rfl h9 rfl (zo rfl (zT rfl (fun h10 => ?_) (fun h10 => ?_))))))))
 refine zO (fun _ => rfl) (zh rfl h10 rfl (zh rfl h10 rfl (zh rfl h10 rfl (zh rfl h10 rfl (zp rfl h10 rfl (zo rfl (zT rfl (fun h11 => ?_) (fun h11 => ?_))))))))
 refine zO (fun _ => rfl) (zh rfl h11 rfl (zh rfl h11 rfl (zp rfl h11 rfl (zo rfl (zT rfl (fun h12 => ?_) (fun h12 => ?_))))))
 exact zO (fun _ => rfl) (zh rfl h12 rfl (zh rfl h12 rfl (zp rfl h12 rfl (zo rfl (zw (Sat.ret (zg rfl)))))))
 exact zt rfl h12 (zt rfl h12 (zP rfl h12 rfl (zo rfl (zw (Sat.ret (zg rfl))))))
 refine zt rfl h11 (zt rfl h11 (zP rfl h11 rfl (zo rfl (zt rfl rfl (zt rfl rfl (zt rfl rfl (zP rfl rfl rfl (zo rfl (zw (Sat.ret ?_))))))))))
 exact zg rfl
 refine zt rfl h10 (zt rfl h10 (zt rfl h10 (zt rfl h10 (zP rfl h10 rfl (zo rfl (zt rfl rfl (zt rfl rfl (zt rfl rfl (zP rfl rfl rfl ?_)))))))))
 exact zo rfl (zt rfl rfl (zt rfl rfl (zt rfl rfl (zP rfl rfl rfl (zo rfl (zw (Sat.ret (zg rfl))))))))
 refine zt rfl h9 (zt rfl h9 (zt rfl h9 (zt rfl h9 (zP rfl h9 rfl (zo rfl (zt rfl rfl (zt rfl rfl (zt rfl rfl (zt rfl rfl ?_)))))))))
 refine zt rfl rfl (zP rfl rfl rfl (zo rfl (zt rfl rfl (zt rfl rfl (zt rfl rfl (zP rfl rfl rfl (zo rfl (zt rfl rfl (zt rfl rfl ?_)))))))))
 exact zt rfl rfl (zP rfl rfl rfl (zo rfl (zw (Sat.ret (zg rfl)))))
 refine zt rfl h8 (zt rfl h8 (zt rfl h8 (zt rfl h8 (zP rfl h8 rfl (zo rfl (zt rfl rfl (zt rfl rfl (zt rfl rfl (zt rfl rfl ?_)))))))))
 refine zt rfl rfl (zP rfl rfl rfl (zo rfl (zt rfl rfl (zt rfl rfl (zt rfl rfl (zt rfl rfl (zt rfl rfl (zP rfl rfl rfl (zo rfl ?_)))))))))
 refine zt rfl rfl (zt rfl rfl (zt rfl rfl (zP rfl rfl rfl (zo rfl (zt rfl rfl (zt rfl rfl (zt rfl rfl (zP rfl rfl rfl (zo rfl ?_)))))))))
 exact zw (Sat.ret (zg rfl))
 refine zt rfl h7 (zt rfl h7 (zP rfl h7 rfl (zo rfl (zt rfl rfl (zt rfl rfl (zt rfl rfl (zt rfl rfl (zt rfl rfl (zP rfl rfl rfl ?_)))))))))
 refine zo rfl (zt rfl rfl (zt rfl rfl (zt rfl rfl (zt rfl rfl (zt rfl rfl (zP rfl rfl rfl (zo rfl (zt rfl rfl (zt rfl rfl ?_)))))))))
 refine zt rfl rfl (zt rfl rfl (zt rfl rfl (zP rfl rfl rfl (zo rfl (zt rfl rfl (zt rfl rfl (zt rfl rfl (zP rfl rfl rfl (zo rfl ?_)))))))))
 exact zt rfl rfl (zt rfl rfl (zt rfl rfl (zP rfl rfl rfl (zo rfl (zw (Sat.ret (zg rfl)))))))
 refine zt rfl h6 (zt rfl h6 (zP rfl h6 rfl (zo rfl (zt rfl rfl (zt rfl rfl (zt rfl rfl (zP rfl rfl rfl (zo rfl (zt rfl rfl ?_)))))))))
 refine zt rfl rfl (zt rfl rfl (zt rfl rfl (zt rfl rfl (zP rfl rfl rfl (zo rfl (zt rfl rfl (zt rfl rfl (zt rfl rfl (zt rfl rfl ?_)))))))))
 refine zt rfl rfl (zP rfl rfl rfl (zo rfl (zt rfl rfl (zt rfl rfl (zt rfl rfl (zt rfl rfl (zt rfl rfl (zP rfl rfl rfl (zo rfl ?_)))))))))
 refine zt rfl rfl (zt rfl rfl (zt rfl rfl (zP rfl rfl rfl (zo rfl (zt rfl rfl (zt rfl rfl (zt rfl rfl (zP rfl rfl rfl (zo rfl ?_)))))))))
 exact zw (Sat.ret (zg rfl))
 refine zt rfl h5 (zt rfl h5 (zP rfl h5 rfl (zo rfl (zt rfl rfl (zt rfl rfl (zt rfl rfl (zP rfl rfl rfl (zo rfl (zt rfl rfl ?_)))))))))
 refine zt rfl rfl (zt rfl rfl (zP rfl rfl rfl (zo rfl (zt rfl rfl (zt rfl rfl (zt rfl rfl (zt rfl rfl (zt rfl rfl (zP rfl rfl rfl ?_)))))))))
 refine zo rfl (zt rfl rfl (zt rfl rfl (zt rfl rfl (zt rfl rfl (zt rfl rfl (zP rfl rfl rfl (zo rfl (zt rfl rfl (zt rfl rfl ?_)))))))))
 refine zt rfl rfl (zt rfl rfl (zt rfl rfl (zP rfl rfl rfl (zo rfl (zt rfl rfl (zt rfl rfl (zt rfl rfl (zP rfl rfl rfl (zo rfl ?_)))))))))
 exact zt rfl rfl (zt rfl rfl (zt rfl rfl (zP rfl rfl rfl (zo rfl (zw (Sat.ret (zg rfl)))))))
 refine zt rfl h4 (zt rfl h4 (zP rfl h4 rfl (zo rfl (zt rfl rfl (zt rfl rfl (zt rfl rfl (zP rfl rfl rfl (zo rfl (zt rfl rfl ?_)))))))))
 refine zt rfl rfl (zt rfl rfl (zP rfl rfl rfl (zo rfl (zt rfl rfl (zt rfl rfl (zt rfl rfl (zP rfl rfl rfl (zo rfl (zt rfl rfl ?_)))))))))
 refine zt rfl rfl (zt rfl rfl (zt rfl rfl (zt rfl rfl (zP rfl rfl rfl (zo rfl (zt rfl rfl (zt rfl rfl (zt rfl rfl (zt rfl rfl ?_)))))))))
 refine zt rfl rfl (zP rfl rfl rfl (zo rfl (zt rfl rfl (zt rfl rfl (zt rfl rfl (zt rfl rfl (zt rfl rfl (zP rfl rfl rfl (zo rfl ?_)))))))))
 refine zt rfl rfl (zt rfl rfl (zt rfl rfl (zP rfl rfl rfl (zo rfl (zt rfl rfl (zt rfl rfl (zt rfl rfl (zP rfl rfl rfl (zo rfl ?_)))))))))
 exact zw (Sat.ret (zg rfl))
 refine zt rfl h3 (zt rfl h3 (zP rfl h3 rfl (zo rfl (zt rfl rfl (zt rfl rfl (zt rfl rfl (zP rfl rfl rfl (zo rfl (zt rfl rfl ?_)))))))))
 refine zt rfl rfl (zt rfl rfl (zP rfl rfl rfl (zo rfl (zt rfl rfl (zt rfl rfl (zt rfl rfl (zP rfl rfl rfl (zo rfl (zt rfl rfl ?_)))))))))
 refine zt rfl rfl (zt rfl rfl (zP rfl rfl rfl (zo rfl (zt rfl rfl (zt rfl rfl (zt rfl rfl (zt rfl rfl (zt rfl rfl (zP rfl rfl rfl ?_)))))))))
 refine zo rfl (zt rfl rfl (zt rfl rfl (zt rfl rfl (zt rfl rfl (zt rfl rfl (zP rfl rfl rfl (zo rfl (zt rfl rfl (zt rfl rfl ?_)))))))))
 refine zt rfl rfl (zt rfl rfl (zt rfl rfl (zP rfl rfl rfl (zo rfl (zt rfl rfl (zt rfl rfl (zt rfl rfl (zP rfl rfl rfl (zo rfl ?_)))))))))
 exact zt rfl rfl (zt rfl rfl (zt rfl rfl (zP rfl rfl rfl (zo rfl (zw (Sat.ret (zg rfl)))))))
 refine zt rfl h2 (zt rfl h2 (zP rfl h2 rfl (zo rfl (zt rfl rfl (zt rfl rfl (zt rfl rfl (zP rfl rfl rfl (zo rfl (zt rfl rfl ?_)))))))))
 refine zt rfl rfl (zt rfl rfl (zP rfl rfl rfl (zo rfl (zt rfl rfl (zt rfl rfl (zt rfl rfl (zP rfl rfl rfl (zo rfl (zt rfl rfl ?_)))))))))
 refine zt rfl rfl (zt rfl rfl (zP rfl rfl rfl (zo rfl (zt rfl rfl (zt rfl rfl (zt rfl rfl (zP rfl rfl rfl (zo rfl (zt rfl rfl ?_)))))))))
 refine zt rfl rfl (zt rfl rfl (zt rfl rfl (zt rfl rfl (zP rfl rfl rfl (zo rfl (zt rfl rfl (zt rfl rfl (zt rfl rfl (zt rfl rfl ?_)))))))))
 refine zt rfl rfl (zP rfl rfl rfl (zo rfl (zt rfl rfl (zt rfl rfl (zt rfl rfl (zt rfl rfl (zt rfl rfl (zP rfl rfl rfl (zo rfl ?_)))))))))
 refine zt rfl rfl (zt rfl rfl (zt rfl rfl (zP rfl rfl rfl (zo rfl (zt rfl rfl (zt rfl rfl (zt rfl rfl (zP rfl rfl rfl (zo rfl ?_)))))))))
 exact zw (Sat.ret (zg rfl))
 refine zt rfl h1 (zt rfl h1 (zP rfl h1 rfl (zo rfl (zt rfl rfl (zt rfl rfl (zt rfl rfl (zP rfl rfl rfl (zo rfl (zt rfl rfl ?_)))))))))
 refine zt rfl rfl (zt rfl rfl (zP rfl rfl rfl (zo rfl (zt rfl rfl (zt rfl rfl (zt rfl rfl (zP rfl rfl rfl (zo rfl (zt rfl rfl ?_)))))))))
 refine zt rfl rfl (zt rfl rfl (zP rfl rfl rfl (zo rfl (zt rfl rfl (zt rfl rfl (zt rfl rfl (zP rfl rfl rfl (zo rfl (zt rfl rfl ?_)))))))))
 refine zt rfl rfl (zt rfl rfl (zP rfl rfl rfl (zo rfl (zt rfl rfl (zt rfl rfl (zt rfl rfl (zt rfl rfl (zt rfl rfl (zP rfl rfl rfl ?_)))))))))
 refine zo rfl (zt rfl rfl (zt rfl rfl (zt rfl rfl (zt rfl rfl (zt rfl rfl (zP rfl rfl rfl (zo rfl (zt rfl rfl (zt rfl rfl ?_)))))))))
 refine zt rfl rfl (zt rfl rfl (zt rfl rfl (zP rfl rfl rfl (zo rfl (zt rfl rfl (zt rfl rfl (zt rfl rfl (zP rfl rfl rfl (zo rfl ?_)))))))))
 exact zt rfl rfl (zt rfl rfl (zt rfl rfl (zP rfl rfl rfl (zo rfl (zw (Sat.ret (zg rfl)))))))
end Go.Proofs.YtamjajacnfmgeaaGreat
