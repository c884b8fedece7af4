/-
  The beam: bends, balance, laps. No condition.
  The beam: balance. No condition.
  The parts of a box that is cut at the ends of others. Condition: at most 1000 boxes.
  list.add with no findings and no error. No condition.
  The cover of the beam's bar. No condition.
-/
import Derived.Test.YtamjajacnfmgeaaGreatK43
set_option linter.all false
namespace Go.Proofs.YtamjajacnfmgeaaGreat
open Go Go.RowKit
set_option maxHeartbeats 1000000
theorem ok182 : Ok Tryz.prog 182 [.cp [vi 12] 0] (vi 30) := by
 refine zz 9 Tryz.func182 rfl Tryz.call182 rfl (zR (zo rfl (zw (zq (zR (zo rfl (zo rfl (zw (zy rfl (rfl) ?_)))))))))
 refine zR (zo rfl (zm rfl (step_sil (sil_quo rfl rfl rfl (by omega) (show i64R 30 from ⟨by omega, by omega⟩) ?_))))
 exact zo rfl (zw (Sat.ret (rq (ze rfl rfl))))
theorem ok121 : Ok Tryz.prog 121 [vi 12] (.tp [vi 30, vi 0]) := by
 refine zz 9 Tryz.func121 rfl Tryz.call121 rfl (zR (zo rfl (zo rfl (zo rfl (zw (zR (zo rfl (zo rfl (step_call rfl rfl rfl (ok181 12 _ 182 (.cp [vi 12] 0) (by decide) ok182) ?_)))))))))
 exact zo rfl (zo rfl (zo rfl (zo rfl (zw (Sat.ret (ze rfl rfl))))))
theorem ok68 : Ok Tryz.prog 68 [.ag bmBar.c] (.tp [.sl [], vi 0]) := by
 have k := ok120 bmBar (by kernel_rfl)
 have e : legLens bmBar = [2000] := by kernel_rfl
 rw [e] at k
 refine zz 82 Tryz.func68 rfl Tryz.call68 rfl (zR (zo rfl (zo rfl (zo rfl (zw (zR (zo rfl (zc rfl k (zo rfl ?_)))))))))
 refine zo rfl (zo rfl (zo rfl (zo rfl (zw (zq (zR (zo rfl (zo rfl (zw (zn rfl (rfl) ?_))))))))))
 refine zk (zR (zo rfl (zo rfl (zc rfl ok121 (zo rfl (zo rfl (zo rfl (zo rfl (zo rfl ?_)))))))))
 refine zw (zq (zR (zo rfl (zo rfl (zw (zn rfl (rfl) (zk (zR (zo rfl ?_)))))))))
 refine zo rfl (zS rfl (by first | (constructor <;> omega) | (constructor <;> simp [ic])) (zo rfl (zw (zq (zR (zo rfl (zo rfl (zw (zy rfl (rfl) ?_)))))))))
 exact zR (zo rfl (zo rfl (zw (Sat.ret (rq (ze rfl rfl))))))
theorem ok67 : Ok Tryz.prog 67 [.ag beam.c] (.bool true) := by
 refine zz 5 Tryz.func67 rfl Tryz.call67 rfl (zR (zo rfl (zo rfl (zw (zR (zo rfl (zc rfl (ok46 beam beam_ok) (zo rfl (zw (Sat.ret ?_))))))))))
 exact ze rfl rfl
theorem ok72 : Ok Tryz.prog 72 [.ag beam.c] (.tp [.sl [], vi 0]) := by
 have k := ok94 beam beam_ok
 refine zz 128 Tryz.func72 rfl Tryz.call72 rfl (zR (zo rfl (zo rfl (zo rfl (zw (zR (zo rfl (zc rfl k (zo rfl ?_)))))))))
 refine zo rfl (zo rfl (zo rfl (zo rfl (zw (zq (zR (zo rfl (zo rfl (zw (zn rfl (rfl) ?_))))))))))
 refine zk (zR (zo rfl (zw (zq (zR (zo rfl (zo rfl (zo rfl (zo rfl ?_)))))))))
 refine zw (Sat.loop' (fun _ => True) (fun i => ⟨128, lk [(6, .nil), (27, .v (vi 0)), (28, .v (vi i))], lk []⟩) (0) ?_ (trivial) (fun i hi hI => ?_) (fun hI => ?_))
 exact zv rfl rfl rfl rfl
 exact absurd hi (Nat.not_lt_zero _)
 refine zR (zo rfl (zw (zq (zn rfl (by rfl) (Sat.exit (xq (xe (nq (zR (zo rfl ?_))))))))))
 exact zo rfl (zo rfl (zw (Sat.ret (ze rfl (by first | rfl | (simp_all; done))))))
end Go.Proofs.YtamjajacnfmgeaaGreat
namespace Go.Proofs.YtamjajacnfmgeaaGreat
open Go Go.RowKit
set_option maxHeartbeats 1000000
theorem beam_runs : runsOk [bmBar] [bmRun] = true := by kernel_rfl
theorem ok70 : Ok Tryz.prog 70 [.sl [bmBar.c], .sl [bmRun.c]] (.tp [.sl [], vi 0]) := by
 refine zz 84 Tryz.func70 rfl Tryz.call70 rfl (zR (zo rfl (zo rfl (zw (zq (zR (zo rfl (zo rfl (zc rfl (ok115 [bmBar] [bmRun] beam_runs) ?_)))))))))
 refine zo rfl (zw (zn rfl (rfl) (zk (zR (zo rfl (zo rfl (zw (zq (zR (zo rfl ?_))))))))))
 refine zo rfl (zo rfl (zw (Sat.loop' (fun _ => True) (fun i => ⟨84, lk [(0, .v (.sl [bmBar.c])), (1, .v (.sl [bmRun.c])), (6, .omap 19), (20, .v (.sl [bmBar.c])), (21, .v (vi 1)), (22, .v (vi i))], lk [(19, ⟨.mp (([(.str bmBar.mark, vi 1)] : List (V × V)).take i), false⟩)]⟩) (1) ?_ (trivial) (fun i hi hI => ?_) (fun hI => ?_))))
 exact zv rfl rfl rfl rfl
 have hcs : i = 0 := by omega
 rcases hcs with rfl
 refine zR (zo rfl (zw (zq (zy rfl (by rfl) (zk (zq (zb rfl (zR (step_sil (sil_index rfl rfl rfl rfl (by omega) rfl rfl ?_))))))))))
 refine zo rfl (zo rfl (zd rfl rfl (zw (zr (zo rfl (zo rfl (zo rfl (zo rfl (zo rfl ?_)))))))))
 exact zd rfl rfl (wn (nb (nq (zr (zA rfl (by first | (constructor <;> omega) | (constructor <;> decide)) (zo rfl (wn (ns trivial (zv rfl rfl rfl rfl)))))))))
 refine zR (zo rfl (zw (zq (zn rfl (by rfl) (Sat.exit (xq (xe (nq (zq (zR (zo rfl ?_)))))))))))
 refine zo rfl (zo rfl (zw (Sat.loop' (fun _ => True) (fun i => ⟨84, lk [(0, .v (.sl [bmBar.c])), (6, .omap 19), (32, .v (.sl [bmRun.c])), (33, .v (vi 1)), (34, .v (vi i))], lk [(19, ⟨.mp (([(.str bmBar.mark, vi 1)] : List (V × V)).take (1 - i)), false⟩)]⟩) (1) ?_ (trivial) (fun i hi hI => ?_) (fun hI => ?_))))
 exact zv rfl rfl rfl rfl
 have hcs : i = 0 := by omega
 rcases hcs with rfl
 refine zR (zo rfl (zw (zq (zy rfl (by rfl) (zk (zq (zb rfl (zR (step_sil (sil_index rfl rfl rfl rfl (by omega) rfl rfl ?_))))))))))
 refine zo rfl (zo rfl (zd rfl rfl (zw (zR (zo rfl (zo rfl (zo rfl (zo rfl (zo rfl ?_)))))))))
 refine zo rfl (zS rfl (by first | (constructor <;> omega) | (constructor <;> decide)) (zd rfl rfl (zw (zR (zo rfl (zo rfl (zo rfl (zo rfl (zo rfl ?_)))))))))
 refine zw (zy rfl (rfl) (Sat.rx tabOk (wx (step_sil (zO (fun _ => rfl) ?_)))))
 refine wx (step_sil (zO (fun _ => rfl) ?_))
 refine wx (step_sil (zO (fun _ => rfl) ?_))
 exact x_del rfl tabOk rfl rfl rfl rfl rfl (wnX (nb (nq (zr (zA rfl (by first | (constructor <;> omega) | (constructor <;> decide)) (zo rfl (wn (ns trivial (zv rfl rfl rfl rfl)))))))))
 refine zR (zo rfl (zw (zq (zn rfl (by rfl) (Sat.exit (xq (xe (nq (zR (zo rfl ?_))))))))))
 refine zw (zq (zR (zo rfl (zo rfl (zo rfl (zw (Sat.loop' (fun _ => True) (fun i => ⟨84, lk [(6, .omap 19), (11, .nil), (54, .v (.sl [bmBar.c])), (55, .v (vi 1)), (56, .v (vi i))], lk [(19, ⟨.mp [], false⟩)]⟩) (1) ?_ (trivial) (fun i hi hI => ?_) (fun hI => ?_))))))))
 exact zv rfl rfl rfl rfl
 have hcs : i = 0 := by omega
 rcases hcs with rfl
 refine zR (zo rfl (zw (zq (zy rfl (by rfl) (zk (zq (zb rfl (zR (step_sil (sil_index rfl rfl rfl rfl (by omega) rfl rfl ?_))))))))))
 refine zo rfl (zo rfl (zd rfl rfl (zw (zR (zo rfl (zo rfl (zo rfl (zo rfl (zo rfl ?_)))))))))
 refine zw (zb rfl (zR (zo rfl (zo rfl (zo rfl (zw (zn rfl (rfl) (zR (zo rfl ?_)))))))))
 refine zo rfl (zo rfl (zw (zn rfl (rfl) (Sat.skip (nb (nb (nq (zr (zA rfl (by first | (constructor <;> omega) | (constructor <;> decide)) ?_)))))))))
 exact zo rfl (wn (ns trivial (zv rfl rfl rfl rfl)))
 refine zR (zo rfl (zw (zq (zn rfl (by rfl) (Sat.exit (xq (xe (nq (zR (zo rfl ?_))))))))))
 exact zo rfl (zo rfl (zw (Sat.ret (ze rfl rfl))))
end Go.Proofs.YtamjajacnfmgeaaGreat
namespace Go.Proofs.YtamjajacnfmgeaaGreat
open Go Go.RowKit
set_option maxHeartbeats 1000000
def insd (a z n : Int) : List Int := if a < n ∧ n < z then [n] else []
def cutJ (C : List Int) (a z p q : Int) (j : Nat) : List Int := C ++ ([p, q].take j).flatMap (insd a z)
def cutN (l : List Bx) (b : Bx) (k : Int) : Nat → List Int
  | 0 => [b.lo k, b.hi k]
  | n + 1 => cutJ (cutN l b k n) (b.lo k) (b.hi k) ((gt l n).lo k) ((gt l n).hi k) 2
def ctF (l : List Bx) (b : Bx) (k : Int) : List Int := cpt (srt (cutN l b k l.length))
def prtF (l : List Bx) (b : Bx) (k : Int) (i : Nat) : Int × Int := (gt (ctF l b k) ((i : Int) + 1 - 1), gt (ctF l b k) ((i : Int) + 1))
def parF (l : List Bx) (b : Bx) (k : Int) : List (Int × Int) :=
  if b.lo k = b.hi k then [(b.lo k, b.hi k)] else (List.range ((ctF l b k).length - 1)).map (prtF l b k)
def pc (p : Int × Int) : List V := [vi p.1, vi p.2]
theorem soE {g : Store} {t k : Nat} {rows rows' : List (List V)} (h : g t = slS k rows) (e : rows = rows') : ∀ e', slS k rows' = some e' → g t = some e' := e ▸ soS h
theorem insd_t {a z n : Int} (h1 : decide (n > a) = true) (h2 : decide (n < z) = true) : insd a z n = [n] := by simp [insd] at *; omega
theorem insd_f {a z n : Int} (h : decide (n > a) = false ∨ decide (n < z) = false) : insd a z n = [] := by simp [insd] at *; omega
section
variable {C : List Int} {a z p q : Int}
theorem cut0t (h1 : decide (p > a) = true) (h2 : decide (p < z) = true) : (cutJ C a z p q 0).map ic ++ [[vi p]] = (cutJ C a z p q 1).map ic := by simp [cutJ, insd_t h1 h2, ic]
theorem cut0f (h : decide (p > a) = false ∨ decide (p < z) = false) : (cutJ C a z p q 0).map ic = (cutJ C a z p q 1).map ic := by simp [cutJ, insd_f h]
theorem cut1t (h1 : decide (q > a) = true) (h2 : decide (q < z) = true) : (cutJ C a z p q 1).map ic ++ [[vi q]] = (cutJ C a z p q 2).map ic := by simp [cutJ, insd_t h1 h2, ic]
theorem cut1f (h : decide (q > a) = false ∨ decide (q < z) = false) : (cutJ C a z p q 1).map ic = (cutJ C a z p q 2).map ic := by simp [cutJ, insd_f h]
end
theorem cutJ_len (C : List Int) (a z p q : Int) (j : Nat) : (cutJ C a z p q j).length ≤ C.length + 2 := by
 have hi : ∀ n, (insd a z n).length ≤ 1 := fun n => by unfold insd; split <;> simp
 have h1 := hi p
 have h2 := hi q
 match j with
 | 0 => simp [cutJ]
 | 1 => simp [cutJ]; omega
 | j + 2 => simp [cutJ]; omega
theorem cutN_len (l : List Bx) (b : Bx) (k : Int) : ∀ n, (cutN l b k n).length ≤ 2 + 2 * n
  | 0 => by simp [cutN]
  | n + 1 => by have := cutJ_len (cutN l b k n) (b.lo k) (b.hi k) ((gt l n).lo k) ((gt l n).hi k) 2; have := cutN_len l b k n; unfold cutN; omega
theorem atF_len (l : List Bx) (b : Bx) (k : Int) : (ctF l b k).length ≤ 2 + 2 * l.length := by
 have h2 := cpt_le (srt (cutN l b k l.length))
 rw [srt_len] at h2
 have := cutN_len l b k l.length
 unfold ctF; omega
theorem cutN_ne (l : List Bx) (b : Bx) (k : Int) : ∀ n, cutN l b k n ≠ []
  | 0 => by simp [cutN]
  | n + 1 => by simp [cutN, cutJ, cutN_ne l b k n]
theorem cutJ_ne (l : List Bx) (b : Bx) (k : Int) (n : Nat) (a z p q : Int) (j : Nat) : (cutJ (cutN l b k n) a z p q j).map ic ≠ [] := by simp [cutJ, cutN_ne l b k n]
theorem prt_snoc (l : List Bx) (b : Bx) (k : Int) (i : Nat) : ((List.range i).map fun j : Nat => pc (prtF l b k j)) ++ [[vi (gt (ctF l b k) ((i : Int) + 1 - 1)), vi (gt (ctF l b k) ((i : Int) + 1))]] = (List.range (i + 1)).map fun j : Nat => pc (prtF l b k j) := (rangeM_snoc _ _).symm
theorem ok267 (l : List Bx) (hl : l.length ≤ 1000) (b : Bx) (k : Int) (hk0 : 0 ≤ k) (hk1 : k < 3) : Ok Tryz.prog 267 [.sl (l.map Bx.c), .ag b.c, vi k] (.sl ((parF l b k).map pc)) := by
 have hlm : (l.map Bx.c).length = l.length := List.length_map ..
 have hal := atF_len l b k
 refine zz 92 Tryz.func267 rfl Tryz.call267 rfl (zR (zo rfl (zo rfl (zw (zR (zo rfl (zo rfl (zc rfl (ok101 _ k hk0 hk1) (zo rfl ?_)))))))))
 refine zo rfl (zo rfl (zo rfl (zo rfl (zw (zq (zR (zo rfl (zo rfl (zo rfl ?_)))))))))
 refine zw (zC rfl (fun h1 => ?_) (fun h1 => ?_))
 exact zR (zo rfl (zo rfl (zo rfl (zo rfl (zo rfl (zw (Sat.ret (rq (ze rfl (by first | (have e := eq_of_beq h1; simp only [parF, if_pos e, List.map_cons, List.map_nil]; rfl) | (have e := ne_of_beq_false h1; simp only [parF, if_neg e, List.map_map]; rfl)))))))))))
 refine zk (zR (zo rfl (zo rfl (zo rfl (zo rfl (zw (zq (zR (zo rfl ?_)))))))))
 refine zo rfl (zo rfl (zw (Sat.loop' (fun _ => True) (fun i => ⟨92, lk [(2, .v (vi k)), (7, .v (vi (b.lo k))), (8, .v (vi (b.hi k))), (9, slD 33 1 ((cutN l b k i).map ic)), (34, .v (.sl (l.map Bx.c))), (35, .v (vi (l.map Bx.c).length)), (36, .v (vi i))], lkO [(33, slS 1 ((cutN l b k i).map ic))]⟩) (l.length) ?_ (trivial) (fun i hi hI => ?_) (fun hI => ?_))))
 exact zV ⟨rfl, rfl, rfl, rfl, rfl, rfl, rfl, trivial⟩ ⟨so rfl, trivial⟩
 refine zR (zo rfl (zw (zq (zy rfl (by simp [hi]) (zk (zq (zb rfl (zR (zi rfl rfl rfl rfl rfl ?_)))))))))
 refine zo rfl (zo rfl (zd rfl rfl (zw (zR (zo rfl (zo rfl (zc rfl (ok101 _ k hk0 hk1) (zo rfl (zo rfl ?_)))))))))
 refine zo rfl (zo rfl (zo rfl (zw (zR (zo rfl (zo rfl (zo rfl (zo rfl (zo rfl ?_)))))))))
 refine zw (Sat.loop' (fun _ => True) (fun j => ⟨92, lk [(2, .v (vi k)), (7, .v (vi (b.lo k))), (8, .v (vi (b.hi k))), (9, slD 33 1 ((cutJ (cutN l b k i) (b.lo k) (b.hi k) ((gt l i).lo k) ((gt l i).hi k) j).map ic)), (34, .v (.sl (l.map Bx.c))), (35, .v (vi (l.map Bx.c).length)), (36, .v (vi i)), (48, .osl 48 1 2 0 2), (49, .v (vi 2)), (50, .v (vi j))], lkO [(33, slS 1 ((cutJ (cutN l b k i) (b.lo k) (b.hi k) ((gt l i).lo k) ((gt l i).hi k) j).map ic)), (48, some ⟨.sl 1 [[vi ((gt l i).lo k)], [vi ((gt l i).hi k)]], false⟩)]⟩) (2) ?_ (trivial) (fun j hj hJ => ?_) (fun hJ => ?_))
 exact zV ⟨rfl, rfl, rfl, slD_eq rfl (by simp [cutJ]), rfl, rfl, rfl, rfl, rfl, rfl, trivial⟩ ⟨(by rw [show cutJ (cutN l b k i) (b.lo k) (b.hi k) ((gt l i).lo k) ((gt l i).hi k) 0 = cutN l b k i by simp [cutJ]]; exact soS rfl), so rfl, trivial⟩
 have hcs : j = 0 ∨ j = 1 := by omega
 rcases hcs with rfl | rfl
 refine zR (zo rfl (zw (zq (zy rfl (by rfl) (zk (zq (zb rfl (zR (zo rfl ?_)))))))))
 refine zo rfl (zo rfl (zw (zR (zo rfl (zo rfl (zo rfl (zo rfl (zT rfl (fun h2 => ?_) (fun h2 => ?_)))))))))
 refine zO (fun _ => rfl) (zh rfl h2 rfl (zh rfl h2 rfl (zp rfl h2 rfl (zw (zC rfl (fun h3 => ?_) (fun h3 => ?_))))))
 refine zr (zo rfl (zo rfl (zo rfl (step_app1 rfl (.inr (cutJ_ne _ _ _ _ _ _ _ _ _)) rfl rfl rfl rfl rfl rfl (by rw [List.length_map]; have := cutN_len l b k i; have := cutJ_len (cutN l b k i) (b.lo k) (b.hi k) ((gt l i).lo k) ((gt l i).hi k) 0; have := cutJ_len (cutN l b k i) (b.lo k) (b.hi k) ((gt l i).lo k) ((gt l i).hi k) 1; omega) rfl (zo rfl (wn (nb (nq ?_))))))))
 first | have hr := cut0t (C := cutN l b k i) (a := b.lo k) (z := b.hi k) (p := (gt l i).lo k) (q := (gt l i).hi k) h2 h3 | have hr := cut0f (C := cutN l b k i) (a := b.lo k) (z := b.hi k) (p := (gt l i).lo k) (q := (gt l i).hi k) (.inl h2) | have hr := cut0f (C := cutN l b k i) (a := b.lo k) (z := b.hi k) (p := (gt l i).lo k) (q := (gt l i).hi k) (.inr h3) | have hr := cut1t (C := cutN l b k i) (a := b.lo k) (z := b.hi k) (p := (gt l i).lo k) (q := (gt l i).hi k) h4 h5 | have hr := cut1f (C := cutN l b k i) (a := b.lo k) (z := b.hi k) (p := (gt l i).lo k) (q := (gt l i).hi k) (.inl h4) | have hr := cut1f (C := cutN l b k i) (a := b.lo k) (z := b.hi k) (p := (gt l i).lo k) (q := (gt l i).hi k) (.inr h5)
 exact zr (za rfl (zo rfl (wn (ns trivial (zV ⟨rfl, rfl, rfl, slD_eq rfl hr, rfl, rfl, rfl, rfl, rfl, rfl, trivial⟩ ⟨(by first | exact soA rfl hr | exact soE rfl hr), so rfl, trivial⟩)))))
 refine Sat.skip (nb (nq ?_))
 first | have hr := cut0t (C := cutN l b k i) (a := b.lo k) (z := b.hi k) (p := (gt l i).lo k) (q := (gt l i).hi k) h2 h3 | have hr := cut0f (C := cutN l b k i) (a := b.lo k) (z := b.hi k) (p := (gt l i).lo k) (q := (gt l i).hi k) (.inl h2) | have hr := cut0f (C := cutN l b k i) (a := b.lo k) (z := b.hi k) (p := (gt l i).lo k) (q := (gt l i).hi k) (.inr h3) | have hr := cut1t (C := cutN l b k i) (a := b.lo k) (z := b.hi k) (p := (gt l i).lo k) (q := (gt l i).hi k) h4 h5 | have hr := cut1f (C := cutN l b k i) (a := b.lo k) (z := b.hi k) (p := (gt l i).lo k) (q := (gt l i).hi k) (.inl h4) | have hr := cut1f (C := cutN l b k i) (a := b.lo k) (z := b.hi k) (p := (gt l i).lo k) (q := (gt l i).hi k) (.inr h5)
 exact zr (za rfl (zo rfl (wn (ns trivial (zV ⟨rfl, rfl, rfl, slD_eq rfl hr, rfl, rfl, rfl, rfl, rfl, rfl, trivial⟩ ⟨(by first | exact soA rfl hr | exact soE rfl hr), so rfl, trivial⟩)))))
 refine zt rfl h2 (zt rfl h2 (zP rfl h2 rfl (zw (zn rfl rfl (Sat.skip (nb (nq ?_)))))))
 first | have hr := cut0t (C := cutN l b k i) (a := b.lo k) (z := b.hi k) (p := (gt l i).lo k) (q := (gt l i).hi k) h2 h3 | have hr := cut0f (C := cutN l b k i) (a := b.lo k) (z := b.hi k) (p := (gt l i).lo k) (q := (gt l i).hi k) (.inl h2) | have hr := cut0f (C := cutN l b k i) (a := b.lo k) (z := b.hi k) (p := (gt l i).lo k) (q := (gt l i).hi k) (.inr h3) | have hr := cut1t (C := cutN l b k i) (a := b.lo k) (z := b.hi k) (p := (gt l i).lo k) (q := (gt l i).hi k) h4 h5 | have hr := cut1f (C := cutN l b k i) (a := b.lo k) (z := b.hi k) (p := (gt l i).lo k) (q := (gt l i).hi k) (.inl h4) | have hr := cut1f (C := cutN l b k i) (a := b.lo k) (z := b.hi k) (p := (gt l i).lo k) (q := (gt l i).hi k) (.inr h5)
 exact zr (za rfl (zo rfl (wn (ns trivial (zV ⟨rfl, rfl, rfl, slD_eq rfl hr, rfl, rfl, rfl, rfl, rfl, rfl, trivial⟩ ⟨(by first | exact soA rfl hr | exact soE rfl hr), so rfl, trivial⟩)))))
 refine zR (zo rfl (zw (zq (zy rfl (by rfl) (zk (zq (zb rfl (zR (zo rfl ?_)))))))))
 refine zo rfl (zo rfl (zw (zR (zo rfl (zo rfl (zo rfl (zo rfl (zT rfl (fun h4 => ?_) (fun h4 => ?_)))))))))
 refine zO (fun _ => rfl) (zh rfl h4 rfl (zh rfl h4 rfl (zp rfl h4 rfl (zw (zC rfl (fun h5 => ?_) (fun h5 => ?_))))))
 refine zr (zo rfl (zo rfl (zo rfl (step_app1 rfl (.inr (cutJ_ne _ _ _ _ _ _ _ _ _)) rfl rfl rfl rfl rfl rfl (by rw [List.length_map]; have := cutN_len l b k i; have := cutJ_len (cutN l b k i) (b.lo k) (b.hi k) ((gt l i).lo k) ((gt l i).hi k) 0; have := cutJ_len (cutN l b k i) (b.lo k) (b.hi k) ((gt l i).lo k) ((gt l i).hi k) 1; omega) rfl (zo rfl (wn (nb (nq ?_))))))))
 first | have hr := cut0t (C := cutN l b k i) (a := b.lo k) (z := b.hi k) (p := (gt l i).lo k) (q := (gt l i).hi k) h2 h3 | have hr := cut0f (C := cutN l b k i) (a := b.lo k) (z := b.hi k) (p := (gt l i).lo k) (q := (gt l i).hi k) (.inl h2) | have hr := cut0f (C := cutN l b k i) (a := b.lo k) (z := b.hi k) (p := (gt l i).lo k) (q := (gt l i).hi k) (.inr h3) | have hr := cut1t (C := cutN l b k i) (a := b.lo k) (z := b.hi k) (p := (gt l i).lo k) (q := (gt l i).hi k) h4 h5 | have hr := cut1f (C := cutN l b k i) (a := b.lo k) (z := b.hi k) (p := (gt l i).lo k) (q := (gt l i).hi k) (.inl h4) | have hr := cut1f (C := cutN l b k i) (a := b.lo k) (z := b.hi k) (p := (gt l i).lo k) (q := (gt l i).hi k) (.inr h5)
 exact zr (za rfl (zo rfl (wn (ns trivial (zV ⟨rfl, rfl, rfl, slD_eq rfl hr, rfl, rfl, rfl, rfl, rfl, rfl, trivial⟩ ⟨(by first | exact soA rfl hr | exact soE rfl hr), so rfl, trivial⟩)))))
 refine Sat.skip (nb (nq ?_))
 first | have hr := cut0t (C := cutN l b k i) (a := b.lo k) (z := b.hi k) (p := (gt l i).lo k) (q := (gt l i).hi k) h2 h3 | have hr := cut0f (C := cutN l b k i) (a := b.lo k) (z := b.hi k) (p := (gt l i).lo k) (q := (gt l i).hi k) (.inl h2) | have hr := cut0f (C := cutN l b k i) (a := b.lo k) (z := b.hi k) (p := (gt l i).lo k) (q := (gt l i).hi k) (.inr h3) | have hr := cut1t (C := cutN l b k i) (a := b.lo k) (z := b.hi k) (p := (gt l i).lo k) (q := (gt l i).hi k) h4 h5 | have hr := cut1f (C := cutN l b k i) (a := b.lo k) (z := b.hi k) (p := (gt l i).lo k) (q := (gt l i).hi k) (.inl h4) | have hr := cut1f (C := cutN l b k i) (a := b.lo k) (z := b.hi k) (p := (gt l i).lo k) (q := (gt l i).hi k) (.inr h5)
 exact zr (za rfl (zo rfl (wn (ns trivial (zV ⟨rfl, rfl, rfl, slD_eq rfl hr, rfl, rfl, rfl, rfl, rfl, rfl, trivial⟩ ⟨(by first | exact soA rfl hr | exact soE rfl hr), so rfl, trivial⟩)))))
 refine zt rfl h4 (zt rfl h4 (zP rfl h4 rfl (zw (zn rfl rfl (Sat.skip (nb (nq ?_)))))))
 first | have hr := cut0t (C := cutN l b k i) (a := b.lo k) (z := b.hi k) (p := (gt l i).lo k) (q := (gt l i).hi k) h2 h3 | have hr := cut0f (C := cutN l b k i) (a := b.lo k) (z := b.hi k) (p := (gt l i).lo k) (q := (gt l i).hi k) (.inl h2) | have hr := cut0f (C := cutN l b k i) (a := b.lo k) (z := b.hi k) (p := (gt l i).lo k) (q := (gt l i).hi k) (.inr h3) | have hr := cut1t (C := cutN l b k i) (a := b.lo k) (z := b.hi k) (p := (gt l i).lo k) (q := (gt l i).hi k) h4 h5 | have hr := cut1f (C := cutN l b k i) (a := b.lo k) (z := b.hi k) (p := (gt l i).lo k) (q := (gt l i).hi k) (.inl h4) | have hr := cut1f (C := cutN l b k i) (a := b.lo k) (z := b.hi k) (p := (gt l i).lo k) (q := (gt l i).hi k) (.inr h5)
 exact zr (za rfl (zo rfl (wn (ns trivial (zV ⟨rfl, rfl, rfl, slD_eq rfl hr, rfl, rfl, rfl, rfl, rfl, rfl, trivial⟩ ⟨(by first | exact soA rfl hr | exact soE rfl hr), so rfl, trivial⟩)))))
 refine zR (zo rfl (zw (zq (zn rfl (by rfl) (Sat.exit (xq (xe (nb (nq ?_)))))))))
 exact zr (za rfl (zo rfl (wn (ns trivial (zV ⟨rfl, rfl, rfl, rfl, rfl, rfl, rfl, trivial⟩ ⟨soS rfl, trivial⟩)))))
 refine zR (zo rfl (zw (zq (zn rfl (by simp) (Sat.exit (xq (xe (nq (zq (Sat.xto tabOk (⟨92, lk [(9, slD 33 1 ((srt (cutN l b k l.length)).map ic))], lkO [(33, slS 1 ((srt (cutN l b k l.length)).map ic))]⟩) ?_ ?_))))))))))
 refine wx (step_sil (zO (fun _ => rfl) ?_))
 exact x_call rfl rfl (sort_do 33 (cutN l b k l.length) (by have := cutN_len l b k l.length; omega) rfl) (wnX (zV ⟨d_eq rfl (slD_congr (by simp [srt_len])), trivial⟩ ⟨soS rfl, trivial⟩))
 refine nq (zq (Sat.rx tabOk (wx (step_sil (zO (fun _ => rfl) ?_)))))
 refine x_takeS (x := .sl ((ctF l b k).map ic)) (rg := []) (s1 := lkO []) rfl rfl (fun he => by have e : srt (cutN l b k l.length) = [] := List.map_eq_nil_iff.1 he; unfold ctF; rw [e]; exact ok106_nil) (fun _ => compactC (srt (cutN l b k l.length)) (by rw [srt_len]; have := cutN_len l b k l.length; omega)) rfl rfl (frz_nil _) (zV trivial trivial) rfl (wx (step_sil (zO (fun _ => rfl) ?_)))
 refine wnX (nq (zR (zo rfl (zw (zq (zR (zo rfl (zw (Sat.loop' (fun _ => True) (fun i => ⟨92, lk [(9, .v (.sl ((ctF l b k).map ic))), (16, slD 90 2 ((List.range i).map fun j : Nat => pc (prtF l b k j))), (17, .v (vi ((i : Int) + 1)))], lkO [(90, slS 2 ((List.range i).map fun j : Nat => pc (prtF l b k j)))]⟩) ((ctF l b k).length - 1) ?_ (trivial) (fun i hi hI => ?_) (fun hI => ?_))))))))))
 exact zV ⟨rfl, rfl, rfl, trivial⟩ ⟨soS rfl, trivial⟩
 refine zq (zR (zo rfl (zo rfl (zo rfl (zo rfl (zw (zy rfl (by simp; omega) (zk (zq (zb rfl ?_))))))))))
 refine Sat.dwN tabOk mixed [] [11, 12] [0, 1, 2, 3, 4, 5, 6, 7, 8, 9, 10, 11, 12, 13] (by decide) (by kernel_rfl) (walk_sil rfl rfl (zO (fun _ => rfl) ?_))
 refine walk_sil rfl rfl (zO (fun _ => rfl) ?_)
 refine walk_sil rfl rfl (zO (fun _ => rfl) ?_)
 refine walk_sil rfl rfl (sil_sub rfl rfl rfl (by first | (constructor <;> omega) | (simp only [decide_eq_true_eq, decide_eq_false_iff_not, Bool.not_eq_true', Bool.not_eq_false', beq_eq_false_iff_ne, beq_iff_eq, ne_eq] at *; constructor <;> omega)) ?_)
 refine walk_sil rfl rfl (sil_index rfl rfl rfl rfl (by omega) (gt_idx (by omega) (by omega)) rfl ?_)
 refine walk_sil rfl rfl (zO (fun _ => rfl) ?_)
 refine walk_sil rfl rfl (zO (fun _ => rfl) ?_)
 refine walk_sil rfl rfl (zO (fun _ => rfl) ?_)
 refine walk_sil rfl rfl (sil_index rfl rfl rfl rfl (by omega) (gt_idx (by omega) (by omega)) rfl ?_)
 refine walk_sil rfl rfl (zO (fun _ => rfl) ?_)
 refine walk_sil rfl rfl (zO (fun _ => rfl) ?_)
 refine walk_eff rfl rfl (step_op rfl rfl rfl ⟨fun _ => ovr_eq trivial, ?_⟩)
 first | (refine walk_eff rfl rfl (step_app1 rfl (by first | exact .inl rfl | (right; simp)) rfl rfl rfl rfl rfl rfl (by simp; omega) rfl ⟨fun _ => ovr_eq trivial, ?_⟩)) | (refine walk_eff rfl rfl (step_op rfl rfl rfl ⟨fun _ => ovr_eq trivial, ?_⟩))
 refine walk_sil rfl rfl (zO (fun _ => rfl) ?_)
 exact kn (nb (nq (zr (zo rfl (za rfl (zo rfl (wn (ns trivial (zV ⟨rfl, slD_eq rfl (prt_snoc l b k i), int_eq rfl (by omega), trivial⟩ ⟨soA rfl (prt_snoc l b k i), trivial⟩)))))))))
 refine zq (zR (zo rfl (zo rfl (zo rfl (zo rfl (zw (zn rfl (by simp; omega) (Sat.exit (xq ?_)))))))))
 exact xe (nq (Sat.pubS 16 rfl rfl (zR (zo rfl (zo rfl (zw (Sat.ret (ze rfl (by first | (have e := eq_of_beq h1; simp only [parF, if_pos e, List.map_cons, List.map_nil]; rfl) | (have e := ne_of_beq_false h1; simp only [parF, if_neg e, List.map_map]; rfl))))))))))
end Go.Proofs.YtamjajacnfmgeaaGreat
namespace Go.Proofs.YtamjajacnfmgeaaGreat
open Go Go.RowKit
set_option maxHeartbeats 1000000
theorem ok69 (k : Int) : OkP Tryz.prog 69 [.nil, .v (vi 0)] [.sl [], vi 0, vi k] [.nil, .v (vi 0)] := by
 refine okP_of_sat tabOk Tryz.func69 rfl Tryz.call69 rfl rfl rfl fun b => ?_
 refine SatB.seq ?_
 refine SatB.seq ?_
 refine SatB.region tabOk ?_
 refine ob rfl rfl rfl ?_
 refine ob rfl rfl rfl ?_
 refine ob rfl rfl rfl ?_
 refine ob rfl rfl rfl ?_
 refine ob rfl rfl rfl ?_
 refine wnB ?_
 refine nq ?_
 refine SatB.condF rfl rfl ?_
 refine SatB.skip ?_
 refine nq ?_
 refine SatB.seq ?_
 refine SatB.region tabOk ?_
 refine ob rfl rfl rfl ?_
 refine ob rfl rfl rfl ?_
 refine ob rfl rfl rfl ?_
 refine ob rfl rfl rfl ?_
 refine od rfl rfl ?_
 refine wnB ?_
 refine nq ?_
 refine SatB.seq ?_
 refine SatB.region tabOk ?_
 refine ob rfl rfl rfl ?_
 refine ob rfl rfl rfl ?_
 refine ob rfl rfl rfl ?_
 refine wnB ?_
 refine nq ?_
 refine SatB.block ?_
 refine SatB.loop ?_
 refine SatB.seq ?_
 refine SatB.region tabOk ?_
 refine ob rfl rfl rfl ?_
 refine wnB ?_
 refine nq ?_
 refine SatB.seq ?_
 refine SatB.condF rfl rfl ?_
 refine SatB.exit ?_
 refine xq ?_
 refine xq ?_
 refine xb ?_
 exact ⟨trivial, rfl⟩
theorem add_do {m : Nat} {s : Store} (k : Int) (hm : s m = some ⟨.cells [.nil, .v (vi 0)], false⟩) : CallDo Tryz.prog 69 [.ptr m 0, .v (.sl []), .v (vi 0), .v (vi k)] s s (.v (.tp [])) := by
 have e0 : ([.v (.sl []), .v (vi 0), .v (vi k)] : List D).flatMap (pubN s pubD) = [] := rfl
 have h := call_ptr (ds := [.v (.sl []), .v (vi 0), .v (vi k)]) (s := s) (m := m) (ok69 k) rfl rfl rfl hm (by rw [e0]; simp)
 have e : upd (frz s (([.v (.sl []), .v (vi 0), .v (vi k)] : List D).flatMap (pubN s pubD))) m ⟨.cells [.nil, .v (vi 0)], false⟩ = s := by
   rw [e0, frz_nil]
   funext q
   unfold upd
   split
   · rename_i hq; rw [hq, hm]
   · rfl
 rw [e] at h
 exact h
end Go.Proofs.YtamjajacnfmgeaaGreat
namespace Go.Proofs.YtamjajacnfmgeaaGreat
open Go Go.RowKit
set_option maxHeartbeats 1000000
def bmBx : Bx := ⟨0, 0, 0, 3000, 200, 400⟩
def legBx : Bx := ⟨100, 50, 50, 2100, 50, 50⟩
def coreBx : Bx := ⟨94, 44, 44, 2106, 56, 56⟩
theorem ok259 : Ok Tryz.prog 259 [.cp [vi 12] 0] (vi 6) := by
 refine zz 5 Tryz.func259 rfl Tryz.call259 rfl (zR (zo rfl (zw (zR (zo rfl (za rfl (step_sil (sil_quo rfl rfl rfl (by omega) (show i64R 6 from ⟨by omega, by omega⟩) ?_))))))))
 exact zo rfl (zw (Sat.ret (ze rfl rfl)))
theorem ok253 : Ok Tryz.prog 253 [vi 12] (.tp [vi 6, vi 0]) := by
 refine zz 9 Tryz.func253 rfl Tryz.call253 rfl (zR (zo rfl (zo rfl (zo rfl (zw (zR (zo rfl (zo rfl (step_call rfl rfl rfl (ok181 12 _ 259 (.cp [vi 12] 0) (by decide) ok259) ?_)))))))))
 exact zo rfl (zo rfl (zo rfl (zo rfl (zw (Sat.ret (ze rfl rfl))))))
theorem ok254 : Ok Tryz.prog 254 [.ag legBx.c, vi 6] (.tp [.ag coreBx.c, vi 0]) := by
 refine zz 58 Tryz.func254 rfl Tryz.call254 rfl (zR (zo rfl (zo rfl (zo rfl (zw (zq (zb rfl (zR (zo rfl ?_)))))))))
 refine zc rfl (ok48 legBx (by kernel_rfl)) (zo rfl (zo rfl (zw (zn rfl (rfl) (zR (zo rfl (zo rfl (zo rfl (zh rfl rfl rfl ?_)))))))))
 refine zh rfl rfl rfl (zP rfl rfl rfl (zo rfl (zw (zn rfl (rfl) (Sat.skip (nb (nq (zR (zo rfl ?_)))))))))
 refine zo rfl (zo rfl (zo rfl (zS rfl (by first | (constructor <;> omega) | (constructor <;> decide)) (zo rfl (zo rfl (zo rfl (zo rfl (zS rfl (by first | (constructor <;> omega) | (constructor <;> decide)) (zo rfl ?_)))))))))
 refine zo rfl (zo rfl (zo rfl (zS rfl (by first | (constructor <;> omega) | (constructor <;> decide)) (zo rfl (zo rfl (zd rfl rfl (zw (zR (zo rfl ?_)))))))))
 refine zo rfl (zo rfl (zo rfl (zA rfl (by first | (constructor <;> omega) | (constructor <;> decide)) (zo rfl (zo rfl (zo rfl (zo rfl (zA rfl (by first | (constructor <;> omega) | (constructor <;> decide)) (zo rfl ?_)))))))))
 refine zo rfl (zo rfl (zo rfl (zA rfl (by first | (constructor <;> omega) | (constructor <;> decide)) (zo rfl (zo rfl (zd rfl rfl (zw (zq (zR (zo rfl ?_))))))))))
 refine zc rfl (ok48 coreBx (by kernel_rfl)) (zo rfl (zw (zn rfl (rfl) (zk (zR (zo rfl (zd rfl rfl (zo rfl (zw (Sat.ret ?_))))))))))
 exact ze rfl rfl
theorem ok230 : Ok Tryz.prog 230 [vi 12, .ag legBx.c] (.tp [.ag coreBx.c, .bool true]) := by
 refine zz 26 Tryz.func230 rfl Tryz.call230 rfl (zR (zo rfl (zo rfl (zo rfl (zw (zR (zo rfl (zc rfl ok253 (zo rfl ?_)))))))))
 refine zo rfl (zo rfl (zo rfl (zo rfl (zw (zq (zR (zo rfl (zo rfl (zw (zn rfl (rfl) ?_))))))))))
 refine zk (zR (zo rfl (zo rfl (zc rfl ok254 (zo rfl (zo rfl (zo rfl (zo rfl (zd rfl rfl ?_)))))))))
 refine zo rfl (zw (zR (zo rfl (zo rfl (zo rfl (zd rfl rfl (zo rfl (zw (Sat.ret ?_)))))))))
 exact ze rfl rfl
def gB (b : Bx) (c : Int) : Bx := ⟨b.lx - c, b.ly - c, b.lz - c, b.hx + c, b.hy + c, b.hz + c⟩
theorem ok233 (c : Int) (h0 : 0 ≤ c) (h1 : c ≤ 4194304) : Ok Tryz.prog 233 [.ag coreBx.c, vi c] (.ag (gB coreBx c).c) := by
 refine zz 48 Tryz.func233 rfl Tryz.call233 rfl (zR (zo rfl (zo rfl (zw (zR (zo rfl (zo rfl (zo rfl (zo rfl ?_)))))))))
 refine zS rfl (by constructor <;> simp only [coreBx] <;> omega) (zo rfl (zo rfl (zo rfl (zo rfl (zS rfl (by constructor <;> simp only [coreBx] <;> omega) (zo rfl (zo rfl (zo rfl (zo rfl ?_)))))))))
 refine zS rfl (by constructor <;> simp only [coreBx] <;> omega) (zo rfl (zo rfl (zd rfl rfl (zo rfl (zo rfl (zd rfl rfl (zo rfl (zo rfl (zd rfl rfl ?_)))))))))
 refine zw (zR (zo rfl (zo rfl (zo rfl (zo rfl (zA rfl (by constructor <;> simp only [coreBx] <;> omega) (zo rfl (zo rfl (zo rfl ?_)))))))))
 refine zo rfl (zA rfl (by constructor <;> simp only [coreBx] <;> omega) (zo rfl (zo rfl (zo rfl (zo rfl (zA rfl (by constructor <;> simp only [coreBx] <;> omega) (zo rfl (zo rfl (zd rfl rfl ?_)))))))))
 refine zo rfl (zo rfl (zd rfl rfl (zo rfl (zo rfl (zd rfl rfl (zw (zR (zo rfl (zd rfl rfl ?_)))))))))
 exact zw (Sat.ret (ze rfl rfl))
theorem ok232 (c : Int) (h0 : 0 ≤ c) (h1 : c ≤ 4194304) : Ok Tryz.prog 232 [vi c, .cp coreBx.c 0] (.ag (gB coreBx c).c) := by
 refine zz 7 Tryz.func232 rfl Tryz.call232 rfl (zR (zo rfl (zw (zR (zo rfl (zo rfl (zc rfl (ok233 c h0 h1) (zd rfl rfl (zw (Sat.ret ?_))))))))))
 exact ze rfl rfl
theorem ok48n (b : Bx) (h : 1048576 < b.hx) : Ok Tryz.prog 48 [.ag b.c] (.bool false) := by
 refine zz 27 Tryz.func48 rfl Tryz.call48 rfl (zR (zo rfl (zo rfl (zw (zq (zR (zo rfl (zw (Sat.loop' (fun i => i = 0) (fun i => ⟨27, lk [(1, .ptr 1 0), (6, .v (vi i))], lk [(1, ⟨.cells (b.c.map .v), false⟩)]⟩) (3) ?_ (rfl) (fun i hi hI => ?_) (fun hI => ?_))))))))))
 exact zv rfl rfl rfl rfl
 obtain rfl : i = 0 := hI
 have e : b.hi ((0 : Nat) : Int) = b.hx := rfl
 refine zR (zo rfl (zw (zq (zy rfl (by simp) (zk (zq (zb rfl (zR (zo rfl ?_)))))))))
 refine zo rfl (zw (zR (zo rfl (zo rfl (zc rfl (ok101 b _ (by omega) (by omega)) (zo rfl (zo rfl (zo rfl (zo rfl ?_)))))))))
 refine zo rfl (zw (zR (zo rfl (zo rfl (zo rfl (zo rfl (zF rfl (fun h1 => ?_) (fun h1 => ?_))))))))
 refine zO (fun _ => rfl) (zh rfl h1 rfl (zP rfl h1 rfl (zo rfl (zF rfl (fun h2 => ?_) (fun h2 => ?_)))))
 refine zO (fun _ => rfl) (zh rfl h2 rfl (zP rfl h2 rfl (zw (zC rfl (fun h3 => ?_) (fun h3 => ?_)))))
 exact zR (zo rfl (zw (Sat.ret (rb (rq (rs (rq (ze rfl rfl))))))))
 exact Sat.skip (nb (nq (zr (za rfl (zo rfl (wn (ns (by exfalso; rw [e] at *; first | (simp_all; done) | (simp_all; omega)) (zv rfl rfl rfl rfl))))))))
 refine zf rfl h2 (zp rfl h2 rfl (zw (zy rfl rfl (zR (zo rfl (zw (Sat.ret (rb (rq ?_)))))))))
 exact rs (rq (ze rfl rfl))
 refine zf rfl h1 (zp rfl h1 rfl (zo rfl (zf rfl rfl (zf rfl rfl (zp rfl rfl rfl (zw (zy rfl rfl (zR (zo rfl ?_)))))))))
 exact zw (Sat.ret (rb (rq (rs (rq (ze rfl rfl))))))
 exact absurd hI (by omega)
theorem ok268 (a b : Bx) : Ok Tryz.prog 268 [.ag a.c, .cp b.c 0] (.bool (a.contains b)) := by
 refine zz 7 Tryz.func268 rfl Tryz.call268 rfl (zR (zo rfl (zo rfl (zw (zR (zo rfl (zo rfl (zc rfl (ok248 a b) (zo rfl ?_)))))))))
 exact zw (Sat.ret (ze rfl rfl))
end Go.Proofs.YtamjajacnfmgeaaGreat
