/-
  Contracts: anchorage lengths. Condition: a valid rule.
  Contracts: hull of a solid, poor bond. Condition: a valid solid.
  Contracts: areas of sizes. Condition: a size.
  Contracts: lengths of legs. Condition: a valid bar.
  Contracts: laid.all's iterator, laid.path. Condition: runs valid in the reference.
-/
import Derived.Test.YtamjajacnfmgeaaGreatK26
set_option linter.all false
namespace Go.Proofs.YtamjajacnfmgeaaGreat
open Go Go.RowKit
set_option maxHeartbeats 1000000
def upF (n a d : Int) : Int := (n * a + d - 1).tdiv d
theorem upF_in {n a d N : Int} (hn : 0 ≤ n ∧ n ≤ N) (ha : 1 ≤ a ∧ a ≤ 1000) (hd : 1 ≤ d ∧ d ≤ 1000) : 0 ≤ upF n a d ∧ upF n a d ≤ N * 1000 + 999 := by
 have h1 := mul_in (a := n) (b := a) (A := N) (B := 1000) (by omega) (by omega)
 have h2 := Int.mul_nonneg hn.1 (show 0 ≤ a by omega)
 have h3 : 0 ≤ n * a + d - 1 := by omega
 unfold upF
 rw [Int.tdiv_eq_ediv_of_nonneg h3]
 have h4 := Int.ediv_nonneg h3 (show 0 ≤ d by omega)
 have h5 := Int.ediv_le_self d h3
 omega
theorem ok250 (n a d : Int) (hn : 0 ≤ n ∧ n ≤ 1099511627776) (ha : 1 ≤ a ∧ a ≤ 1000) (hd : 1 ≤ d ∧ d ≤ 1000) : Ok Tryz.prog 250 [vi n, vi a, vi d] (vi (upF n a d)) := by
 have h1 := mul_in (a := n) (b := a) (A := 1099511627776) (B := 1000) (by omega) (by omega)
 have h2 := Int.mul_nonneg hn.1 (show 0 ≤ a by omega)
 have h3 := upF_in hn ha hd
 refine zz 15 Tryz.func250 rfl Tryz.call250 rfl (zR (zo rfl (zw (zR (zo rfl (zo rfl (zm rfl (zo rfl (za rfl ?_)))))))))
 refine zs rfl (zo rfl (step_sil (sil_quo rfl rfl rfl (by omega) (show i64R (upF n a d) from ⟨by omega, by omega⟩) ?_)))
 exact zo rfl (zw (Sat.ret (ze rfl rfl)))
def basicF (r : Rul) (d : Int) : Int := mx r.least (upF d r.num r.den)
structure RulP (r : Rul) : Prop where
  num : 1 ≤ r.num ∧ r.num ≤ 1000
  den : 1 ≤ r.den ∧ r.den ≤ 1000
  pn : 1 ≤ r.pn ∧ r.pn ≤ 1000
  pd : 1 ≤ r.pd ∧ r.pd ≤ 1000
  bn : 1 ≤ r.bn ∧ r.bn ≤ 1000
  bd : 1 ≤ r.bd ∧ r.bd ≤ 1000
  least : 0 ≤ r.least ∧ r.least ≤ 1000
theorem rulP {r : Rul} (h : ruleOk r = true) : RulP r := by
 simp only [ruleOk, num1000, Bool.and_eq_true, decide_eq_true_eq] at h
 obtain ⟨⟨⟨⟨⟨⟨⟨⟨⟨⟨⟨⟨h1, h2⟩, h3⟩, h4⟩, h5⟩, h6⟩, h7⟩, h8⟩, h9⟩, h10⟩, h11⟩, h12⟩, h13⟩ := h
 exact ⟨h1, h2, h3, h4, h5, h6, h12, h13⟩
theorem basicF_in {r : Rul} (h : RulP r) {d : Int} (hd : 0 ≤ d ∧ d ≤ 40) : 0 ≤ basicF r d ∧ basicF r d ≤ 50000 := by
 have h1 := upF_in hd h.num h.den
 have h2 := le_mx r.least (upF d r.num r.den)
 have h3 := h.least
 unfold basicF
 omega
theorem ok249 (r : Rul) (h : RulP r) (d : Int) (hd : 0 ≤ d ∧ d ≤ 40) : Ok Tryz.prog 249 [.ag r.c, vi d] (vi (basicF r d)) := by
 refine zz 14 Tryz.func249 rfl Tryz.call249 rfl (zR (zo rfl (zo rfl (zw (zq (Sat.dr tabOk mixed (by kernel_rfl) (zO (fun _ => rfl) (zO (fun _ => rfl) (zO (fun _ => rfl) ?_)))))))))
 refine zO (fun _ => rfl) (zO (fun _ => rfl) (zO (fun _ => rfl) (zO (fun _ => rfl) (sil_call rfl rfl (fun _ => rfl) (fun _ => rfl) (ok250 _ _ _ (by omega) h.num h.den) (zO (fun _ => rfl) (zO (fun _ => rfl) (sn (nq (Sat.ret ?_)))))))))
 exact ze rfl rfl
def lenF (r : Rul) (d : Int) (poor bent : Bool) : Int :=
  mx (if bent then upF (if poor then upF (basicF r d) r.pn r.pd else basicF r d) r.bn r.bd else (if poor then upF (basicF r d) r.pn r.pd else basicF r d)) r.least
theorem ok227 (r : Rul) (h : RulP r) (d : Int) (hd : 0 ≤ d ∧ d ≤ 40) (p q : Bool) : Ok Tryz.prog 227 [.ag r.c, vi d, .bool p, .bool q] (vi (lenF r d p q)) := by
 have h1 := basicF_in h hd
 have h2 := upF_in h1 h.pn h.pd
 unfold lenF
 refine zz 31 Tryz.func227 rfl Tryz.call227 rfl (zR (zo rfl (zo rfl (zw (zR (zo rfl (zo rfl (zc rfl (ok249 r h d hd) (zo rfl ?_)))))))))
 refine zw (zq (zR (zo rfl (zw (zC rfl (fun h1 => ?_) (fun h1 => ?_))))))
 refine zr (zo rfl (zo rfl (zo rfl (zo rfl (zo rfl (zc rfl (ok250 _ _ _ (by omega) (by first | exact h.pn | exact h.bn) (by first | exact h.pd | exact h.bd)) (zo rfl (zw (zq (zR (zo rfl ?_)))))))))))
 refine zw (zC rfl (fun h2 => ?_) (fun h2 => ?_))
 refine zr (zo rfl (zo rfl (zo rfl (zo rfl (zo rfl (zc rfl (ok250 _ _ _ (by omega) (by first | exact h.pn | exact h.bn) (by first | exact h.pd | exact h.bd)) (zo rfl (zw (zR (zo rfl ?_))))))))))
 exact zo rfl (zo rfl (zo rfl (zo rfl (zw (Sat.ret (ze rfl (by subst_vars; rfl)))))))
 exact zk (zR (zo rfl (zo rfl (zo rfl (zo rfl (zo rfl (zw (Sat.ret (ze rfl (by subst_vars; rfl))))))))))
 refine zk (zq (zR (zo rfl (zw (zC rfl (fun h3 => ?_) (fun h3 => ?_))))))
 refine zr (zo rfl (zo rfl (zo rfl (zo rfl (zo rfl (zc rfl (ok250 _ _ _ (by omega) (by first | exact h.pn | exact h.bn) (by first | exact h.pd | exact h.bd)) (zo rfl (zw (zR (zo rfl ?_))))))))))
 exact zo rfl (zo rfl (zo rfl (zo rfl (zw (Sat.ret (ze rfl (by subst_vars; rfl)))))))
 exact zk (zR (zo rfl (zo rfl (zo rfl (zo rfl (zo rfl (zw (Sat.ret (ze rfl (by subst_vars; rfl))))))))))
end Go.Proofs.YtamjajacnfmgeaaGreat
namespace Go.Proofs.YtamjajacnfmgeaaGreat
open Go Go.RowKit
set_option maxHeartbeats 1000000
theorem solid_boxes {a h : List Bx} (hs : solidOk a h = true) : 1 ≤ a.length ∧ a.length ≤ 20 ∧ ∀ i : Nat, i < a.length → boxOk (gt a i) = true := by
 simp only [solidOk, Bool.and_eq_true, Bool.not_eq_true', decide_eq_false_iff_not] at hs
 obtain ⟨⟨⟨h1, h2⟩, h3⟩, h4, h5⟩ := hs
 refine ⟨by omega, by omega, fun i hi => ?_⟩
 have := allN_iff.1 h4 i hi
 simp only [thick, Bool.and_eq_true] at this
 exact this.1.1.1
theorem ok234 (a h : List Bx) (hs : solidOk a h = true) : Ok Tryz.prog 234 [.ag [.sl (a.map Bx.c), .sl (h.map Bx.c)]] (.tp [.ag (hullI a a.length).c, vi 0]) := by
 have hb := solid_boxes hs
 refine zz 13 Tryz.func234 rfl Tryz.call234 rfl (zR (zo rfl (zo rfl (zo rfl (zw (zq (zR (zo rfl (zc rfl (ok204 a h hs) ?_)))))))))
 refine zo rfl (zw (zn rfl (rfl) (zk (zR (zo rfl (zo rfl (zc rfl (ok162 a hb.1 (by omega) hb.2.2) (zo rfl (zo rfl ?_)))))))))
 exact zd rfl rfl (zo rfl (zw (Sat.ret (ze rfl rfl))))
def poorF (m : Mem) (b : Bx) : Bool := decide (b.lz - (hullI m.boxes m.boxes.length).lz > 250)
theorem hull_in {l : List Bx} (h : ∀ i : Nat, i < l.length → boxOk (gt l i) = true) (h1 : 1 ≤ l.length) : ∀ n, n ≤ l.length → -1048576 ≤ (hullI l n).lz ∧ (hullI l n).lz ≤ 1048576
  | 0, _ => by
    have := ax_at (h 0 (by omega)) (k := 2) (by omega) (by omega)
    exact this.1
  | n + 1, hn => by
    have h2 := hull_in h h1 n (by omega)
    have h3 := (ax_at (h n (by omega)) (k := 2) (by omega) (by omega)).1
    have h4 := mn_le (hullI l n).lz (gt l n).lz
    change -1048576 ≤ (gt l n).lz ∧ (gt l n).lz ≤ 1048576 at h3
    show -1048576 ≤ mn (hullI l n).lz (gt l n).lz ∧ mn (hullI l n).lz (gt l n).lz ≤ 1048576
    omega
theorem ok185 (m : Mem) (hm : solidOk m.boxes m.holes = true) (b : Bx) (hb : boxOk b = true) : Ok Tryz.prog 185 [.ag m.c, .ag b.c] (.bool (poorF m b)) := by
 have hs := solid_boxes hm
 have h1 := hull_in hs.2.2 hs.1 _ (Nat.le_refl _)
 have h2 := (ax_at hb (k := 2) (by omega) (by omega)).1
 change -1048576 ≤ b.lz ∧ b.lz ≤ 1048576 at h2
 refine zz 21 Tryz.func185 rfl Tryz.call185 rfl (zR (zo rfl (zo rfl (zo rfl (zw (zR (zo rfl (zo rfl (zc rfl (ok234 _ _ hm) ?_)))))))))
 refine zo rfl (zo rfl (zo rfl (zo rfl (zd rfl rfl (zo rfl (zw (zR (zo rfl (zo rfl ?_)))))))))
 exact zo rfl (zo rfl (zo rfl (zo rfl (zs rfl (zo rfl (zo rfl (zw (Sat.ret (ze rfl rfl)))))))))
end Go.Proofs.YtamjajacnfmgeaaGreat
namespace Go.Proofs.YtamjajacnfmgeaaGreat
open Go Go.RowKit
set_option maxHeartbeats 1000000
def areaF (d : Int) : Int := (7854 * d * d + 50).tdiv 100
theorem size_cases {d : Int} (h : isSize d = true) : d = 6 ∨ d = 8 ∨ d = 10 ∨ d = 12 ∨ d = 16 ∨ d = 20 ∨ d = 25 ∨ d = 32 ∨ d = 40 := by
 have h := of_decide_eq_true h
 unfold sizeI at h
 rcases findN_cases 9 fun i => gt sizesL i == d with ⟨e, _⟩ | ⟨i, e, h1, h2, _⟩
 · rw [e] at h; omega
 · have : i = 0 ∨ i = 1 ∨ i = 2 ∨ i = 3 ∨ i = 4 ∨ i = 5 ∨ i = 6 ∨ i = 7 ∨ i = 8 := by omega
   have h2 := eq_of_beq h2
   rcases this with rfl | rfl | rfl | rfl | rfl | rfl | rfl | rfl | rfl <;> subst h2 <;> decide
theorem areaF_in {d : Int} (h : isSize d = true) : 1 ≤ areaF d ∧ areaF d ≤ 200000 := by
 rcases size_cases h with rfl | rfl | rfl | rfl | rfl | rfl | rfl | rfl | rfl <;> decide
theorem ok222 (d : Int) (h : isSize d = true) : Ok Tryz.prog 222 [vi d] (vi (areaF d)) := by
 have ha := areaF_in h
 have h1 : i64R (7854 * d) := by rcases size_cases h with rfl | rfl | rfl | rfl | rfl | rfl | rfl | rfl | rfl <;> constructor <;> decide
 have h2 : i64R (7854 * d * d) := by rcases size_cases h with rfl | rfl | rfl | rfl | rfl | rfl | rfl | rfl | rfl <;> constructor <;> decide
 have h3 : i64R (7854 * d * d + 50) := by rcases size_cases h with rfl | rfl | rfl | rfl | rfl | rfl | rfl | rfl | rfl <;> constructor <;> decide
 refine zz 9 Tryz.func222 rfl Tryz.call222 rfl (zR (zo rfl (zw (zR (zo rfl (zM rfl (by assumption) (zo rfl (zM rfl (by assumption) (zA rfl (by assumption) ?_)))))))))
 refine step_sil (sil_quo rfl rfl rfl (by omega) (show i64R (areaF d) from ⟨by omega, by omega⟩) ?_)
 exact zo rfl (zw (Sat.ret (ze rfl rfl)))
theorem ok221 (d : Int) (h : isSize d = true) : Ok Tryz.prog 221 [.cp [vi d] 0] (vi (areaF d)) := by
 refine zz 4 Tryz.func221 rfl Tryz.call221 rfl (zR (zo rfl (zw (zR (zo rfl (zc rfl (ok222 d h) (zo rfl (zw (Sat.ret ?_)))))))))
 exact ze rfl rfl
theorem ok181 (d x : Int) (g : Nat) (c : V) (h : isSize d = true) (hg : Ok Tryz.prog g [c] (vi x)) : Ok Tryz.prog 181 [vi d, .fn g [c]] (.tp [vi x, vi 0]) := by
 refine zz 11 Tryz.func181 rfl Tryz.call181 rfl (zR (zo rfl (zo rfl (zw (zq (zR (zo rfl (zc rfl (ok229 d) (zo rfl ?_)))))))))
 refine zw (zn rfl (by rw [h]; rfl) (zk (zR (zo rfl (zc rfl hg (zo rfl (zo rfl (zw (Sat.ret ?_)))))))))
 exact ze rfl rfl
theorem ok176 (d : Int) (h : isSize d = true) : Ok Tryz.prog 176 [vi d] (.tp [vi (areaF d), vi 0]) := by
 refine zz 9 Tryz.func176 rfl Tryz.call176 rfl (zR (zo rfl (zo rfl (zo rfl (zw (zR (zo rfl (zo rfl (step_call rfl rfl rfl (ok181 d _ 221 (.cp [vi d] 0) h (ok221 d h)) ?_)))))))))
 exact zo rfl (zo rfl (zo rfl (zo rfl (zw (Sat.ret (ze rfl rfl))))))
end Go.Proofs.YtamjajacnfmgeaaGreat
namespace Go.Proofs.YtamjajacnfmgeaaGreat
open Go Go.RowKit
set_option maxHeartbeats 1000000
def legLens (b : Bar) : List Int := (List.range (legL b.code).length).map fun i : Nat => gt b.dims (gt (legL b.code) i).dim
theorem ok120 (b : Bar) (h : barOk b = true) : Ok Tryz.prog 120 [.ag b.c] (.tp [.sl ((legLens b).map ic), vi 0]) := by
 have hp := barP h
 have hpos := hp.pos
 have hlen := hp.len
 have hl := legL_len hpos
 refine zz 29 Tryz.func120 rfl Tryz.call120 rfl (zR (zo rfl (zo rfl (zo rfl (zw (zq (zR (zo rfl (zc rfl (ok179 b h) ?_)))))))))
 refine zo rfl (zw (zn rfl (rfl) (zk (zR (zo rfl (zw (zq (zR (zo rfl ?_)))))))))
 refine zo rfl (zc rfl (ok180 _) (zo rfl (zo rfl (zw (Sat.loop' (fun _ => True) (fun i => ⟨29, lk [(1, .ptr 1 0), (4, slD 26 1 ((List.range i).map fun j : Nat => ic (gt b.dims (gt (legL b.code) j).dim))), (12, .v (.sl ((legL b.code).map Lg.c))), (13, .v (vi ((legL b.code).map Lg.c).length)), (14, .v (vi i))], lkO [(1, some ⟨.cells (b.c.map .v), false⟩), (26, slS 1 ((List.range i).map fun j : Nat => ic (gt b.dims (gt (legL b.code) j).dim)))]⟩) ((legL b.code).length) ?_ (trivial) (fun i hi hI => ?_) (fun hI => ?_))))))
 exact weakO ⟨rfl, rfl, rfl, rfl, rfl, trivial⟩ ⟨so rfl, soS rfl, trivial⟩ (by repeat' (first | exact trivial | exact rfl | exact slD_ment rfl | exact moS | exact mo rfl | refine ⟨?_, ?_⟩)) (by repeat' (first | exact trivial | exact rfl | exact slD_ment rfl | exact moS | exact mo rfl | refine ⟨?_, ?_⟩))
 have hdm := legL_dim hpos i hi
 refine zR (zo rfl (zw (zq (zy rfl (by simp [hi]) (zk (zq (zb rfl (zR (zi rfl rfl rfl rfl rfl ?_)))))))))
 refine zo rfl (zo rfl (zd rfl rfl (zw (zr (zo rfl (zo rfl (zo rfl (zo rfl (zo rfl ?_)))))))))
 refine zi rfl rfl rfl rfl rfl (zo rfl (zo rfl ?_))
 first | (refine step_app1 rfl (by first | exact .inl rfl | (right; simp)) rfl rfl rfl rfl rfl rfl (by simp; omega) rfl ?_) | (refine step_op rfl rfl rfl ?_)
 exact zo rfl (wn (nb (nq (zr (za rfl (zo rfl (wn (ns trivial (weakO ⟨rfl, slD_eq rfl (rangeM_snoc _ _).symm, rfl, rfl, rfl, trivial⟩ ⟨so rfl, soA rfl (rangeM_snoc _ _).symm, trivial⟩ (by repeat' (first | exact trivial | exact rfl | exact slD_ment rfl | exact moS | exact mo rfl | refine ⟨?_, ?_⟩)) (by repeat' (first | exact trivial | exact rfl | exact slD_ment rfl | exact moS | exact mo rfl | refine ⟨?_, ?_⟩)))))))))))
 refine zR (zo rfl (zw (zq (zn rfl (by simp) (Sat.exit (xq (xe (nq (Sat.pubS 4 rfl rfl ?_)))))))))
 exact zR (zo rfl (zo rfl (zo rfl (zw (Sat.ret (ze rfl (by simp only [legLens, List.map_map]; rfl)))))))
end Go.Proofs.YtamjajacnfmgeaaGreat
namespace Go.Proofs.YtamjajacnfmgeaaGreat
open Go Go.RowKit
set_option maxHeartbeats 1000000
theorem ok211 (bars : List Bar) (runs : List Run) : Ok Tryz.prog 211 [.sl (bars.map Bar.c), .sl (runs.map Run.c)] (.fn 243 [.cp [.sl (runs.map Run.c)] 0, .cp [.sl (bars.map Bar.c)] 0]) := by
 refine zz 6 Tryz.func211 rfl Tryz.call211 rfl (zR (zo rfl (zo rfl (zo rfl (zw (zR (zo rfl (zo rfl (zw (Sat.ret ?_))))))))))
 exact ze rfl rfl
def rowsP (b : Bar) (r : Run) (c : Int) (j : Nat) : List (List V) := (List.range j).map (fun q : Nat => (ptOf b r c q).c) ++ List.replicate ((movesOf b).length + 1 - j) [vi 0, vi 0, vi 0]
theorem rowsP_len (b : Bar) (r : Run) (c : Int) {j : Nat} (h : j ≤ (movesOf b).length + 1) : (rowsP b r c j).length = (movesOf b).length + 1 := by
 simp [rowsP]; omega
theorem rowsP_at (b : Bar) (r : Run) (c : Int) {j : Nat} (h : j < (movesOf b).length + 1) : (rowsP b r c j)[j]? = some [vi 0, vi 0, vi 0] := by
 unfold rowsP
 rw [List.getElem?_append_right (by simp), List.getElem?_replicate]
 rw [if_pos (by simp; omega)]
theorem rowsP_set (b : Bar) (r : Run) (c : Int) {j : Nat} (h : j < (movesOf b).length + 1) : (rowsP b r c j).set j (ptOf b r c j).c = rowsP b r c (j + 1) := by
 unfold rowsP
 rw [List.set_append_right _ _ (by simp), rangeM_snoc]
 simp only [List.length_map, List.length_range, Nat.sub_self]
 rw [show (movesOf b).length + 1 - j = ((movesOf b).length + 1 - (j + 1)) + 1 by omega, List.replicate_succ, List.set_cons_zero, List.append_assoc]; rfl
theorem rowsP_all (b : Bar) (r : Run) (c : Int) : rowsP b r c ((movesOf b).length + 1) = (ptsOf b r c).map Pt.c := by
 unfold rowsP ptsOf
 rw [Nat.sub_self, List.map_map]; simp
theorem ev_i {o : Option D} {x y : Int} (h : o = some (.v (.int .i64 x))) (e : x = y) : o = some (.v (.int .i64 y)) := e ▸ h
theorem preC_succ (runs : List Run) (i : Nat) : preC runs (i + 1) = preC runs i + (gt runs (i : Int)).count := rfl
theorem pts_at {bars : List Bar} {runs : List Run} (hp : RunsP bars runs) {i : Nat} (hi : i < runs.length) {c : Nat} (hc : c < (gt runs (i : Int)).count.toNat) {n : Int} (hn : preC runs i + (c : Int) = n) : ptsAt bars runs n = ptsOf (barOf bars (gt runs (i : Int))) (gt runs (i : Int)) c := by
 have h0 := hp.pre (show i ≤ runs.length by omega)
 have hs := preC_succ runs i
 have hm := preC_mono hp (show i + 1 ≤ runs.length by omega) (Nat.le_refl _)
 obtain ⟨a1, a2, a3, a4⟩ := place_spec hp (n := n) (by omega) (by unfold total; omega)
 have hs2 := preC_succ runs (plK runs n)
 have e : plK runs n = i := by
   rcases Nat.lt_trichotomy (plK runs n) i with h | h | h
   · have := preC_mono hp (show plK runs n + 1 ≤ i by omega) (by omega); omega
   · exact h
   · have := preC_mono hp (show i + 1 ≤ plK runs n by omega) (by omega); omega
 have e2 : plJ runs n = c := by unfold plJ; rw [e]; omega
 unfold ptsAt barAt runAt
 rw [e, e2]
theorem rp_zero {b : Bar} {r : Run} {c : Nat} {j : Nat} (h : j < (movesOf b).length + 1) (e0 : plusP (gt (turnL b r) (j : Int)) ⟨r.ax, r.ay, r.az⟩ 1 = ptOf b r 0 j) (hc : (0 : Int) ≤ c) (h1 : decide ((c : Int) > 0) = false) : (rowsP b r c j).set j (plusP (gt (turnL b r) (j : Int)) ⟨r.ax, r.ay, r.az⟩ 1).c = rowsP b r c (j + 1) := by
 have h1 := of_decide_eq_false h1
 have e : (c : Int) = 0 := by omega
 rw [e0, e]; exact rowsP_set b r 0 h
theorem rp_step {b : Bar} {r : Run} {c : Nat} {j : Nat} (h : j < (movesOf b).length + 1) (e0 : plusP (gt (turnL b r) (j : Int)) ⟨r.ax, r.ay, r.az⟩ 1 = ptOf b r 0 j) (h1 : decide ((c : Int) > 0) = true) : ((rowsP b r c j).set j (plusP (gt (turnL b r) (j : Int)) ⟨r.ax, r.ay, r.az⟩ 1).c).set j (plusP (plusP (gt (turnL b r) (j : Int)) ⟨r.ax, r.ay, r.az⟩ 1) ⟨r.sx, r.sy, r.sz⟩ c).c = rowsP b r c (j + 1) := by
 rw [List.set_set, e0, plus_step b r (of_decide_eq_true h1)]; exact rowsP_set b r c h
theorem sx243 (bars : List Bar) (runs : List Run) (h : runsOk bars runs = true) (n : Int) (hn0 : 0 ≤ n) (hn : n < total runs) (l : Nat) (Φ : Fr) (XW : World → Prop)
  (hG : ∀ (k : Int) (W : World) (E : Env) (s : Store) (v : Value), k ≠ n → SR Φ W E s → YieldAt Fence.wide 0 Tryz.prog l #[.int .i64 k, v] W fun e W' => e = .returned (.bool true) ∧ W' = W)
  (hS : ∀ (W : World) (E : Env) (s : Store) (v : Value), SR Φ W E s → RV W E.ok (.sl ((ptsAt bars runs n).map Pt.c)) v → YieldAt Fence.wide 0 Tryz.prog l #[.int .i64 n, v] W fun e W' => e = .returned (.bool false) ∧ XW W') :
  ∀ c, Tryz.f243.body = some c → SX Tryz.prog Φ (fun a W => a.defers = [] ∧ XW W) c ⟨66, lk [(0, .v (.yl l)), (1, .v (.cp [.sl (runs.map Run.c)] 0)), (2, .v (.cp [.sl (bars.map Bar.c)] 0))], lk []⟩ (fun _ _ => False) := by
 intro c hc
 cases hc
 have hp := runsP h
 have hbo := (runsOk_parts h).1
 have hro := (runsOk_parts h).2
 have hrl := hp.rl
 have htt := hp.tot
 skip
 refine SX.seq (SX.region tabOk (zo rfl (zw (SX.seq (SX.region tabOk (zo rfl (zo rfl (zo rfl (zw (SX.loop' (fun z => preC runs z ≤ n) (fun i => ⟨66, lk [(0, .v (.yl l)), (2, .v (.cp [.sl (bars.map Bar.c)] 0)), (12, .v (.sl (runs.map Run.c))), (13, .v (vi (runs.map Run.c).length)), (14, .v (vi i)), (4, .v (vi (preC runs i)))], lk []⟩) (runs.length) ?_ (by simpa [preC, sumI] using hn0) (fun i hi hI => ?_) (fun hI => ?_)))))))))))
 exact zv rfl rfl rfl rfl
 have hr := hro i hi
 have hv := hp.rp i hi
 have hcn := hv.cnt
 have hAt := hv.p.at'
 have hbb := hp.bar hi
 have hpi := preC_succ runs i
 have hpb := hp.pre (show i ≤ runs.length by omega)
 have hml := moves_len (barOf bars (gt runs (i : Int)))
 have htl : (turnL (barOf bars (gt runs (i : Int))) (gt runs (i : Int))).length = ((movesOf (barOf bars (gt runs (i : Int)))).length + 1) := by simp [turnL]
 have hlv : (((((turnL (barOf bars (gt runs (i : Int))) (gt runs (i : Int))).map Pt.c).length : Nat)) : Int) = ((((movesOf (barOf bars (gt runs (i : Int)))).length + 1) : Nat) : Int) := by rw [List.length_map, htl]
 refine SX.seq (SX.region tabOk (zo rfl (zw (SX.seq (SX.condT rfl (by simp [hi]) (SX.skip (nq (SX.seq (SX.blk rfl ?_)))))))))
 refine SX.seq (SX.region tabOk (zi rfl rfl rfl rfl rfl (zo rfl (zo rfl (zd rfl rfl (zw (SX.seq (SX.region tabOk (zo rfl ?_)))))))))
 refine zo rfl (zc rfl (ok218 bars (gt runs (i : Int)) hbo hr) (zo rfl (zw (SX.seq (SX.region tabOk (zo rfl (zo rfl (zo rfl (zw (SX.loop' (fun z => preC runs i + (z : Int) ≤ n) (fun c => ⟨66, lk [(0, .v (.yl l)), (2, .v (.cp [.sl (bars.map Bar.c)] 0)), (12, .v (.sl (runs.map Run.c))), (13, .v (vi (runs.map Run.c).length)), (14, .v (vi i)), (4, .v (vi (preC runs i + (c : Int)))), (6, .ptr 6 0), (7, .v (.sl ((turnL (barOf bars (gt runs (i : Int))) (gt runs (i : Int))).map Pt.c))), (22, .v (vi (gt runs (i : Int)).count)), (23, .v (vi c))], lk [(6, ⟨.cells ((gt runs (i : Int)).c.map .v), false⟩)]⟩) ((gt runs (i : Int)).count.toNat) ?_ (by simpa using hI) (fun c hc hC => ?_) (fun hC => ?_)))))))))))
 exact weak_of ⟨rfl, rfl, rfl, rfl, rfl, int_eq rfl (by simp), rfl, rfl, rfl, rfl, trivial⟩ ⟨rfl, trivial⟩ rfl rfl
 have hc0 : (0 : Int) ≤ c := by omega
 refine SX.seq (SX.region tabOk (zo rfl (zw (SX.seq (SX.condT rfl (by simp; omega) (SX.skip (nq (SX.seq (SX.blk rfl ?_)))))))))
 refine SX.seq (SX.region tabOk (zo rfl (zo rfl (zw (SX.seq (SX.region tabOk (zo rfl (zo rfl (step_mk (L := ((movesOf (barOf bars (gt runs (i : Int)))).length + 1)) rfl rfl (ev_i rfl hlv) (ev_i rfl hlv) (by omega) (by have := moves_len (barOf bars (gt runs (i : Int))); omega) rfl rfl rfl ?_)))))))))
 refine zo rfl (zw (SX.seq (SX.seq (SX.region tabOk (zo rfl (zo rfl (zo rfl (zw (SX.loop' (fun _ => True) (fun j => ⟨66, lk [(0, .v (.yl l)), (2, .v (.cp [.sl (bars.map Bar.c)] 0)), (12, .v (.sl (runs.map Run.c))), (13, .v (vi (runs.map Run.c).length)), (14, .v (vi i)), (4, .v (vi (preC runs i + (c : Int)))), (6, .ptr 6 0), (7, .v (.sl ((turnL (barOf bars (gt runs (i : Int))) (gt runs (i : Int))).map Pt.c))), (8, .v (vi c)), (9, .osl 28 3 ((movesOf (barOf bars (gt runs (i : Int)))).length + 1) 0 ((movesOf (barOf bars (gt runs (i : Int)))).length + 1)), (22, .v (vi (gt runs (i : Int)).count)), (23, .v (vi c)), (29, .v (.sl ((turnL (barOf bars (gt runs (i : Int))) (gt runs (i : Int))).map Pt.c))), (30, .v (vi ((turnL (barOf bars (gt runs (i : Int))) (gt runs (i : Int))).map Pt.c).length)), (31, .v (vi j))], lk [(6, ⟨.cells ((gt runs (i : Int)).c.map .v), false⟩), (28, ⟨.sl 3 (rowsP (barOf bars (gt runs (i : Int))) (gt runs (i : Int)) c j), false⟩)]⟩) (((movesOf (barOf bars (gt runs (i : Int)))).length + 1)) ?_ (trivial) (fun j hj hJ => ?_) (fun hJ => ?_))))))))))
 exact zv rfl rfl rfl rfl
 have hj2 : j < ((movesOf (barOf bars (gt runs (i : Int)))).length + 1) := hj
 have HLj := rowsP_len (barOf bars (gt runs (i : Int))) (gt runs (i : Int)) c (show j ≤ ((movesOf (barOf bars (gt runs (i : Int)))).length + 1) by omega)
 have e0 : plusP (gt (turnL (barOf bars (gt runs (i : Int))) (gt runs (i : Int))) (j : Int)) ⟨(gt runs (i : Int)).ax, (gt runs (i : Int)).ay, (gt runs (i : Int)).az⟩ 1 = ptOf (barOf bars (gt runs (i : Int))) (gt runs (i : Int)) 0 j := by rw [turn_gt hj2, plus_at]
 have hq : (gt (turnL (barOf bars (gt runs (i : Int))) (gt runs (i : Int))) (j : Int)).In 2097152 := by rw [turn_gt hj2]; exact img_in (posAt_in2 hbb.2.2 (by omega))
 have hq0 : (plusP (gt (turnL (barOf bars (gt runs (i : Int))) (gt runs (i : Int))) (j : Int)) ⟨(gt runs (i : Int)).ax, (gt runs (i : Int)).ay, (gt runs (i : Int)).az⟩ 1).In 1048576 := by rw [e0]; exact near_pts (runOk_near hr).1 hj2
 have HLs : ((rowsP (barOf bars (gt runs (i : Int))) (gt runs (i : Int)) c j).set j (plusP (gt (turnL (barOf bars (gt runs (i : Int))) (gt runs (i : Int))) (j : Int)) ⟨(gt runs (i : Int)).ax, (gt runs (i : Int)).ay, (gt runs (i : Int)).az⟩ 1).c).length = ((movesOf (barOf bars (gt runs (i : Int)))).length + 1) := by rw [List.length_set]; exact HLj
 have hat : ((rowsP (barOf bars (gt runs (i : Int))) (gt runs (i : Int)) c j).set j (plusP (gt (turnL (barOf bars (gt runs (i : Int))) (gt runs (i : Int))) (j : Int)) ⟨(gt runs (i : Int)).ax, (gt runs (i : Int)).ay, (gt runs (i : Int)).az⟩ 1).c)[j]? = some (plusP (gt (turnL (barOf bars (gt runs (i : Int))) (gt runs (i : Int))) (j : Int)) ⟨(gt runs (i : Int)).ax, (gt runs (i : Int)).ay, (gt runs (i : Int)).az⟩ 1).c := List.getElem?_set_self (by omega)
 refine SX.seq (SX.region tabOk (zo rfl (zw (SX.seq (SX.condT rfl (by simp [turnL]; omega) (SX.skip (nq (SX.seq (SX.blk rfl ?_)))))))))
 refine SX.seq (SX.region tabOk (zo rfl (zi rfl rfl rfl rfl rfl (zo rfl (zo rfl (zo rfl (zd rfl rfl (zw (SX.seq ?_)))))))))
 refine SX.region tabOk (zo rfl (zo rfl (zo rfl (zo rfl (zo rfl (zc rfl (ok219 _ ⟨(gt runs (i : Int)).ax, (gt runs (i : Int)).ay, (gt runs (i : Int)).az⟩ 1 (hq.mono (by omega)) (hAt.mono (by omega)) (by omega)) (step_sil (sil_ixO rfl rfl rfl rfl (fun _ => rfl) HLj (by omega) (by omega) ?_))))))))
 refine step_stO rfl rfl rfl rfl HLj (show (0 + ((j : Nat) : Int).toNat) * 3 = j * 3 + 0 by rw [Nat.zero_add, Int.toNat_natCast]; rfl) rfl (rowsP_at _ _ _ hj2) rfl (zw (SX.seq (SX.region tabOk (zo rfl (zo rfl (zw (SX.cond rfl (fun h1 => ?_) (fun h1 => ?_))))))))
 refine SX.dwN tabOk mixed [6, 28] [11] [0, 1, 2, 3, 4, 5, 6, 7, 8, 9, 10, 11] (by decide) (by kernel_rfl) (walk_sil rfl rfl (zO (fun _ => rfl) ?_))
 refine walk_sil rfl rfl (zO (fun _ => rfl) ?_)
 refine walk_sil rfl rfl (zO (fun _ => rfl) ?_)
 refine walk_sil rfl rfl (zO (fun _ => rfl) ?_)
 refine walk_sil rfl rfl (sil_ixO rfl rfl rfl rfl (fun _ => rfl) HLs (by omega) (by omega) ?_)
 refine walk_sil rfl rfl (sil_ldO rfl rfl rfl (fun _ => rfl) HLs (show (0 + ((j : Nat) : Int).toNat) * 3 = j * 3 + 0 by rw [Nat.zero_add, Int.toNat_natCast]; rfl) rfl hat rfl ?_)
 refine walk_sil rfl rfl (zO (fun _ => rfl) ?_)
 refine walk_sil rfl rfl (zO (fun _ => rfl) ?_)
 refine walk_sil rfl rfl (zO (fun _ => rfl) ?_)
 refine walk_sil rfl rfl (sil_call rfl rfl (fun _ => rfl) (fun _ => rfl) (ok219 (plusP (gt (turnL (barOf bars (gt runs (i : Int))) (gt runs (i : Int))) (j : Int)) ⟨(gt runs (i : Int)).ax, (gt runs (i : Int)).ay, (gt runs (i : Int)).az⟩ 1) ⟨(gt runs (i : Int)).sx, (gt runs (i : Int)).sy, (gt runs (i : Int)).sz⟩ c (hq0.mono (by omega)) ((hv.st (by have := of_decide_eq_true h1; omega)).mono (by omega)) (by omega)) ?_)
 refine walk_sil rfl rfl (sil_ixO rfl rfl rfl rfl (fun _ => rfl) HLs (by omega) (by omega) ?_)
 refine walk_eff rfl rfl (step_stO rfl rfl rfl rfl HLs (show (0 + ((j : Nat) : Int).toNat) * 3 = j * 3 + 0 by rw [Nat.zero_add, Int.toNat_natCast]; rfl) rfl hat rfl ⟨lastly_no (by kernel_rfl), ?_⟩)
 refine kn (nb (nq ?_))
 first | have hr1 := rp_step hj2 e0 h1 | have hr1 := rp_zero hj2 e0 hc0 h1
 exact SX.region tabOk (za rfl (zo rfl (wn (ns trivial (weak_of ⟨rfl, rfl, rfl, rfl, rfl, rfl, rfl, rfl, rfl, rfl, rfl, rfl, rfl, rfl, rfl, trivial⟩ ⟨rfl, ent_eq rfl hr1, trivial⟩ rfl rfl)))))
 refine SX.skip (nb (nq ?_))
 first | have hr1 := rp_step hj2 e0 h1 | have hr1 := rp_zero hj2 e0 hc0 h1
 exact SX.region tabOk (za rfl (zo rfl (wn (ns trivial (weak_of ⟨rfl, rfl, rfl, rfl, rfl, rfl, rfl, rfl, rfl, rfl, rfl, rfl, rfl, rfl, rfl, trivial⟩ ⟨rfl, ent_eq rfl hr1, trivial⟩ rfl rfl)))))
 refine SX.seq (SX.region tabOk (zo rfl (zw (SX.seq (SX.condF rfl (by simp [turnL]) (SX.exit (xq (xe (nq ?_)))))))))
 refine SX.pub (t := 9) rfl (pub_oslF rfl (rowsP_len (barOf bars (gt runs (i : Int))) (gt runs (i : Int)) c (Nat.le_refl _))) ?_
 rw [rowsP_all]
 refine SX.seq ?_
 by_cases hkn : preC runs i + (c : Int) = n
 exact SX.yieldS tabOk rfl rfl rfl rfl (fun W E v hs hv => by rw [hkn]; exact hS W E _ v hs (by rw [pts_at hp hi hc hkn]; exact hv))
 refine SX.yieldG tabOk rfl rfl rfl rfl (fun W E v hs => hG _ W E _ v hkn hs) (nq (SX.region tabOk (zo rfl (za rfl (zo rfl (wn (nb (nq (SX.region tabOk ?_)))))))))
 exact za rfl (zo rfl (wn (ns (by omega) (weak_of ⟨rfl, rfl, rfl, rfl, rfl, int_eq rfl (by omega), rfl, rfl, rfl, rfl, trivial⟩ ⟨rfl, trivial⟩ rfl rfl))))
 refine SX.seq (SX.region tabOk (zo rfl (zw (SX.seq (SX.condF rfl (by simp; omega) (SX.exit (xq (xe (nb ?_)))))))))
 refine nq ?_
 have hIe : preC runs (i + 1) ≤ n := by rw [hpi]; omega
 have hke : preC runs i + (((gt runs (i : Int)).count.toNat : Nat) : Int) = preC runs (i + 1) := by rw [hpi]; omega
 exact SX.region tabOk (za rfl (zo rfl (wn (ns (hIe) (weak_of ⟨rfl, rfl, rfl, rfl, rfl, int_eq rfl hke, trivial⟩ trivial rfl rfl)))))
 refine SX.seq (SX.region tabOk (zo rfl (zw (SX.seq (SX.condF rfl (by simp) (SX.exit (xq (xe ?_))))))))
 exact absurd hn (by have : preC runs runs.length ≤ n := hI; unfold total; omega)
end Go.Proofs.YtamjajacnfmgeaaGreat
