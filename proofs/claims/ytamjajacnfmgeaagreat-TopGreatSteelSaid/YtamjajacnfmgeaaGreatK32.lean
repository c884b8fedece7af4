/-
  Contracts: anchorage of both ends in the program. Condition: a valid rule, member, and bar.
-/
import Derived.Test.YtamjajacnfmgeaaGreatK31
set_option linter.all false
namespace Go.Proofs.YtamjajacnfmgeaaGreat
open Go Go.RowKit
set_option maxHeartbeats 1000000
theorem ok224 (b : Bx) (h : boxOk b = true) : Ok Tryz.prog 224 [.ag b.c] (.bool false) := by
 refine zz 6 Tryz.func224 rfl Tryz.call224 rfl (zR (zo rfl (zo rfl (zw (zR (zo rfl (zc rfl (ok48 b h) (zo rfl (zo rfl ?_)))))))))
 exact zw (Sat.ret (ze rfl rfl))
theorem ok99a (l : List Bx) (hl : l.length ≤ 1000) : Ok Tryz.prog 99 [.sl (l.map Bx.c), .fn 225 []] (vi (mainIx l)) :=
  ok99_0 l (by omega) 225 (fun i => isMain (gt l i)) fun i _ => ok225 _
theorem ok223a (l : List Bx) (hl : l.length ≤ 1000) (h : ∀ i : Nat, i < l.length → boxOk (gt l i) = true) : Ok Tryz.prog 223 [.sl (l.map Bx.c), .fn 224 []] (.bool false) := by
 have := ok223_0 l (by omega) 224 (fun _ => false) fun i hi => ok224 _ (h i hi)
 rwa [find_no] at this
def touch (l : List Bx) (n : Int) (e : Pt) : Bool := if (decide (n < 0) || decide (n ≥ l.length)) = true then false else (gt l n).contains (ptBx e)
def bentN (l : List Bx) (k : Int) (e : Pt) : Nat → Bool
  | 0 => false
  | 1 => touch l (k - 1) e
  | _ => touch l (k - 1) e || touch l (k + 1) e
def Bx.loP (b : Bx) : Pt := ⟨b.lx, b.ly, b.lz⟩
def Bx.hiP (b : Bx) : Pt := ⟨b.hx, b.hy, b.hz⟩
def mainOf (l : List Bx) : Bx := gt l (mainIx l)
def bentLo (l : List Bx) : Bool := bentN l (mainIx l) (mainOf l).loP 2
def bentHi (l : List Bx) : Bool := bentN l (mainIx l) (mainOf l).hiP 2
def endLo (r : Rul) (m : Mem) (b : Bar) (l : List Bx) : Int := lenF r b.size (poorF m (mainOf l)) (bentLo l)
def endHi (r : Rul) (m : Mem) (b : Bar) (l : List Bx) : Int := lenF r b.size (poorF m (mainOf l)) (bentHi l)
theorem bent2 {l : List Bx} {k : Int} {e : Pt} (h : touch l (k - 1) e = false) (h1 : 0 ≤ k + 1) (h2 : k + 1 < l.length) : (gt l (k + 1)).contains (ptBx e) = bentN l k e 2 := by
 show _ = (touch l (k - 1) e || touch l (k + 1) e)
 rw [h, Bool.false_or]
 unfold touch
 rw [if_neg (by simp; omega)]
theorem cells8_eq {s : Store} {t : Nat} {a1 a2 a3 b1 b2 b3 : Int} {p p' q q' : Bool} {z : Bool} (h : s t = some ⟨.cells [.v (vi a1), .v (vi a2), .v (vi a3), .v (.bool p), .v (vi b1), .v (vi b2), .v (vi b3), .v (.bool q)], z⟩) (e1 : p = p') (e2 : q = q') :
    s t = some ⟨.cells [.v (vi a1), .v (vi a2), .v (vi a3), .v (.bool p'), .v (vi b1), .v (vi b2), .v (vi b3), .v (.bool q')], z⟩ := by subst e1 e2; exact h
theorem boxOk_loP {b : Bx} (h : boxOk b = true) : boxOk (ptBx b.loP) = true ∧ boxOk (ptBx b.hiP) = true := by
 have h0 := ax_at h (k := 0) (by omega) (by omega)
 have h1 := ax_at h (k := 1) (by omega) (by omega)
 have h2 := ax_at h (k := 2) (by omega) (by omega)
 simp only [Bx.lo, Bx.hi, ax3] at h0 h1 h2
 simp at h0 h1 h2
 constructor <;> apply boxOk_of <;> simp only [ptBx, Bx.loP, Bx.hiP] <;> omega
theorem size_in {d : Int} (h : isSize d = true) : 0 ≤ d ∧ d ≤ 40 := by
 rcases size_cases h with rfl | rfl | rfl | rfl | rfl | rfl | rfl | rfl | rfl <;> omega
theorem barOk_size {b : Bar} (h : barOk b = true) : isSize b.size = true := by
 simp only [barOk, Bool.and_eq_true] at h
 exact h.1.1.1.1.1.2
theorem memOk_solid {m : Mem} (h : memOk m = true) : solidOk m.boxes m.holes = true := by
 simp only [memOk, Bool.and_eq_true] at h
 exact h.1.1.1.1.1.1.2
theorem ok177 (r : Rul) (m : Mem) (b : Bar) (l : List Bx) (hr : ruleOk r = true) (hm : memOk m = true) (hb : barOk b = true) (hl : l.length ≤ 1000) (hlen : (legLens b).length = l.length) (hbox : ∀ i : Nat, i < l.length → boxOk (gt l i) = true) (hk : 0 ≤ mainIx l) :
  Ok Tryz.prog 177 [.ag r.c, .ag m.c, .ag b.c, .sl (l.map Bx.c)] (.tp [vi (endLo r m b l), vi (endHi r m b l), vi 0]) := by
 have hki : mainIx l < l.length := (findN_lt l.length fun i => isMain (gt l i)).2
 have hbx : ∀ k : Int, 0 ≤ k → k < l.length → boxOk (gt l k) = true := fun k h0 h1 => by
   have := hbox k.toNat (by omega)
   rwa [show ((k.toNat : Nat) : Int) = k by omega] at this
 have hmb := hbx _ hk hki
 have hpt := boxOk_loP hmb
 have hsz := size_in (barOk_size hb)
 refine zz 133 Tryz.func177 rfl Tryz.call177 rfl (zR (zo rfl (zo rfl (zo rfl (zo rfl (zo rfl (zo rfl (zw (zq (zq (Sat.to tabOk (⟨133, lk [(3, .v (.sl (l.map Bx.c))), (4, .ptr 4 0), (5, .ptr 5 0), (6, .ptr 6 0), (38, .v (.bool false))], lk [(4, ⟨.cells (r.c.map .v), false⟩), (5, ⟨.cells (m.c.map .v), false⟩), (6, ⟨.cells (b.c.map .v), false⟩)]⟩) ?_ ?_)))))))))))
 refine zo rfl (zc rfl (ok158 r hr) (zo rfl (zo rfl (zF rfl (fun h1 => ?_) (fun h1 => ?_)))))
 refine zO (fun _ => rfl) (step_sil (sil_on rfl h1 (sil_call rfl rfl (fun _ => rfl) (fun _ => rfl) (ok156 m hm) ?_)))
 refine zh rfl h1 rfl (zP rfl h1 rfl (zo rfl (zF rfl (fun h2 => ?_) (fun h2 => ?_))))
 refine zO (fun _ => rfl) (step_sil (sil_on rfl h2 (sil_call rfl rfl (fun _ => rfl) (fun _ => rfl) (ok179 b hb) ?_)))
 refine zh rfl h2 rfl (zP rfl h2 rfl (zo rfl (zF rfl (fun h3 => ?_) (fun h3 => ?_))))
 refine zO (fun _ => rfl) (step_sil (sil_on rfl h3 (sil_call rfl rfl (fun _ => rfl) (fun _ => rfl) (ok223a l hl hbox) ?_)))
 exact zP rfl h3 rfl (wn (weak_of ⟨rfl, rfl, rfl, rfl, bool_eq rfl (by first | rfl | (simp_all; done)), trivial⟩ ⟨rfl, rfl, rfl, trivial⟩ rfl rfl))
 exact zf rfl h3 (zp rfl h3 rfl (wn (weak_of ⟨rfl, rfl, rfl, rfl, bool_eq rfl (by first | rfl | (simp_all; done)), trivial⟩ ⟨rfl, rfl, rfl, trivial⟩ rfl rfl)))
 exact zf rfl h2 (zf rfl h2 (zp rfl h2 rfl (zo rfl (zf rfl rfl (zf rfl rfl (zp rfl rfl rfl (wn (weak_of ⟨rfl, rfl, rfl, rfl, bool_eq rfl (by first | rfl | (simp_all; done)), trivial⟩ ⟨rfl, rfl, rfl, trivial⟩ rfl rfl))))))))
 refine zf rfl h1 (zf rfl h1 (zp rfl h1 rfl (zo rfl (zf rfl rfl (zf rfl rfl (zf rfl rfl (zp rfl rfl rfl (zo rfl (zf rfl rfl ?_)))))))))
 exact zf rfl rfl (zp rfl rfl rfl (wn (weak_of ⟨rfl, rfl, rfl, rfl, bool_eq rfl (by first | rfl | (simp_all; done)), trivial⟩ ⟨rfl, rfl, rfl, trivial⟩ rfl rfl)))
 refine nq (zn rfl (by first | rfl | (simp; omega)) (zk (zR (zo rfl (zc rfl (ok120 b hb) (zo rfl (zo rfl (zo rfl (zo rfl ?_)))))))))
 refine zo rfl (zw (zq (zR (zo rfl (zo rfl (zo rfl (zo rfl (zo rfl (zw (zn rfl (by first | rfl | (simp; omega)) ?_))))))))))
 refine zk (zR (zo rfl (zc rfl (ok99a l hl) (zo rfl (zw (zq (zR (zo rfl (zo rfl ?_)))))))))
 refine zw (zn rfl (by first | rfl | (simp; omega)) (zk (zR (zo rfl (zo rfl (zi rfl rfl rfl rfl rfl (zo rfl (zo rfl (zd rfl rfl ?_)))))))))
 refine zw (zR (zo rfl (zo rfl (zo rfl (zo rfl (zo rfl (zo rfl (zo rfl (zo rfl ?_)))))))))
 refine zd rfl rfl (zw (zq (zR (zo rfl (zw (Sat.loop' (fun _ => True) (fun i => ⟨133, lk [(3, .v (.sl (l.map Bx.c))), (4, .ptr 4 0), (5, .ptr 5 0), (6, .ptr 6 0), (13, .v (vi (mainIx l))), (14, .ptr 14 0), (15, .ptr 15 0), (64, .v (vi i))], lk [(4, ⟨.cells (r.c.map .v), false⟩), (5, ⟨.cells (m.c.map .v), false⟩), (6, ⟨.cells (b.c.map .v), false⟩), (14, ⟨.cells ((gt l (mainIx l)).c.map .v), false⟩), (15, ⟨.cells [.v (vi (gt l (mainIx l)).lx), .v (vi (gt l (mainIx l)).ly), .v (vi (gt l (mainIx l)).lz), .v (.bool (bentN l (mainIx l) (gt l (mainIx l)).loP (if i = 0 then 0 else 2))), .v (vi (gt l (mainIx l)).hx), .v (vi (gt l (mainIx l)).hy), .v (vi (gt l (mainIx l)).hz), .v (.bool (bentN l (mainIx l) (gt l (mainIx l)).hiP (if i ≤ 1 then 0 else 2)))], false⟩)]⟩) (2) ?_ (trivial) (fun i hi hI => ?_) (fun hI => ?_)))))))
 exact zv rfl rfl rfl rfl
 have hcs : i = 0 ∨ i = 1 := by omega
 rcases hcs with rfl | rfl
 refine zR (zo rfl (zw (zq (zy rfl (by rfl) (zk (zq (zb rfl (zR (zo rfl ?_)))))))))
 refine zo rfl (zw (zR (zo rfl (zS rfl (by first | (constructor <;> omega)) (zo rfl (zA rfl (by first | (constructor <;> omega)) (zo rfl (zo rfl (zo rfl ?_)))))))))
 refine zw (Sat.loop' (fun _ => True) (fun j => ⟨133, lk [(3, .v (.sl (l.map Bx.c))), (4, .ptr 4 0), (5, .ptr 5 0), (6, .ptr 6 0), (13, .v (vi (mainIx l))), (14, .ptr 14 0), (15, .ptr 15 0), (16, .v (vi 0)), (64, .v (vi 0)), (71, .osl 71 1 2 0 2), (72, .v (vi 2)), (73, .v (vi j))], lk [(4, ⟨.cells (r.c.map .v), false⟩), (5, ⟨.cells (m.c.map .v), false⟩), (6, ⟨.cells (b.c.map .v), false⟩), (14, ⟨.cells ((gt l (mainIx l)).c.map .v), false⟩), (15, ⟨.cells [.v (vi (gt l (mainIx l)).lx), .v (vi (gt l (mainIx l)).ly), .v (vi (gt l (mainIx l)).lz), .v (.bool (bentN l (mainIx l) (gt l (mainIx l)).loP (if 0 = 0 then j else 2))), .v (vi (gt l (mainIx l)).hx), .v (vi (gt l (mainIx l)).hy), .v (vi (gt l (mainIx l)).hz), .v (.bool (bentN l (mainIx l) (gt l (mainIx l)).hiP (if 0 = 0 then 0 else j)))], false⟩), (71, ⟨.sl 1 [[vi (mainIx l - 1)], [vi (mainIx l + 1)]], false⟩)]⟩) (2) ?_ (trivial) (fun j hj hJ => ?_) (fun hJ => ?_))
 exact weak_of ⟨rfl, rfl, rfl, rfl, rfl, rfl, rfl, rfl, rfl, rfl, rfl, rfl, trivial⟩ ⟨rfl, rfl, rfl, rfl, cells8_eq rfl (by first | rfl | (simp_all [bentN, touch]; done) | exact bent2 (by assumption) hin1 hin2) (by first | rfl | (simp_all [bentN, touch]; done) | exact bent2 (by assumption) hin1 hin2), rfl, trivial⟩ rfl rfl
 have hcs : j = 0 ∨ j = 1 := by omega
 rcases hcs with rfl | rfl
 refine zR (zo rfl (zw (zq (zy rfl (by rfl) (zk (zq (zb rfl (zR (zo rfl ?_)))))))))
 refine zo rfl (zo rfl (zw (zq (zR (zo rfl (zo rfl (zo rfl (zF rfl (fun h4 => ?_) (fun h4 => ?_)))))))))
 refine zO (fun _ => rfl) (zh rfl h4 rfl (zh rfl h4 rfl (zh rfl h4 rfl (zP rfl h4 rfl (zw (zC rfl (fun h5 => ?_) (fun h5 => ?_)))))))
 exact Sat.exit (xq (xb (nq (zr (zA rfl (by first | (constructor <;> omega)) (zo rfl (wn (ns trivial (weak_of ⟨rfl, rfl, rfl, rfl, rfl, rfl, rfl, rfl, rfl, rfl, rfl, rfl, trivial⟩ ⟨rfl, rfl, rfl, rfl, cells8_eq rfl (by first | rfl | (simp_all [bentN, touch]; done) | exact bent2 (by assumption) hin1 hin2) (by first | rfl | (simp_all [bentN, touch]; done) | exact bent2 (by assumption) hin1 hin2), rfl, trivial⟩ rfl rfl)))))))))
 refine zk (zq ?_)
 have hin1 := Int.not_lt.1 (of_decide_eq_false ‹decide (_ < (0 : Int)) = false›)
 have hin2 := Int.not_le.1 (of_decide_eq_false ‹decide (_ ≥ ((l.map Bx.c).length : Int)) = false›)
 rw [List.length_map] at hin2
 refine Sat.dr tabOk mixed (by kernel_rfl) (zO (fun _ => rfl) (zO (fun _ => rfl) (sil_index rfl rfl rfl rfl (by omega) (gt_idx (by omega) (by omega)) rfl (zO (fun _ => rfl) (zO (fun _ => rfl) (zO (fun _ => rfl) (zO (fun _ => rfl) (zO (fun _ => rfl) (zO (fun _ => rfl) ?_)))))))))
 refine zO (fun _ => rfl) (zO (fun _ => rfl) (zO (fun _ => rfl) (zO (fun _ => rfl) (sil_call rfl rfl (fun _ => rfl) (fun _ => rfl) ((by first | exact ok226 _ (ptBx (gt l (mainIx l)).loP) (hbx _ hin1 hin2) hpt.1 | exact ok226 _ (ptBx (gt l (mainIx l)).hiP) (hbx _ hin1 hin2) hpt.2)) (zO (fun _ => rfl) (zO (fun _ => rfl) (zO (fun _ => rfl) (zO (fun _ => rfl) (zO (fun _ => rfl) ?_)))))))))
 refine sn (nq (zr (zo rfl (zo rfl (zo rfl (zo rfl (zo rfl (zo rfl (zF rfl (fun h6 => ?_) (fun h6 => ?_))))))))))
 refine zO (fun _ => rfl) (zP rfl h6 rfl (zo rfl (zo rfl (zd rfl rfl (wn (nb (nq (zr (zA rfl (by first | (constructor <;> omega)) ?_)))))))))
 exact zo rfl (wn (ns trivial (weak_of ⟨rfl, rfl, rfl, rfl, rfl, rfl, rfl, rfl, rfl, rfl, rfl, rfl, trivial⟩ ⟨rfl, rfl, rfl, rfl, cells8_eq rfl (by first | rfl | (simp_all [bentN, touch]; done) | exact bent2 (by assumption) hin1 hin2) (by first | rfl | (simp_all [bentN, touch]; done) | exact bent2 (by assumption) hin1 hin2), rfl, trivial⟩ rfl rfl)))
 refine zp rfl h6 rfl (zo rfl (zo rfl (zd rfl rfl (wn (nb (nq (zr (zA rfl (by first | (constructor <;> omega)) (zo rfl ?_)))))))))
 exact wn (ns trivial (weak_of ⟨rfl, rfl, rfl, rfl, rfl, rfl, rfl, rfl, rfl, rfl, rfl, rfl, trivial⟩ ⟨rfl, rfl, rfl, rfl, cells8_eq rfl (by first | rfl | (simp_all [bentN, touch]; done) | exact bent2 (by assumption) hin1 hin2) (by first | rfl | (simp_all [bentN, touch]; done) | exact bent2 (by assumption) hin1 hin2), rfl, trivial⟩ rfl rfl))
 refine zf rfl h4 (zf rfl h4 (zf rfl h4 (zp rfl h4 rfl (zw (zy rfl rfl (Sat.exit (xq (xb (nq ?_)))))))))
 exact zr (zA rfl (by first | (constructor <;> omega)) (zo rfl (wn (ns trivial (weak_of ⟨rfl, rfl, rfl, rfl, rfl, rfl, rfl, rfl, rfl, rfl, rfl, rfl, trivial⟩ ⟨rfl, rfl, rfl, rfl, cells8_eq rfl (by first | rfl | (simp_all [bentN, touch]; done) | exact bent2 (by assumption) hin1 hin2) (by first | rfl | (simp_all [bentN, touch]; done) | exact bent2 (by assumption) hin1 hin2), rfl, trivial⟩ rfl rfl)))))
 refine zR (zo rfl (zw (zq (zy rfl (by rfl) (zk (zq (zb rfl (zR (zo rfl ?_)))))))))
 refine zo rfl (zo rfl (zw (zq (zR (zo rfl (zo rfl (zo rfl (zF rfl (fun h7 => ?_) (fun h7 => ?_)))))))))
 refine zO (fun _ => rfl) (zh rfl h7 rfl (zh rfl h7 rfl (zh rfl h7 rfl (zP rfl h7 rfl (zw (zC rfl (fun h8 => ?_) (fun h8 => ?_)))))))
 exact Sat.exit (xq (xb (nq (zr (zA rfl (by first | (constructor <;> omega)) (zo rfl (wn (ns trivial (weak_of ⟨rfl, rfl, rfl, rfl, rfl, rfl, rfl, rfl, rfl, rfl, rfl, rfl, trivial⟩ ⟨rfl, rfl, rfl, rfl, cells8_eq rfl (by first | rfl | (simp_all [bentN, touch]; done) | exact bent2 (by assumption) hin1 hin2) (by first | rfl | (simp_all [bentN, touch]; done) | exact bent2 (by assumption) hin1 hin2), rfl, trivial⟩ rfl rfl)))))))))
 refine zk (zq ?_)
 have hin1 := Int.not_lt.1 (of_decide_eq_false ‹decide (_ < (0 : Int)) = false›)
 have hin2 := Int.not_le.1 (of_decide_eq_false ‹decide (_ ≥ ((l.map Bx.c).length : Int)) = false›)
 rw [List.length_map] at hin2
 refine Sat.dr tabOk mixed (by kernel_rfl) (zO (fun _ => rfl) (zO (fun _ => rfl) (sil_index rfl rfl rfl rfl (by omega) (gt_idx (by omega) (by omega)) rfl (zO (fun _ => rfl) (zO (fun _ => rfl) (zO (fun _ => rfl) (zO (fun _ => rfl) (zO (fun _ => rfl) (zO (fun _ => rfl) ?_)))))))))
 refine zO (fun _ => rfl) (zO (fun _ => rfl) (zO (fun _ => rfl) (zO (fun _ => rfl) (sil_call rfl rfl (fun _ => rfl) (fun _ => rfl) ((by first | exact ok226 _ (ptBx (gt l (mainIx l)).loP) (hbx _ hin1 hin2) hpt.1 | exact ok226 _ (ptBx (gt l (mainIx l)).hiP) (hbx _ hin1 hin2) hpt.2)) (zO (fun _ => rfl) (zO (fun _ => rfl) (zO (fun _ => rfl) (zO (fun _ => rfl) (zO (fun _ => rfl) ?_)))))))))
 refine sn (nq (zr (zo rfl (zo rfl (zo rfl (zo rfl (zo rfl (zo rfl (zF rfl (fun h9 => ?_) (fun h9 => ?_))))))))))
 refine zO (fun _ => rfl) (zP rfl h9 rfl (zo rfl (zo rfl (zd rfl rfl (wn (nb (nq (zr (zA rfl (by first | (constructor <;> omega)) ?_)))))))))
 exact zo rfl (wn (ns trivial (weak_of ⟨rfl, rfl, rfl, rfl, rfl, rfl, rfl, rfl, rfl, rfl, rfl, rfl, trivial⟩ ⟨rfl, rfl, rfl, rfl, cells8_eq rfl (by first | rfl | (simp_all [bentN, touch]; done) | exact bent2 (by assumption) hin1 hin2) (by first | rfl | (simp_all [bentN, touch]; done) | exact bent2 (by assumption) hin1 hin2), rfl, trivial⟩ rfl rfl)))
 refine zp rfl h9 rfl (zo rfl (zo rfl (zd rfl rfl (wn (nb (nq (zr (zA rfl (by first | (constructor <;> omega)) (zo rfl ?_)))))))))
 exact wn (ns trivial (weak_of ⟨rfl, rfl, rfl, rfl, rfl, rfl, rfl, rfl, rfl, rfl, rfl, rfl, trivial⟩ ⟨rfl, rfl, rfl, rfl, cells8_eq rfl (by first | rfl | (simp_all [bentN, touch]; done) | exact bent2 (by assumption) hin1 hin2) (by first | rfl | (simp_all [bentN, touch]; done) | exact bent2 (by assumption) hin1 hin2), rfl, trivial⟩ rfl rfl))
 refine zf rfl h7 (zf rfl h7 (zf rfl h7 (zp rfl h7 rfl (zw (zy rfl rfl (Sat.exit (xq (xb (nq ?_)))))))))
 exact zr (zA rfl (by first | (constructor <;> omega)) (zo rfl (wn (ns trivial (weak_of ⟨rfl, rfl, rfl, rfl, rfl, rfl, rfl, rfl, rfl, rfl, rfl, rfl, trivial⟩ ⟨rfl, rfl, rfl, rfl, cells8_eq rfl (by first | rfl | (simp_all [bentN, touch]; done) | exact bent2 (by assumption) hin1 hin2) (by first | rfl | (simp_all [bentN, touch]; done) | exact bent2 (by assumption) hin1 hin2), rfl, trivial⟩ rfl rfl)))))
 refine zR (zo rfl (zw (zq (zn rfl (by rfl) (Sat.exit (xq (xe (nb (nq ?_)))))))))
 exact zr (zA rfl (by first | (constructor <;> omega)) (zo rfl (wn (ns trivial (zv rfl rfl rfl rfl)))))
 refine zR (zo rfl (zw (zq (zy rfl (by rfl) (zk (zq (zb rfl (zR (zo rfl ?_)))))))))
 refine zo rfl (zw (zR (zo rfl (zS rfl (by first | (constructor <;> omega)) (zo rfl (zA rfl (by first | (constructor <;> omega)) (zo rfl (zo rfl (zo rfl ?_)))))))))
 refine zw (Sat.loop' (fun _ => True) (fun j => ⟨133, lk [(3, .v (.sl (l.map Bx.c))), (4, .ptr 4 0), (5, .ptr 5 0), (6, .ptr 6 0), (13, .v (vi (mainIx l))), (14, .ptr 14 0), (15, .ptr 15 0), (16, .v (vi 1)), (64, .v (vi 1)), (71, .osl 71 1 2 0 2), (72, .v (vi 2)), (73, .v (vi j))], lk [(4, ⟨.cells (r.c.map .v), false⟩), (5, ⟨.cells (m.c.map .v), false⟩), (6, ⟨.cells (b.c.map .v), false⟩), (14, ⟨.cells ((gt l (mainIx l)).c.map .v), false⟩), (15, ⟨.cells [.v (vi (gt l (mainIx l)).lx), .v (vi (gt l (mainIx l)).ly), .v (vi (gt l (mainIx l)).lz), .v (.bool (bentN l (mainIx l) (gt l (mainIx l)).loP (if 1 = 0 then j else 2))), .v (vi (gt l (mainIx l)).hx), .v (vi (gt l (mainIx l)).hy), .v (vi (gt l (mainIx l)).hz), .v (.bool (bentN l (mainIx l) (gt l (mainIx l)).hiP (if 1 = 0 then 0 else j)))], false⟩), (71, ⟨.sl 1 [[vi (mainIx l - 1)], [vi (mainIx l + 1)]], false⟩)]⟩) (2) ?_ (trivial) (fun j hj hJ => ?_) (fun hJ => ?_))
 exact weak_of ⟨rfl, rfl, rfl, rfl, rfl, rfl, rfl, rfl, rfl, rfl, rfl, rfl, trivial⟩ ⟨rfl, rfl, rfl, rfl, cells8_eq rfl (by first | rfl | (simp_all [bentN, touch]; done) | exact bent2 (by assumption) hin1 hin2) (by first | rfl | (simp_all [bentN, touch]; done) | exact bent2 (by assumption) hin1 hin2), rfl, trivial⟩ rfl rfl
 have hcs : j = 0 ∨ j = 1 := by omega
 rcases hcs with rfl | rfl
 refine zR (zo rfl (zw (zq (zy rfl (by rfl) (zk (zq (zb rfl (zR (zo rfl ?_)))))))))
 refine zo rfl (zo rfl (zw (zq (zR (zo rfl (zo rfl (zo rfl (zF rfl (fun h10 => ?_) (fun h10 => ?_)))))))))
 refine zO (fun _ => rfl) (zh rfl h10 rfl (zh rfl h10 rfl (zh rfl h10 rfl (zP rfl h10 rfl (zw (zC rfl (fun h11 => ?_) (fun h11 => ?_)))))))
 exact Sat.exit (xq (xb (nq (zr (zA rfl (by first | (constructor <;> omega)) (zo rfl (wn (ns trivial (weak_of ⟨rfl, rfl, rfl, rfl, rfl, rfl, rfl, rfl, rfl, rfl, rfl, rfl, trivial⟩ ⟨rfl, rfl, rfl, rfl, cells8_eq rfl (by first | rfl | (simp_all [bentN, touch]; done) | exact bent2 (by assumption) hin1 hin2) (by first | rfl | (simp_all [bentN, touch]; done) | exact bent2 (by assumption) hin1 hin2), rfl, trivial⟩ rfl rfl)))))))))
 refine zk (zq ?_)
 have hin1 := Int.not_lt.1 (of_decide_eq_false ‹decide (_ < (0 : Int)) = false›)
 have hin2 := Int.not_le.1 (of_decide_eq_false ‹decide (_ ≥ ((l.map Bx.c).length : Int)) = false›)
 rw [List.length_map] at hin2
 refine Sat.dr tabOk mixed (by kernel_rfl) (zO (fun _ => rfl) (zO (fun _ => rfl) (sil_index rfl rfl rfl rfl (by omega) (gt_idx (by omega) (by omega)) rfl (zO (fun _ => rfl) (zO (fun _ => rfl) (zO (fun _ => rfl) (zO (fun _ => rfl) (zO (fun _ => rfl) (zO (fun _ => rfl) ?_)))))))))
 refine zO (fun _ => rfl) (zO (fun _ => rfl) (zO (fun _ => rfl) (zO (fun _ => rfl) (sil_call rfl rfl (fun _ => rfl) (fun _ => rfl) ((by first | exact ok226 _ (ptBx (gt l (mainIx l)).loP) (hbx _ hin1 hin2) hpt.1 | exact ok226 _ (ptBx (gt l (mainIx l)).hiP) (hbx _ hin1 hin2) hpt.2)) (zO (fun _ => rfl) (zO (fun _ => rfl) (zO (fun _ => rfl) (zO (fun _ => rfl) (zO (fun _ => rfl) ?_)))))))))
 refine sn (nq (zr (zo rfl (zo rfl (zo rfl (zo rfl (zo rfl (zo rfl (zF rfl (fun h12 => ?_) (fun h12 => ?_))))))))))
 refine zO (fun _ => rfl) (zP rfl h12 rfl (zo rfl (zo rfl (zd rfl rfl (wn (nb (nq (zr (zA rfl (by first | (constructor <;> omega)) ?_)))))))))
 exact zo rfl (wn (ns trivial (weak_of ⟨rfl, rfl, rfl, rfl, rfl, rfl, rfl, rfl, rfl, rfl, rfl, rfl, trivial⟩ ⟨rfl, rfl, rfl, rfl, cells8_eq rfl (by first | rfl | (simp_all [bentN, touch]; done) | exact bent2 (by assumption) hin1 hin2) (by first | rfl | (simp_all [bentN, touch]; done) | exact bent2 (by assumption) hin1 hin2), rfl, trivial⟩ rfl rfl)))
 refine zp rfl h12 rfl (zo rfl (zo rfl (zd rfl rfl (wn (nb (nq (zr (zA rfl (by first | (constructor <;> omega)) (zo rfl ?_)))))))))
 exact wn (ns trivial (weak_of ⟨rfl, rfl, rfl, rfl, rfl, rfl, rfl, rfl, rfl, rfl, rfl, rfl, trivial⟩ ⟨rfl, rfl, rfl, rfl, cells8_eq rfl (by first | rfl | (simp_all [bentN, touch]; done) | exact bent2 (by assumption) hin1 hin2) (by first | rfl | (simp_all [bentN, touch]; done) | exact bent2 (by assumption) hin1 hin2), rfl, trivial⟩ rfl rfl))
 refine zf rfl h10 (zf rfl h10 (zf rfl h10 (zp rfl h10 rfl (zw (zy rfl rfl (Sat.exit (xq (xb (nq ?_)))))))))
 exact zr (zA rfl (by first | (constructor <;> omega)) (zo rfl (wn (ns trivial (weak_of ⟨rfl, rfl, rfl, rfl, rfl, rfl, rfl, rfl, rfl, rfl, rfl, rfl, trivial⟩ ⟨rfl, rfl, rfl, rfl, cells8_eq rfl (by first | rfl | (simp_all [bentN, touch]; done) | exact bent2 (by assumption) hin1 hin2) (by first | rfl | (simp_all [bentN, touch]; done) | exact bent2 (by assumption) hin1 hin2), rfl, trivial⟩ rfl rfl)))))
 refine zR (zo rfl (zw (zq (zy rfl (by rfl) (zk (zq (zb rfl (zR (zo rfl ?_)))))))))
 refine zo rfl (zo rfl (zw (zq (zR (zo rfl (zo rfl (zo rfl (zF rfl (fun h13 => ?_) (fun h13 => ?_)))))))))
 refine zO (fun _ => rfl) (zh rfl h13 rfl (zh rfl h13 rfl (zh rfl h13 rfl (zP rfl h13 rfl (zw (zC rfl (fun h14 => ?_) (fun h14 => ?_)))))))
 exact Sat.exit (xq (xb (nq (zr (zA rfl (by first | (constructor <;> omega)) (zo rfl (wn (ns trivial (weak_of ⟨rfl, rfl, rfl, rfl, rfl, rfl, rfl, rfl, rfl, rfl, rfl, rfl, trivial⟩ ⟨rfl, rfl, rfl, rfl, cells8_eq rfl (by first | rfl | (simp_all [bentN, touch]; done) | exact bent2 (by assumption) hin1 hin2) (by first | rfl | (simp_all [bentN, touch]; done) | exact bent2 (by assumption) hin1 hin2), rfl, trivial⟩ rfl rfl)))))))))
 refine zk (zq ?_)
 have hin1 := Int.not_lt.1 (of_decide_eq_false ‹decide (_ < (0 : Int)) = false›)
 have hin2 := Int.not_le.1 (of_decide_eq_false ‹decide (_ ≥ ((l.map Bx.c).length : Int)) = false›)
 rw [List.length_map] at hin2
 refine Sat.dr tabOk mixed (by kernel_rfl) (zO (fun _ => rfl) (zO (fun _ => rfl) (sil_index rfl rfl rfl rfl (by omega) (gt_idx (by omega) (by omega)) rfl (zO (fun _ => rfl) (zO (fun _ => rfl) (zO (fun _ => rfl) (zO (fun _ => rfl) (zO (fun _ => rfl) (zO (fun _ => rfl) ?_)))))))))
 refine zO (fun _ => rfl) (zO (fun _ => rfl) (zO (fun _ => rfl) (zO (fun _ => rfl) (sil_call rfl rfl (fun _ => rfl) (fun _ => rfl) ((by first | exact ok226 _ (ptBx (gt l (mainIx l)).loP) (hbx _ hin1 hin2) hpt.1 | exact ok226 _ (ptBx (gt l (mainIx l)).hiP) (hbx _ hin1 hin2) hpt.2)) (zO (fun _ => rfl) (zO (fun _ => rfl) (zO (fun _ => rfl) (zO (fun _ => rfl) (zO (fun _ => rfl) ?_)))))))))
 refine sn (nq (zr (zo rfl (zo rfl (zo rfl (zo rfl (zo rfl (zo rfl (zF rfl (fun h15 => ?_) (fun h15 => ?_))))))))))
 refine zO (fun _ => rfl) (zP rfl h15 rfl (zo rfl (zo rfl (zd rfl rfl (wn (nb (nq (zr (zA rfl (by first | (constructor <;> omega)) ?_)))))))))
 exact zo rfl (wn (ns trivial (weak_of ⟨rfl, rfl, rfl, rfl, rfl, rfl, rfl, rfl, rfl, rfl, rfl, rfl, trivial⟩ ⟨rfl, rfl, rfl, rfl, cells8_eq rfl (by first | rfl | (simp_all [bentN, touch]; done) | exact bent2 (by assumption) hin1 hin2) (by first | rfl | (simp_all [bentN, touch]; done) | exact bent2 (by assumption) hin1 hin2), rfl, trivial⟩ rfl rfl)))
 refine zp rfl h15 rfl (zo rfl (zo rfl (zd rfl rfl (wn (nb (nq (zr (zA rfl (by first | (constructor <;> omega)) (zo rfl ?_)))))))))
 exact wn (ns trivial (weak_of ⟨rfl, rfl, rfl, rfl, rfl, rfl, rfl, rfl, rfl, rfl, rfl, rfl, trivial⟩ ⟨rfl, rfl, rfl, rfl, cells8_eq rfl (by first | rfl | (simp_all [bentN, touch]; done) | exact bent2 (by assumption) hin1 hin2) (by first | rfl | (simp_all [bentN, touch]; done) | exact bent2 (by assumption) hin1 hin2), rfl, trivial⟩ rfl rfl))
 refine zf rfl h13 (zf rfl h13 (zf rfl h13 (zp rfl h13 rfl (zw (zy rfl rfl (Sat.exit (xq (xb (nq ?_)))))))))
 exact zr (zA rfl (by first | (constructor <;> omega)) (zo rfl (wn (ns trivial (weak_of ⟨rfl, rfl, rfl, rfl, rfl, rfl, rfl, rfl, rfl, rfl, rfl, rfl, trivial⟩ ⟨rfl, rfl, rfl, rfl, cells8_eq rfl (by first | rfl | (simp_all [bentN, touch]; done) | exact bent2 (by assumption) hin1 hin2) (by first | rfl | (simp_all [bentN, touch]; done) | exact bent2 (by assumption) hin1 hin2), rfl, trivial⟩ rfl rfl)))))
 refine zR (zo rfl (zw (zq (zn rfl (by rfl) (Sat.exit (xq (xe (nb (nq ?_)))))))))
 exact zr (zA rfl (by first | (constructor <;> omega)) (zo rfl (wn (ns trivial (zv rfl rfl rfl rfl)))))
 refine zR (zo rfl (zw (zq (zn rfl (by rfl) (Sat.exit (xq (xe (nq (zR (zo rfl ?_))))))))))
 refine zo rfl (zc rfl (ok185 m (memOk_solid hm) _ hmb) (zo rfl (zw (zq (Sat.dr tabOk mixed (by kernel_rfl) (zO (fun _ => rfl) (zO (fun _ => rfl) (zO (fun _ => rfl) (zO (fun _ => rfl) ?_)))))))))
 refine zO (fun _ => rfl) (zO (fun _ => rfl) (zO (fun _ => rfl) (sil_call rfl rfl (fun _ => rfl) (fun _ => rfl) (ok227 r (rulP hr) b.size hsz _ _) (zO (fun _ => rfl) (zO (fun _ => rfl) (zO (fun _ => rfl) (zO (fun _ => rfl) (zO (fun _ => rfl) (zO (fun _ => rfl) ?_)))))))))
 exact zO (fun _ => rfl) (sil_call rfl rfl (fun _ => rfl) (fun _ => rfl) (ok227 r (rulP hr) b.size hsz _ _) (zO (fun _ => rfl) (zO (fun _ => rfl) (zO (fun _ => rfl) (sn (nq (Sat.ret (ze rfl rfl))))))))
end Go.Proofs.YtamjajacnfmgeaaGreat
