/-
  The beam's box covers a box that is within it, and no other. No condition.
  The cover of the beam's bar: what is found. No condition.
  The law is awake: the beam passes. No condition.
-/
import Derived.Test.YtamjajacnfmgeaaGreatK44
set_option linter.all false
namespace Go.Proofs.YtamjajacnfmgeaaGreat
open Go Go.RowKit
set_option maxHeartbeats 1000000
theorem cpt_srt {L M : List Int} (hM : M.Pairwise (· < ·)) (hm : ∀ a, a ∈ L ↔ a ∈ M) : cpt (srt L) = M := by
 have h1 := cpt_pairwise (srt_pairwise L)
 refine List.Perm.eq_of_pairwise (le := fun a b : Int => a < b) (fun a b _ _ h1 h2 => by omega) h1 hM ?_
 refine (List.perm_ext_iff_of_nodup (h1.imp fun h => by omega) (hM.imp fun h => by omega)).2 fun a => ?_
 rw [cpt_mem, srt_mem, hm]
theorem cutN_ends (l : List Bx) (b : Bx) (k : Int) : ∀ n, b.lo k ∈ cutN l b k n ∧ b.hi k ∈ cutN l b k n
  | 0 => by simp [cutN]
  | n + 1 => by
    have h := cutN_ends l b k n
    exact ⟨by simp [cutN, cutJ, h.1], by simp [cutN, cutJ, h.2]⟩
theorem insd_in {a z n x : Int} (h : x ∈ insd a z n) : a < x ∧ x < z := by
 unfold insd at h
 split at h
 · simp at h; subst h; assumption
 · simp at h
theorem cutN_in (l : List Bx) (b : Bx) (k : Int) (hb : b.lo k ≤ b.hi k) : ∀ n x, x ∈ cutN l b k n → b.lo k ≤ x
  | 0, x, h => by simp [cutN] at h; omega
  | n + 1, x, h => by
    simp only [cutN, cutJ, List.take_succ_cons, List.take_zero, List.flatMap_cons, List.flatMap_nil, List.append_nil, List.mem_append] at h
    rcases h with h | h | h
    · exact cutN_in l b k hb n x h
    · exact Int.le_of_lt (insd_in h).1
    · exact Int.le_of_lt (insd_in h).1
theorem parF_head (l : List Bx) (b : Bx) (k : Int) (hb : b.lo k < b.hi k) : 0 < (parF l b k).length ∧ (gt (parF l b k) ((0 : Nat) : Int)).1 = b.lo k := by
 have h1 := cpt_pairwise (srt_pairwise (cutN l b k l.length))
 have hm : ∀ a, a ∈ ctF l b k ↔ a ∈ cutN l b k l.length := fun a => by unfold ctF; rw [cpt_mem, srt_mem]
 change (ctF l b k).Pairwise _ at h1
 have e1 := (hm _).2 (cutN_ends l b k l.length).1
 have e2 := (hm _).2 (cutN_ends l b k l.length).2
 have e3 : ∀ x ∈ ctF l b k, b.lo k ≤ x := fun x hx => cutN_in l b k (by omega) _ x ((hm x).1 hx)
 have hp : parF l b k = (List.range ((ctF l b k).length - 1)).map (prtF l b k) := by unfold parF; rw [if_neg (by omega)]
 rw [hp]
 cases hc : ctF l b k with
 | nil => rw [hc] at e1; cases e1
 | cons a t =>
   rw [hc] at h1 e1 e2 e3
   cases t with
   | nil => simp at e1 e2; omega
   | cons q t =>
     have ha : a = b.lo k := by
       rcases List.mem_cons.1 e1 with h | h
       · exact h.symm
       · have := (List.pairwise_cons.1 h1).1 _ h
         have := e3 a (List.mem_cons_self ..)
         omega
     refine ⟨by simp, ?_⟩
     rw [rangeM_gt (by omega) (by simp)]
     simp only [prtF, hc]
     exact ha
theorem parF_one {a b : Bx} {k : Int} (hb : b.lo k < b.hi k) (h1 : a.lo k ≤ b.lo k) (h2 : b.hi k ≤ a.hi k) : parF [a] b k = [(b.lo k, b.hi k)] := by
 have e : ctF [a] b k = [b.lo k, b.hi k] := by
   refine cpt_srt (by simp; omega) fun x => ?_
   have e1 : insd (b.lo k) (b.hi k) (a.lo k) = [] := by unfold insd; rw [if_neg (by omega)]
   have e2 : insd (b.lo k) (b.hi k) (a.hi k) = [] := by unfold insd; rw [if_neg (by omega)]
   have e3 : gt [a] (0 : Int) = a := rfl
   simp [cutN, cutJ, e3, e1, e2]
 unfold parF
 rw [if_neg (by omega), e]
 simp [prtF, e, gt]
theorem bm_all : Ok Tryz.prog 212 [.sl [bmBx.c]] (.bool true) := ok212 [bmBx] (by simp) fun i hi => by
  have : i = 0 := by simp at hi; omega
  subst this; show boxOk bmBx = true; kernel_rfl
theorem ok264t (b : Bx) (hb : boxOk b = true) (hl : ∀ k : Int, 0 ≤ k → k < 3 → b.lo k < b.hi k ∧ bmBx.lo k ≤ b.lo k ∧ b.hi k ≤ bmBx.hi k) : Ok Tryz.prog 264 [.sl [bmBx.c], .ag b.c] (.tp [.bool true, vi 0]) := by
 have par : ∀ k : Int, 0 ≤ k → k < 3 → Ok Tryz.prog 267 [.sl [bmBx.c], .ag b.c, vi k] (.sl [pc (b.lo k, b.hi k)]) := fun k h0 h1 => by
   have h := ok267 [bmBx] (by simp) b k h0 h1
   obtain ⟨q1, q2, q3⟩ := hl k h0 h1
   rwa [parF_one q1 q2 q3] at h
 have par0 : Ok Tryz.prog 267 [.sl [bmBx.c], .ag b.c, vi 0] (.sl [[vi b.lx, vi b.hx]]) := par 0 (by omega) (by omega)
 have par1 : Ok Tryz.prog 267 [.sl [bmBx.c], .ag b.c, vi 1] (.sl [[vi b.ly, vi b.hy]]) := par 1 (by omega) (by omega)
 have par2 : Ok Tryz.prog 267 [.sl [bmBx.c], .ag b.c, vi 2] (.sl [[vi b.lz, vi b.hz]]) := par 2 (by omega) (by omega)
 have hc : bmBx.contains b = true := allN_iff.2 fun i hi => by
   obtain ⟨_, q2, q3⟩ := hl i (by omega) (by omega)
   simp [Bx.has, q2, q3]
 have hf : (!decide (findN ([bmBx] : List Bx).length (fun i => (gt [bmBx] (i : Int)).contains b) ≥ 0)) = false := by
   have : findN ([bmBx] : List Bx).length (fun i => (gt [bmBx] (i : Int)).contains b) = ((0 : Nat) : Int) := findN_eq (by simp) hc (fun j hj => by omega)
   rw [this]; rfl
 refine zz 72 Tryz.func264 rfl Tryz.call264 rfl (zR (zo rfl (zo rfl (zo rfl (zw (zq (zb rfl (zR (zo rfl ?_)))))))))
 refine zc rfl bm_all (zo rfl (zo rfl (zh rfl rfl rfl (step_sil (sil_on rfl rfl (sil_call rfl rfl (fun _ => rfl) (fun _ => rfl) (ok48 b hb) ?_))))))
 refine zh rfl rfl rfl (zP rfl rfl rfl (zo rfl (zw (zn rfl (by first | rfl | exact hf) (zR (zo rfl (zo rfl (zo rfl (zo rfl ?_)))))))))
 refine zw (zn rfl (by first | rfl | exact hf) (Sat.skip (nb (nq (zq (zR (zo rfl (zo rfl (zc rfl par0 ?_)))))))))
 refine zo rfl (zo rfl (zw (Sat.loop' (fun _ => True) (fun i => ⟨72, lk [(0, .v (.sl [bmBx.c])), (3, .ptr 3 0), (28, .v (.sl [[vi b.lx, vi b.hx]])), (29, .v (vi 1)), (30, .v (vi i))], lk [(3, ⟨.cells (b.c.map .v), false⟩)]⟩) (1) ?_ (trivial) (fun i hi hI => ?_) (fun hI => ?_))))
 exact zv rfl rfl rfl rfl
 have hcs : i = 0 := by omega
 rcases hcs with rfl
 refine zR (zo rfl (zw (zq (zy rfl (by rfl) (zk (zq (zb rfl (zR (step_sil (sil_index rfl rfl rfl rfl (by omega) rfl rfl ?_))))))))))
 refine zo rfl (zo rfl (zd rfl rfl (zw (zR (zo rfl (zo rfl (zc rfl par1 (zo rfl (zo rfl ?_)))))))))
 refine zw (Sat.loop' (fun _ => True) (fun j => ⟨72, lk [(0, .v (.sl [bmBx.c])), (3, .ptr 3 0), (7, .ptr 7 0), (28, .v (.sl [[vi b.lx, vi b.hx]])), (29, .v (vi 1)), (30, .v (vi 0)), (36, .v (.sl [[vi b.ly, vi b.hy]])), (37, .v (vi 1)), (38, .v (vi j))], lk [(3, ⟨.cells (b.c.map .v), false⟩), (7, ⟨.cells ([vi b.lx, vi b.hx].map .v), false⟩)]⟩) (1) ?_ (trivial) (fun j hj hJ => ?_) (fun hJ => ?_))
 exact zv rfl rfl rfl rfl
 have hcs : j = 0 := by omega
 rcases hcs with rfl
 refine zR (zo rfl (zw (zq (zy rfl (by rfl) (zk (zq (zb rfl (zR (step_sil (sil_index rfl rfl rfl rfl (by omega) rfl rfl ?_))))))))))
 refine zo rfl (zo rfl (zd rfl rfl (zw (zR (zo rfl (zo rfl (zc rfl par2 (zo rfl (zo rfl ?_)))))))))
 refine zw (Sat.loop' (fun _ => True) (fun k => ⟨72, lk [(0, .v (.sl [bmBx.c])), (3, .ptr 3 0), (7, .ptr 7 0), (9, .ptr 9 0), (28, .v (.sl [[vi b.lx, vi b.hx]])), (29, .v (vi 1)), (30, .v (vi 0)), (36, .v (.sl [[vi b.ly, vi b.hy]])), (37, .v (vi 1)), (38, .v (vi 0)), (44, .v (.sl [[vi b.lz, vi b.hz]])), (45, .v (vi 1)), (46, .v (vi k))], lk [(3, ⟨.cells (b.c.map .v), false⟩), (7, ⟨.cells ([vi b.lx, vi b.hx].map .v), false⟩), (9, ⟨.cells ([vi b.ly, vi b.hy].map .v), false⟩)]⟩) (1) ?_ (trivial) (fun k hk hK => ?_) (fun hK => ?_))
 exact zv rfl rfl rfl rfl
 have hcs : k = 0 := by omega
 rcases hcs with rfl
 refine zR (zo rfl (zw (zq (zy rfl (by rfl) (zk (zq (zb rfl (zR (step_sil (sil_index rfl rfl rfl rfl (by omega) rfl rfl ?_))))))))))
 refine zo rfl (zo rfl (zd rfl rfl (zw (zq (Sat.to tabOk (⟨72, lk [(0, .v (.sl [bmBx.c])), (3, .ptr 3 0), (7, .ptr 7 0), (9, .ptr 9 0), (12, .ptr 12 0), (28, .v (.sl [[vi b.lx, vi b.hx]])), (29, .v (vi 1)), (30, .v (vi 0)), (36, .v (.sl [[vi b.ly, vi b.hy]])), (37, .v (vi 1)), (38, .v (vi 0)), (44, .v (.sl [[vi b.lz, vi b.hz]])), (45, .v (vi 1)), (46, .v (vi 0))], lk [(3, ⟨.cells (b.c.map .v), false⟩), (7, ⟨.cells ([vi b.lx, vi b.hx].map .v), false⟩), (9, ⟨.cells ([vi b.ly, vi b.hy].map .v), false⟩), (12, ⟨.cells (b.c.map .v), false⟩)]⟩) ?_ ?_)))))
 refine zo rfl (zo rfl (zo rfl (zo rfl (zo rfl (zo rfl (zo rfl (zo rfl (zo rfl (zo rfl ?_)))))))))
 exact zo rfl (zo rfl (zo rfl (zo rfl (zo rfl (zo rfl (zd rfl rfl (wn (zv rfl rfl rfl rfl))))))))
 refine nq (zR (zo rfl (zo rfl (step_call rfl rfl rfl (ok223_1 [bmBx] (by simp) 268 (.cp b.c 0) (fun i => (gt [bmBx] (i : Int)).contains b) (fun i hi => ok268 _ b)) (zo rfl (zw (zn rfl (by first | rfl | exact hf) (Sat.skip (nb ?_)))))))))
 exact nq (zr (za rfl (zo rfl (wn (ns trivial (zv rfl rfl rfl rfl))))))
 refine zR (zo rfl (zw (zq (zn rfl (by rfl) (Sat.exit (xq (xe (nb (nq ?_)))))))))
 exact zr (za rfl (zo rfl (wn (ns trivial (zv rfl rfl rfl rfl)))))
 refine zR (zo rfl (zw (zq (zn rfl (by rfl) (Sat.exit (xq (xe (nb (nq ?_)))))))))
 exact zr (za rfl (zo rfl (wn (ns trivial (zv rfl rfl rfl rfl)))))
 refine zR (zo rfl (zw (zq (zn rfl (by rfl) (Sat.exit (xq (xe (nq (zR (zo rfl ?_))))))))))
 exact zo rfl (zw (Sat.ret (ze rfl rfl)))
theorem ok264f (b : Bx) (hb : boxOk b = true) (hl : ∀ k : Int, 0 ≤ k → k < 3 → b.lo k < b.hi k) (hy : b.ly < 0) : Ok Tryz.prog 264 [.sl [bmBx.c], .ag b.c] (.tp [.bool false, vi 0]) := by
 have par : ∀ k : Int, 0 ≤ k → k < 3 → Ok Tryz.prog 267 [.sl [bmBx.c], .ag b.c, vi k] (.sl ((parF [bmBx] b k).map pc)) := fun k h0 h1 => ok267 [bmBx] (by simp) b k h0 h1
 obtain ⟨p0, _⟩ := parF_head [bmBx] b 0 (hl 0 (by omega) (by omega))
 obtain ⟨p1, p1'⟩ := parF_head [bmBx] b 1 (hl 1 (by omega) (by omega))
 obtain ⟨p2, _⟩ := parF_head [bmBx] b 2 (hl 2 (by omega) (by omega))
 replace p1' : (gt (parF [bmBx] b 1) ((0 : Nat) : Int)).1 < 0 := by rw [p1']; exact hy
 have q0 := par 0 (by omega) (by omega)
 have q1 := par 1 (by omega) (by omega)
 have q2 := par 2 (by omega) (by omega)
 clear par
 generalize parF [bmBx] b 0 = A0 at *
 generalize parF [bmBx] b 1 = A1 at *
 generalize parF [bmBx] b 2 = A2 at *
 have hf : ∀ c : Bx, c.ly = (gt A1 ((0 : Nat) : Int)).1 → (!decide (findN ([bmBx] : List Bx).length (fun i => (gt [bmBx] (i : Int)).contains c) ≥ 0)) = true := fun c hc => by
   have : findN ([bmBx] : List Bx).length (fun i => (gt [bmBx] (i : Int)).contains c) = -1 := findN_none fun j hj => by
     have : j = 0 := by simp at hj; omega
     subst this
     refine allN_false (i := 1) (by omega) ?_
     show (!decide (c.ly < 0) && !decide (c.hy > 200)) = false
     rw [hc, decide_eq_true p1']; rfl
   rw [this]; rfl
 refine zz 72 Tryz.func264 rfl Tryz.call264 rfl (zR (zo rfl (zo rfl (zo rfl (zw (zq (zb rfl (zR (zo rfl ?_)))))))))
 refine zc rfl bm_all (zo rfl (zo rfl (zh rfl rfl rfl (step_sil (sil_on rfl rfl (sil_call rfl rfl (fun _ => rfl) (fun _ => rfl) (ok48 b hb) ?_))))))
 refine zh rfl rfl rfl (zP rfl rfl rfl (zo rfl (zw (zn rfl (by first | rfl | exact hf _ rfl) (zR (zo rfl (zo rfl (zo rfl (zo rfl ?_)))))))))
 refine zw (zn rfl (by first | rfl | exact hf _ rfl) (Sat.skip (nb (nq (zq (zR (zo rfl (zo rfl (zc rfl q0 ?_)))))))))
 refine zo rfl (zo rfl (zw (Sat.loop' (fun i => i = 0) (fun i => ⟨72, lk [(0, .v (.sl [bmBx.c])), (3, .ptr 3 0), (28, .v (.sl (A0.map pc))), (29, .v (vi (A0.map pc).length)), (30, .v (vi i))], lk [(3, ⟨.cells (b.c.map .v), false⟩)]⟩) (A0.length) ?_ (rfl) (fun i hi hI => ?_) (fun hI => ?_))))
 exact zv rfl rfl rfl rfl
 obtain rfl : i = 0 := hI
 refine zR (zo rfl (zw (zq (zy rfl (by simp [hi]) (zk (zq (zb rfl (zR (zi rfl rfl rfl rfl rfl ?_)))))))))
 refine zo rfl (zo rfl (zd rfl rfl (zw (zR (zo rfl (zo rfl (zc rfl q1 (zo rfl (zo rfl ?_)))))))))
 refine zw (Sat.loop' (fun i => i = 0) (fun j => ⟨72, lk [(0, .v (.sl [bmBx.c])), (3, .ptr 3 0), (7, .ptr 7 0), (28, .v (.sl (A0.map pc))), (29, .v (vi (A0.map pc).length)), (30, .v (vi 0)), (36, .v (.sl (A1.map pc))), (37, .v (vi (A1.map pc).length)), (38, .v (vi j))], lk [(3, ⟨.cells (b.c.map .v), false⟩), (7, ⟨.cells ((pc (gt A0 ((0 : Nat) : Int))).map .v), false⟩)]⟩) (A1.length) ?_ (rfl) (fun j hj hJ => ?_) (fun hJ => ?_))
 exact zv rfl rfl rfl rfl
 obtain rfl : j = 0 := hJ
 refine zR (zo rfl (zw (zq (zy rfl (by simp [hj]) (zk (zq (zb rfl (zR (zi rfl rfl rfl rfl rfl ?_)))))))))
 refine zo rfl (zo rfl (zd rfl rfl (zw (zR (zo rfl (zo rfl (zc rfl q2 (zo rfl (zo rfl ?_)))))))))
 refine zw (Sat.loop' (fun i => i = 0) (fun k => ⟨72, lk [(0, .v (.sl [bmBx.c])), (3, .ptr 3 0), (7, .ptr 7 0), (9, .ptr 9 0), (28, .v (.sl (A0.map pc))), (29, .v (vi (A0.map pc).length)), (30, .v (vi 0)), (36, .v (.sl (A1.map pc))), (37, .v (vi (A1.map pc).length)), (38, .v (vi 0)), (44, .v (.sl (A2.map pc))), (45, .v (vi (A2.map pc).length)), (46, .v (vi k))], lk [(3, ⟨.cells (b.c.map .v), false⟩), (7, ⟨.cells ((pc (gt A0 ((0 : Nat) : Int))).map .v), false⟩), (9, ⟨.cells ((pc (gt A1 ((0 : Nat) : Int))).map .v), false⟩)]⟩) (A2.length) ?_ (rfl) (fun k hk hK => ?_) (fun hK => ?_))
 exact zv rfl rfl rfl rfl
 obtain rfl : k = 0 := hK
 refine zR (zo rfl (zw (zq (zy rfl (by simp [hk]) (zk (zq (zb rfl (zR (zi rfl rfl rfl rfl rfl ?_)))))))))
 refine zo rfl (zo rfl (zd rfl rfl (zw (zq (Sat.to tabOk (⟨72, lk [(0, .v (.sl [bmBx.c])), (3, .ptr 3 0), (7, .ptr 7 0), (9, .ptr 9 0), (12, .ptr 12 0), (28, .v (.sl (A0.map pc))), (29, .v (vi (A0.map pc).length)), (30, .v (vi 0)), (36, .v (.sl (A1.map pc))), (37, .v (vi (A1.map pc).length)), (38, .v (vi 0)), (44, .v (.sl (A2.map pc))), (45, .v (vi (A2.map pc).length)), (46, .v (vi 0))], lk [(3, ⟨.cells (b.c.map .v), false⟩), (7, ⟨.cells ((pc (gt A0 ((0 : Nat) : Int))).map .v), false⟩), (9, ⟨.cells ((pc (gt A1 ((0 : Nat) : Int))).map .v), false⟩), (12, ⟨.cells ((Bx.mk (gt A0 ((0 : Nat) : Int)).1 (gt A1 ((0 : Nat) : Int)).1 (gt A2 ((0 : Nat) : Int)).1 (gt A0 ((0 : Nat) : Int)).2 (gt A1 ((0 : Nat) : Int)).2 (gt A2 ((0 : Nat) : Int)).2).c.map .v), false⟩)]⟩) ?_ ?_)))))
 refine zo rfl (zo rfl (zo rfl (zo rfl (zo rfl (zo rfl (zo rfl (zo rfl (zo rfl (zo rfl ?_)))))))))
 exact zo rfl (zo rfl (zo rfl (zo rfl (zo rfl (zo rfl (zd rfl rfl (wn (zv rfl rfl rfl rfl))))))))
 refine nq (zR (zo rfl (zo rfl (step_call rfl rfl rfl (ok223_1 [bmBx] (by simp) 268 (.cp (Bx.mk (gt A0 ((0 : Nat) : Int)).1 (gt A1 ((0 : Nat) : Int)).1 (gt A2 ((0 : Nat) : Int)).1 (gt A0 ((0 : Nat) : Int)).2 (gt A1 ((0 : Nat) : Int)).2 (gt A2 ((0 : Nat) : Int)).2).c 0) (fun i => (gt [bmBx] (i : Int)).contains (Bx.mk (gt A0 ((0 : Nat) : Int)).1 (gt A1 ((0 : Nat) : Int)).1 (gt A2 ((0 : Nat) : Int)).1 (gt A0 ((0 : Nat) : Int)).2 (gt A1 ((0 : Nat) : Int)).2 (gt A2 ((0 : Nat) : Int)).2)) (fun i hi => ok268 _ _)) (zo rfl (zw (zy rfl (by first | rfl | exact hf _ rfl) (zR (zo rfl ?_)))))))))
 refine zo rfl (zw (Sat.ret (rb (rq (rs (rb (rq (rs (rb ?_)))))))))
 exact rq (rs (rq (ze rfl rfl)))
 exact absurd hK (by omega)
 exact absurd hJ (by omega)
 exact absurd hI (by omega)
end Go.Proofs.YtamjajacnfmgeaaGreat
namespace Go.Proofs.YtamjajacnfmgeaaGreat
open Go Go.RowKit
set_option maxHeartbeats 1000000
def gb (c : Int) : Bx := gB coreBx c
theorem gb_ok {c : Int} (h0 : 0 ≤ c) (h1 : c ≤ 1046470) : boxOk (gb c) = true := by
 refine boxOk_of ?_ ?_ ?_ <;> simp only [gb, gB, coreBx] <;> omega
theorem gb_lt {c : Int} (h0 : 0 ≤ c) (k : Int) (k0 : 0 ≤ k) (k1 : k < 3) : (gb c).lo k < (gb c).hi k := by
 have : k = 0 ∨ k = 1 ∨ k = 2 := by omega
 rcases this with rfl | rfl | rfl
 · show 94 - c < 2106 + c; omega
 · show 44 - c < 56 + c; omega
 · show 44 - c < 56 + c; omega
theorem gb_in {c : Int} (h0 : 0 ≤ c) (h1 : c ≤ 44) (k : Int) (k0 : 0 ≤ k) (k1 : k < 3) : (gb c).lo k < (gb c).hi k ∧ bmBx.lo k ≤ (gb c).lo k ∧ (gb c).hi k ≤ bmBx.hi k := by
 refine ⟨gb_lt h0 k k0 k1, ?_⟩
 have : k = 0 ∨ k = 1 ∨ k = 2 := by omega
 rcases this with rfl | rfl | rfl
 · show 0 ≤ 94 - c ∧ 2106 + c ≤ 3000; omega
 · show 0 ≤ 44 - c ∧ 56 + c ≤ 200; omega
 · show 0 ≤ 44 - c ∧ 56 + c ≤ 400; omega
theorem ok264 (c : Int) (h0 : 0 ≤ c) (h1 : c ≤ 1046470) : Ok Tryz.prog 264 [.sl [bmBx.c], .ag (gb c).c] (.tp [.bool (decide (c ≤ 44)), vi 0]) := by
 by_cases h : c ≤ 44
 · rw [decide_eq_true h]; exact ok264t _ (gb_ok h0 h1) (gb_in h0 h)
 · rw [decide_eq_false h]; exact ok264f _ (gb_ok h0 h1) (gb_lt h0) (show 44 - c < 0 by omega)
theorem ok260 (c : Int) (h0 : 0 ≤ c) (h1 : c ≤ 1046470) : Ok Tryz.prog 260 [.ag [.sl [bmBx.c], .sl []], .ag (gb c).c] (.tp [.bool (decide (c ≤ 44)), vi 0]) := by
 refine zz 24 Tryz.func260 rfl Tryz.call260 rfl (zR (zo rfl (zo rfl (zo rfl (zo rfl (zw (zq (zR (zo rfl ?_)))))))))
 refine zc rfl (ok204 [bmBx] [] (by kernel_rfl)) (zo rfl (zo rfl (zh rfl rfl rfl (step_sil (sil_on rfl rfl (sil_call rfl rfl (fun _ => rfl) (fun _ => rfl) (ok48 (gb c) (gb_ok h0 h1)) ?_))))))
 refine zh rfl rfl rfl (zP rfl rfl rfl (zw (zn rfl (rfl) (zk (zq (zR (zo rfl (zo rfl (zo rfl ?_)))))))))
 refine step_call rfl rfl rfl (ok223_1 [] (by simp) 262 (.cp (gb c).c 0) (fun _ => false) (fun i hi => absurd hi (Nat.not_lt_zero _))) (zw (zn rfl (rfl) (zk (zR (zo rfl (zo rfl (zo rfl (zc rfl (ok264 c h0 h1) (zo rfl ?_)))))))))
 exact zo rfl (zo rfl (zo rfl (zw (Sat.ret (ze rfl rfl)))))
theorem ok256 (c : Int) (h0 : 0 ≤ c) : Ok Tryz.prog 256 [.ag beam.mem.c, .ag (gb c).c] (.bool (decide (c ≤ 44))) := by
 by_cases h1 : c ≤ 1046470
 refine zz 22 Tryz.func256 rfl Tryz.call256 rfl (zR (zo rfl (zo rfl (zo rfl (zw (zq (zR (zo rfl (zc rfl (ok48 (gb c) (gb_ok h0 h1)) ?_)))))))))
 refine zo rfl (zw (zn rfl (rfl) (zk (zR (zo rfl (zo rfl (zo rfl (zc rfl (ok260 c h0 h1) (zo rfl ?_)))))))))
 refine zo rfl (zo rfl (zo rfl (zo rfl (zw (zR (zo rfl (zo rfl (zo rfl (zh rfl rfl rfl ?_)))))))))
 exact zp rfl rfl rfl (zo rfl (zw (Sat.ret (ze rfl rfl))))
 refine zz 22 Tryz.func256 rfl Tryz.call256 rfl (zR (zo rfl (zo rfl (zo rfl (zw (zq (zR (zo rfl (zc rfl (ok48n (gb c) (show 1048576 < 2106 + c by omega)) ?_)))))))))
 exact zo rfl (zw (zy rfl (rfl) (zR (zo rfl (zw (Sat.ret (rq (ze rfl (by rw [decide_eq_false (by omega)])))))))))
theorem ok255 (i : Nat) (hi : (i : Int) < 2097153) : Ok Tryz.prog 255 [vi i, .cp beam.mem.c 0, .cp [.fn 232 [.cp coreBx.c 0]] 0] (.bool (!decide ((i : Int) ≤ 44))) := by
 refine zz 11 Tryz.func255 rfl Tryz.call255 rfl (zR (zo rfl (zw (zq (Sat.dr tabOk mixed (by kernel_rfl) (zO (fun _ => rfl) (zO (fun _ => rfl) (zO (fun _ => rfl) (sil_call rfl rfl (fun _ => rfl) (fun _ => rfl) (ok232 (i : Int) (by omega) (by omega)) ?_)))))))))
 exact sil_call rfl rfl (fun _ => rfl) (fun _ => rfl) (ok256 (i : Int) (by omega)) (zO (fun _ => rfl) (zO (fun _ => rfl) (sn (nq (Sat.ret (ze rfl rfl))))))
theorem ok231 : Ok Tryz.prog 231 [.ag beam.mem.c, .fn 232 [.cp coreBx.c 0]] (vi 44) := by
 have hs : srchN 2097153 (fun i => !decide ((i : Int) ≤ 44)) = 45 := srch_eq (by omega) (by omega) (fun k hk => by simp; omega) (fun _ => rfl)
 have k := ok143 2097153 (by omega) 255 (.cp beam.mem.c 0) (.cp [.fn 232 [.cp coreBx.c 0]] 0) (fun i => !decide ((i : Int) ≤ 44)) (fun i hi => ok255 i hi) (fun a b hab _ h => by simp at *; omega)
 rw [hs] at k
 refine zz 8 Tryz.func231 rfl Tryz.call231 rfl (zR (zo rfl (zo rfl (zo rfl (zw (zR (zo rfl (step_call rfl rfl rfl k (zs rfl ?_)))))))))
 exact zo rfl (zw (Sat.ret (ze rfl rfl)))
theorem ok184 : Ok Tryz.prog 184 [.ag beam.mem.c, vi 12, .ag legBx.c] (vi 44) := by
 refine zz 20 Tryz.func184 rfl Tryz.call184 rfl (zR (zo rfl (zo rfl (zo rfl (zw (zR (zo rfl (zo rfl (zc rfl ok230 ?_)))))))))
 refine zo rfl (zo rfl (zo rfl (zo rfl (zd rfl rfl (zo rfl (zw (zq (zR (zo rfl ?_)))))))))
 refine zo rfl (zw (zn rfl (rfl) (zk (zR (zo rfl (zo rfl (step_call rfl rfl rfl ok231 (zo rfl (zw (Sat.ret ?_))))))))))
 exact ze rfl rfl
theorem ok183 : OkMp Tryz.prog 183 [.sl [bmBar.c]] [(.str bmBar.mark, vi 12)] := by
 refine okM_of_sat (q := 6) tabOk rfl Tryz.func183 rfl Tryz.call183 (zR (zo rfl (zw (zR (zo rfl (zo rfl (zw (zq (zR (zo rfl ?_))))))))))
 refine zo rfl (zo rfl (zw (Sat.loop' (fun _ => True) (fun i => ⟨20, lk [(3, .omap 6), (7, .v (.sl [bmBar.c])), (8, .v (vi 1)), (9, .v (vi i))], lk [(6, ⟨.mp (([(.str bmBar.mark, vi 12)] : List (V × V)).take i), false⟩)]⟩) (1) ?_ (trivial) (fun i hi hI => ?_) (fun hI => ?_))))
 exact zv rfl rfl rfl rfl
 have hcs : i = 0 := by omega
 rcases hcs with rfl
 refine zR (zo rfl (zw (zq (zy rfl (by rfl) (zk (zq (zb rfl (zR (step_sil (sil_index rfl rfl rfl rfl (by omega) rfl rfl ?_))))))))))
 refine zo rfl (zo rfl (zd rfl rfl (zw (zr (zo rfl (zo rfl (zo rfl (zo rfl (zo rfl ?_)))))))))
 exact zd rfl rfl (wn (nb (nq (zr (za rfl (zo rfl (wn (ns trivial (zv rfl rfl rfl rfl)))))))))
 refine zR (zo rfl (zw (zq (zn rfl (by rfl) (Sat.exit (xq (xe (nq (zR (zo rfl ?_))))))))))
 exact zo rfl (zw (Sat.ret (id (by exact ⟨trivial, rfl, rfl⟩))))
theorem bm_legs : legsAt [bmBar] [bmRun] 0 = [legBx] := by kernel_rfl
theorem bm_tot : total [bmRun] = 1 := by kernel_rfl
theorem ok123 : Ok Tryz.prog 123 [.ag beam.mem.c, .sl [bmBar.c], .sl [bmRun.c], vi 0] (.tp [vi 44, .str bmBar.mark, vi 0]) := by
 have k1 : Ok Tryz.prog 95 [.sl [bmBar.c], .sl [bmRun.c], vi 0] (.tp [.str bmBar.mark, vi 0]) := ok95 [bmBar] [bmRun] beam_runs 0 (by omega) (by rw [bm_tot]; omega)
 have k2 := ok96 [bmBar] [bmRun] beam_runs 0 (by omega) (by rw [bm_tot]; omega)
 rw [bm_legs] at k2
 refine zz 57 Tryz.func123 rfl Tryz.call123 rfl (zR (zo rfl (zo rfl (zo rfl (zo rfl (zw (zR (zo rfl (zo rfl ?_)))))))))
 refine zo rfl (zc rfl k1 (zo rfl (zo rfl (zo rfl (zo rfl (zo rfl (zw (zq (zR (zo rfl ?_))))))))))
 refine zo rfl (zw (zn rfl (rfl) (zk (zR (zo rfl (zo rfl (zo rfl (zc rfl k2 (zo rfl ?_)))))))))
 refine zo rfl (zo rfl (zo rfl (zo rfl (zw (zq (zR (zo rfl (zo rfl (zw (zn rfl (rfl) ?_))))))))))
 refine zk (zq (Sat.xto tabOk (⟨57, lk [(4, .ptr 4 0), (11, .v (.str bmBar.mark)), (13, .v (.sl [legBx.c])), (14, .v (vi 12))], lk [(4, ⟨.cells (beam.mem.c.map .v), false⟩)]⟩) ?_ ?_))
 refine wx (step_sil (zO (fun _ => rfl) ?_))
 refine x_call rfl rfl (call_map 39 ok183 rfl rfl rfl) (wx (step_sil (zO (fun _ => rfl) ?_)))
 refine wx (step_sil (zO (fun _ => rfl) ?_))
 refine wx (step_sil (zO (fun _ => rfl) ?_))
 exact wnX (zv rfl rfl rfl rfl)
 refine nq (zR (zo rfl (zw (zq (zR (zo rfl (zo rfl (zo rfl (zw (Sat.loop' (fun _ => True) (fun i => ⟨57, lk [(4, .ptr 4 0), (11, .v (.str bmBar.mark)), (14, .v (vi 12)), (15, .v (vi (if i = 0 then 2097152 else 44))), (42, .v (.sl [legBx.c])), (43, .v (vi 1)), (44, .v (vi i))], lk [(4, ⟨.cells (beam.mem.c.map .v), false⟩)]⟩) (1) ?_ (trivial) (fun i hi hI => ?_) (fun hI => ?_)))))))))))
 exact zv rfl rfl rfl rfl
 have hcs : i = 0 := by omega
 rcases hcs with rfl
 refine zR (zo rfl (zw (zq (zy rfl (by rfl) (zk (zq (zb rfl (zR (step_sil (sil_index rfl rfl rfl rfl (by omega) rfl rfl ?_))))))))))
 refine zo rfl (zo rfl (zd rfl rfl (zw (zr (zo rfl (zo rfl (zo rfl (zo rfl (zc rfl ok184 ?_)))))))))
 exact zo rfl (zo rfl (wn (nb (nq (zr (za rfl (zo rfl (wn (ns trivial (zv rfl rfl rfl rfl))))))))))
 refine zR (zo rfl (zw (zq (zn rfl (by rfl) (Sat.exit (xq (xe (nq (zR (zo rfl ?_))))))))))
 exact zo rfl (zo rfl (zo rfl (zo rfl (zw (Sat.ret (ze rfl rfl))))))
theorem ok122 : Ok Tryz.prog 122 [.ag beam.mem.c, .sl [bmBar.c], .sl [bmRun.c]] (.tp [vi 1, vi 0]) := by
 have k := ok62 [bmBar] [bmRun] beam_runs
 rw [bm_tot] at k
 refine zz 16 Tryz.func122 rfl Tryz.call122 rfl (zR (zo rfl (zo rfl (zo rfl (zw (zq (zR (zo rfl (zc rfl (ok156 beam.mem (by kernel_rfl)) ?_)))))))))
 refine zo rfl (zw (zn rfl (rfl) (zk (zR (zo rfl (zo rfl (zc rfl k (zo rfl (zo rfl ?_)))))))))
 exact zo rfl (zo rfl (zw (Sat.ret (ze rfl rfl))))
theorem ok71 : Ok Tryz.prog 71 [.ag beam.mem.c, .sl [bmBar.c], .sl [bmRun.c]] (.tp [.sl [], vi 0]) := by
 refine zz 55 Tryz.func71 rfl Tryz.call71 rfl (zR (zo rfl (zo rfl (zo rfl (zw (zR (zo rfl (zo rfl (zo rfl ?_)))))))))
 refine zc rfl ok122 (zo rfl (zo rfl (zo rfl (zo rfl (zo rfl (zw (zq (zR (zo rfl ?_)))))))))
 refine zo rfl (zw (zn rfl (rfl) (zk (zR (zo rfl (zw (zq (zR (zo rfl ?_)))))))))
 refine zo rfl (zw (Sat.loop' (fun _ => True) (fun i => ⟨55, lk [(1, .v (.sl [bmBar.c])), (2, .v (.sl [bmRun.c])), (3, .ptr 3 0), (10, .nil), (25, .v (vi 1)), (26, .v (vi i))], lk [(3, ⟨.cells (beam.mem.c.map .v), false⟩)]⟩) (1) ?_ (trivial) (fun i hi hI => ?_) (fun hI => ?_)))
 exact zv rfl rfl rfl rfl
 have hcs : i = 0 := by omega
 rcases hcs with rfl
 refine zR (zo rfl (zw (zq (zy rfl (by rfl) (zk (zq (zb rfl (zR (zo rfl ?_)))))))))
 refine zo rfl (zw (zR (zo rfl (zo rfl (zo rfl (zo rfl (zc rfl ok123 (zo rfl (zo rfl ?_)))))))))
 refine zo rfl (zo rfl (zo rfl (zo rfl (zo rfl (zw (zq (zR (zo rfl (zo rfl ?_)))))))))
 refine zw (zn rfl (rfl) (zk (zR (zo rfl (zo rfl (zo rfl (zo rfl (zw (zn rfl (rfl) ?_)))))))))
 exact Sat.skip (nb (nq (zr (za rfl (zo rfl (wn (ns trivial (zv rfl rfl rfl rfl))))))))
 refine zR (zo rfl (zw (zq (zn rfl (by rfl) (Sat.exit (xq (xe (nq (zq (zR (zo rfl ?_)))))))))))
 refine zo rfl (zo rfl (zw (zn rfl (rfl) (zk (zR (zo rfl (zo rfl (zo rfl (zw (Sat.ret ?_))))))))))
 exact ze rfl rfl
end Go.Proofs.YtamjajacnfmgeaaGreat
namespace Go.Proofs.YtamjajacnfmgeaaGreat
open Go Go.RowKit
set_option maxHeartbeats 1000000
theorem ok30 : Ok Tryz.prog 30 [.ag beam.c] (.tp [.sl [], vi 0]) := by
 have k27 := ok27 beam beam_ok beam_full
 rw [beam_failN] at k27
 refine zz 90 Tryz.func30 rfl Tryz.call30 rfl (zR (zo rfl (zo rfl (zo rfl (zw (zq (zR (zo rfl (zc rfl ok67 ?_)))))))))
 refine zo rfl (zw (zn rfl (rfl) (zk (zR (zo rfl (zo rfl (zo rfl (zw (zq (zR (zo rfl ?_)))))))))))
 refine zo rfl (zo rfl (zo rfl (zw (Sat.loop' (fun _ => True) (fun i => ⟨90, lk [(1, .ptr 1 0), (4, .ptr 15 0), (17, .v (.sl [bmBar.c])), (18, .v (vi 1)), (19, .v (vi i))], lk [(1, ⟨.cells (beam.c.map .v), false⟩), (15, ⟨.cells [.nil, .v (vi 0)], false⟩)]⟩) (1) ?_ (trivial) (fun i hi hI => ?_) (fun hI => ?_)))))
 exact zv rfl rfl rfl rfl
 have hcs : i = 0 := by omega
 rcases hcs with rfl
 refine zR (zo rfl (zw (zq (zy rfl (by rfl) (zk (zq (zb rfl (zR (step_sil (sil_index rfl rfl rfl rfl (by omega) rfl rfl ?_))))))))))
 refine zo rfl (zo rfl (zd rfl rfl (zw (zR (zo rfl (zc rfl ok68 (zo rfl (zo rfl (zo rfl ?_)))))))))
 refine zo rfl (zo rfl (zw (Sat.rx tabOk (wx (step_sil (zO (fun _ => rfl) ?_))))))
 refine wx (step_sil (zO (fun _ => rfl) ?_))
 refine wx (step_sil (zO (fun _ => rfl) ?_))
 exact x_call rfl rfl (add_do 0 rfl) (wnX (nb (nq (zr (za rfl (zo rfl (wn (ns trivial (zv rfl rfl rfl rfl)))))))))
 refine zR (zo rfl (zw (zq (zn rfl (by rfl) (Sat.exit (xq (xe (nq (zR (zo rfl ?_))))))))))
 refine zo rfl (zo rfl (zo rfl (zc rfl ok70 (zo rfl (zo rfl (zo rfl (zo rfl (zo rfl (zw (zq (Sat.rx tabOk ?_)))))))))))
 refine wx (step_sil (zO (fun _ => rfl) ?_))
 refine wx (step_sil (zO (fun _ => rfl) ?_))
 refine wx (step_sil (zO (fun _ => rfl) ?_))
 refine x_call rfl rfl (add_do 2 rfl) (wnX (nq (zR (zo rfl (zo rfl (zo rfl (zo rfl (zo rfl (zo rfl ?_)))))))))
 refine zc rfl ok71 (zo rfl (zo rfl (zo rfl (zo rfl (zo rfl (zw (zq (Sat.rx tabOk (wx (step_sil (zO (fun _ => rfl) ?_)))))))))))
 refine wx (step_sil (zO (fun _ => rfl) ?_))
 refine wx (step_sil (zO (fun _ => rfl) ?_))
 refine x_call rfl rfl (add_do 4 rfl) (wnX (nq (zR (zo rfl (zc rfl ok72 (zo rfl (zo rfl (zo rfl (zo rfl ?_)))))))))
 refine zo rfl (zw (zq (Sat.rx tabOk (wx (step_sil (zO (fun _ => rfl) ?_))))))
 refine wx (step_sil (zO (fun _ => rfl) ?_))
 refine wx (step_sil (zO (fun _ => rfl) ?_))
 refine x_call rfl rfl (add_do 5 rfl) (wnX (nq (zR (zo rfl (zc rfl k27 (zo rfl (zo rfl (zo rfl (zo rfl ?_)))))))))
 refine zo rfl (zw (zq (Sat.rx tabOk (wx (step_sil (zO (fun _ => rfl) ?_))))))
 refine wx (step_sil (zO (fun _ => rfl) ?_))
 refine wx (step_sil (zO (fun _ => rfl) ?_))
 refine x_call rfl rfl (add_do 7 rfl) (wnX (nq (zq (zR (zo rfl (zo rfl (zo rfl (zo rfl (zo rfl ?_)))))))))
 refine zw (zn rfl (rfl) (zk (zR (zo rfl (zo rfl (zo rfl (zo rfl (zo rfl (zo rfl ?_)))))))))
 exact zw (Sat.ret (ze rfl rfl))
theorem ok11 : Ok Tryz.prog 11 [.ag beam.c] (.tp [.bool true, vi 0]) := by
 refine zz 19 Tryz.func11 rfl Tryz.call11 rfl (zR (zo rfl (zo rfl (zo rfl (zw (zR (zo rfl (zc rfl ok30 (zo rfl ?_)))))))))
 refine zo rfl (zo rfl (zo rfl (zo rfl (zw (zR (zo rfl (zo rfl (zo rfl (zh rfl rfl rfl ?_)))))))))
 exact zh rfl rfl rfl (zh rfl rfl rfl (zp rfl rfl rfl (zo rfl (zo rfl (zo rfl (zw (Sat.ret (ze rfl rfl))))))))
theorem ok4 : Ok Tryz.prog 4 [] (.bool true) := by
 have k8 := ok8 beam beam_ok beam_full
 rw [beam_failN] at k8
 have k8 : Ok Tryz.prog 8 [.ag beam.c] (.tp [.bool true, vi 0]) := k8
 have k10 := ok10 beam beam_ok 0 580 (by omega) (by decide) (by omega)
 rw [beam_val] at k10
 refine zz 42 Tryz.func4 rfl Tryz.call4 rfl (zR (zo rfl (zw (zR (zc rfl ok9 (zc rfl k8 (zo rfl (zo rfl (zo rfl ?_)))))))))
 refine zo rfl (zo rfl (zw (zR (zc rfl ok9 (zc rfl k10 (zo rfl (zo rfl (zo rfl (zo rfl ?_)))))))))
 refine zo rfl (zw (zR (zc rfl ok9 (zc rfl ok11 (zo rfl (zo rfl (zo rfl (zo rfl (zo rfl ?_)))))))))
 refine zw (zR (zo rfl (zo rfl (zo rfl (zh rfl rfl rfl (zp rfl rfl rfl (zo rfl (zh rfl rfl rfl (zh rfl rfl rfl ?_)))))))))
 refine zp rfl rfl rfl (zo rfl (zh rfl rfl rfl (zh rfl rfl rfl (zp rfl rfl rfl (zo rfl (zh rfl rfl rfl (zh rfl rfl rfl (zp rfl rfl rfl (zo rfl ?_)))))))))
 exact zh rfl rfl rfl (zp rfl rfl rfl (zo rfl (zw (Sat.ret (ze rfl rfl)))))
theorem law_ok (x : Det) (q' : Int) : Ok Tryz.prog 3 [.ag x.c, .int .i32 q'] (.bool true) := ok3 x q' ok4
end Go.Proofs.YtamjajacnfmgeaaGreat
