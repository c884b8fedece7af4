/-
  Contracts: chains of laps in the program. Condition: valid in the reference.
-/
import Derived.Test.YtamjajacnfmgeaaGreatK32
set_option linter.all false
namespace Go.Proofs.YtamjajacnfmgeaaGreat
open Go Go.RowKit
set_option maxHeartbeats 1000000
section
variable {P : Program} {T : Nat → Option TI} {all : Array Oper} {ov : Store → Store} {K : St → Prop} {n : Nat} {r : List (Nat × D)} {s : Store}
theorem sil_lookI {q t m : Nat} {x ix : Operand} {ty : TypeId} {pos : String} {af : Array Edge} {sz : Nat} {z : List D} {e : Bool} {a : Int} {k : Nat} {f g : Nat → Int} {fz : Bool} (hd : (decide (q < n)) = true)
    (ht : T t = some ⟨.mp false (.v (.int .i64 0)), sz, z, e⟩) (hx : ev (lk r) x = some (.omap m)) (hi : ev (lk r) ix = some (.v (.int .i64 a))) (hm : ∀ s, ov s m = some ⟨.mp (mapL k f fun j => vi (g j)), fz⟩)
    (h : K ⟨n, lk ((q, .tp [.v (vi (if findN k (fun j => a == f j) < 0 then 0 else g (findN k fun j => a == f j).toNat)), .v (.bool (decide (findN k (fun j => a == f j) ≥ 0)))]) :: r), s⟩) :
    SilW P T all ov ⟨n, lk r, s⟩ ⟨some q, .lookup t x ix true, ty, pos, af, none⟩ K := by
 rcases findN_cases k fun j => a == f j with ⟨h1, h2⟩ | ⟨i, h1, h2, h3, h4⟩
 · rw [h1] at h
   exact sil_lookN (ok := true) hd ht hx hi hm rfl (mapL_none h2) h
 · rw [h1, if_neg (by omega), decide_eq_true (by omega : (i : Int) ≥ 0)] at h
   exact sil_lookS (ok := true) hd ht hx hi hm rfl (mapL_at h2 h3 h4) h
theorem sil_lookB {q t m : Nat} {x ix : Operand} {ty : TypeId} {pos : String} {af : Array Edge} {sz : Nat} {z : List D} {e : Bool} {a : Int} {k : Nat} {f : Nat → Int} {fz : Bool} (hd : (decide (q < n)) = true)
    (ht : T t = some ⟨.mp false (.v (.bool false)), sz, z, e⟩) (hx : ev (lk r) x = some (.omap m)) (hi : ev (lk r) ix = some (.v (.int .i64 a))) (hm : ∀ s, ov s m = some ⟨.mp (mapL k f fun _ => .bool true), fz⟩)
    (h : K ⟨n, lk ((q, .v (.bool (decide (findN k (fun j => a == f j) ≥ 0)))) :: r), s⟩) :
    SilW P T all ov ⟨n, lk r, s⟩ ⟨some q, .lookup t x ix false, ty, pos, af, none⟩ K := by
 rcases findN_cases k fun j => a == f j with ⟨h1, h2⟩ | ⟨i, h1, h2, h3, h4⟩
 · rw [h1] at h
   exact sil_lookN (ok := false) hd ht hx hi hm rfl (mapL_none h2) h
 · rw [h1, decide_eq_true (by omega : (i : Int) ≥ 0)] at h
   exact sil_lookS (ok := false) hd ht hx hi hm rfl (mapL_at h2 h3 h4) h
end
def nxI (x : Det) (a : Int) : Int := findN x.laps.length fun j => a == lapA x j
def nxV (x : Det) (a : Int) : Int := if nxI x a < 0 then 0 else lapB x (nxI x a).toNat
def nxB (x : Det) (a : Int) : Bool := decide (nxI x a ≥ 0)
def sdB (x : Det) (a : Int) : Bool := decide ((findN x.laps.length fun j => a == lapB x j) ≥ 0)
def chainF (x : Det) : Nat → Int → List Int
  | 0, i => [i]
  | f + 1, i => if nxB x i = true then i :: chainF x f (nxV x i) else [i]
def chainOf (x : Det) (i : Int) : List Int := chainF x (total x.runs).toNat i
def chainsN (x : Det) : Nat → List (List Int)
  | 0 => []
  | n + 1 => if sdB x n = true then chainsN x n else chainsN x n ++ [chainOf x n]
def slIC (c : List Int) : List V := [.sl (c.map ic)]
theorem chainsN_len (x : Det) : ∀ n, (chainsN x n).length ≤ n
  | 0 => Nat.le_refl _
  | n + 1 => by have := chainsN_len x n; simp only [chainsN]; split <;> simp <;> omega
theorem chainsN_t {x : Det} {i : Nat} {c : List Int} (h : sdB x i = false) (hc : chainOf x i = c) : (chainsN x i).map slIC ++ [[.sl (c.map ic)]] = (chainsN x (i + 1)).map slIC := by
 simp [chainsN, h, ← hc, slIC]
theorem chainsN_f {x : Det} {i : Nat} (h : sdB x i = true) : (chainsN x i).map slIC = (chainsN x (i + 1)).map slIC := by simp [chainsN, h]
def lxOf (x : Det) (a : Int) : Int := (mainAt x.bars x.runs a).lx
def mu (x : Det) (a : Int) : Nat := ((List.range (total x.runs).toNat).filter fun j : Nat => decide (lxOf x j > lxOf x a)).length
theorem filter_lt {α : Type} {p q : α → Bool} : ∀ {l : List α} {a : α}, (∀ b ∈ l, q b = true → p b = true) → a ∈ l → p a = true → q a = false → (l.filter q).length < (l.filter p).length
  | b :: l, a, h, ha, hp, hq => by
    have hle : ∀ l : List α, (∀ b ∈ l, q b = true → p b = true) → (l.filter q).length ≤ (l.filter p).length := by
      intro l h
      induction l with
      | nil => simp
      | cons b l ih =>
        have := ih fun c hc => h c (List.mem_cons_of_mem _ hc)
        have hb := h b (List.mem_cons_self ..)
        simp only [List.filter_cons]
        cases hqb : q b <;> cases hpb : p b <;> simp <;> simp_all <;> omega
    rcases List.mem_cons.1 ha with rfl | ha
    · have := hle l fun c hc => h c (List.mem_cons_of_mem _ hc)
      simp only [List.filter_cons, hp, hq]
      simp; omega
    · have := filter_lt (fun c hc => h c (List.mem_cons_of_mem _ hc)) ha hp hq
      have hb := h b (List.mem_cons_self ..)
      simp only [List.filter_cons]
      cases hqb : q b <;> cases hpb : p b <;> simp <;> simp_all <;> omega
theorem mu_le (x : Det) (a : Int) : mu x a ≤ (total x.runs).toNat := by
 unfold mu
 have := List.length_filter_le (fun j : Nat => decide (lxOf x j > lxOf x a)) (List.range (total x.runs).toNat)
 simpa using this
theorem nx_joint {x : Det} (h : detOk x = true) {a : Int} (hb : nxB x a = true) : ∃ j : Nat, j < x.laps.length ∧ a = lapA x j ∧ nxV x a = lapB x j ∧ jointOk x (gt x.laps j) = true := by
 have hb := of_decide_eq_true hb
 unfold nxV
 rw [if_neg (by omega)]
 unfold nxI at *
 rcases findN_cases x.laps.length fun j => a == lapA x j with ⟨h1, h2⟩ | ⟨i, h1, h2, h3, h4⟩
 · omega
 · rw [h1]
   exact ⟨i, h2, eq_of_beq h3, rfl, (lapOk_parts (detP h).laps h2).1⟩
theorem joint_parts {x : Det} {j : Jnt} (h : jointOk x j = true) : (0 ≤ j.a ∧ j.a < total x.runs) ∧ (0 ≤ j.b ∧ j.b < total x.runs) ∧ hasMain x.bars x.runs j.a = true ∧ hasMain x.bars x.runs j.b = true ∧
    lxOf x j.a < lxOf x j.b ∧ (mainAt x.bars x.runs j.a).hx < (mainAt x.bars x.runs j.b).hx ∧ (mainAt x.bars x.runs j.a).hx ≥ lxOf x j.b := by
 simp only [jointOk, Bool.and_eq_true, Bool.not_eq_true', decide_eq_true_eq, decide_eq_false_iff_not] at h
 obtain ⟨⟨⟨⟨h1, h2⟩, h3⟩, h4⟩, ⟨⟨⟨g1, g2⟩, g3⟩, g4⟩, g5⟩ := h
 exact ⟨by omega, by omega, g1, g2, g3, g4, g5⟩
theorem mu_next {x : Det} (h : detOk x = true) {a : Int} (hb : nxB x a = true) : mu x (nxV x a) < mu x a := by
 obtain ⟨j, h1, h2, h3, h4⟩ := nx_joint h hb
 obtain ⟨p1, p2, p3, p4, p5, p6, p7⟩ := joint_parts h4
 rw [h3, h2]
 change lxOf x (lapA x j) < lxOf x (lapB x j) at p5
 change 0 ≤ lapB x j ∧ lapB x j < total x.runs at p2
 have e : (((lapB x j).toNat : Nat) : Int) = lapB x j := by omega
 refine filter_lt (a := (lapB x j).toNat) (fun b _ hb => ?_) (List.mem_range.2 (by omega)) ?_ ?_
 · simp only [decide_eq_true_eq] at hb ⊢; omega
 · simp only [decide_eq_true_eq, e]; omega
 · simp only [decide_eq_false_iff_not, e]; omega
structure ChI (x : Det) (i : Int) (pre : List Int) (cur : Int) : Prop where
  len : pre.length + mu x cur ≤ (total x.runs).toNat
  eq : ∃ f, mu x cur ≤ f ∧ chainOf x i = pre ++ chainF x f cur
theorem chI_start (x : Det) (i : Int) : ChI x i [] i := ⟨by simpa using mu_le x i, _, mu_le x i, rfl⟩
theorem chI_next {x : Det} (h : detOk x = true) {i cur : Int} {pre : List Int} (hI : ChI x i pre cur) (hb : nxB x cur = true) : ChI x i (pre ++ [cur]) (nxV x cur) := by
 have hm := mu_next h hb
 obtain ⟨h1, f, h2, h3⟩ := hI
 refine ⟨by simp; omega, f - 1, by omega, ?_⟩
 have e : f = f - 1 + 1 := by omega
 rw [h3, e]
 simp [chainF, hb]
theorem chI_end {x : Det} {i cur : Int} {pre : List Int} (hI : ChI x i pre cur) (hb : nxB x cur = false) : chainOf x i = pre ++ [cur] := by
 obtain ⟨h1, f, h2, h3⟩ := hI
 rw [h3]
 cases f with
 | zero => rfl
 | succ f => simp [chainF, hb]
theorem ok220 (x : Det) (h : detOk x = true) : Ok Tryz.prog 220 [.ag x.c, vi (total x.runs)] (.sl ((chainsN x (total x.runs).toNat).map slIC)) := by
 have hP := detP h
 have hll := hP.lapsL
 have ht := total_le hP.runs
 refine zz 64 Tryz.func220 rfl Tryz.call220 rfl (zR (zo rfl (zo rfl (zw (zR (zo rfl (zo rfl (zo rfl (zo rfl ?_)))))))))
 refine zw (zq (zR (zo rfl (zo rfl (zo rfl (zo rfl (zw (Sat.loop' (fun _ => True) (fun i => ⟨64, lk [(1, .v (vi (total x.runs))), (2, .ptr 2 0), (5, .omap 14), (6, .omap 15), (17, .v (.sl (x.laps.map Jnt.c))), (18, .v (vi (x.laps.map Jnt.c).length)), (19, .v (vi i))], lk [(2, ⟨.cells (x.c.map .v), false⟩), (14, ⟨.mp (mapL i (lapA x) fun j => vi (lapB x j)), false⟩), (15, ⟨.mp (mapL i (lapB x) fun _ => .bool true), false⟩)]⟩) (x.laps.length) ?_ (trivial) (fun i hi hI => ?_) (fun hI => ?_)))))))))
 exact zv rfl rfl rfl rfl
 have hl := lapOk_parts hP.laps hi
 refine zR (zo rfl (zw (zq (zy rfl (by simp [hi]) (zk (zq (zb rfl (zR (zi rfl rfl rfl rfl rfl ?_)))))))))
 refine zo rfl (zo rfl (zd rfl rfl (zw (Sat.dp tabOk mixed [8] (.sil 0 (.sil 1 (.sil 2 (.sil 3 (.sil 4 (.sil 5 (.sil 6 (.sil 7 (.one 8 (.one 9 (.done))))))))))) (⟨64, lk [(1, .v (vi (total x.runs))), (2, .ptr 2 0), (5, .omap 14), (6, .omap 15), (17, .v (.sl (x.laps.map Jnt.c))), (18, .v (vi (x.laps.map Jnt.c).length)), (19, .v (vi i))], lk [(2, ⟨.cells (x.c.map .v), false⟩), (14, ⟨.mp (mapL (i + 1) (lapA x) fun j => vi (lapB x j)), false⟩), (15, ⟨.mp (mapL (i + 1) (lapB x) fun _ => .bool true), false⟩)]⟩) (by decide) (by kernel_rfl) ?_ ?_))))
 refine p_sil rfl (zO (fun _ => rfl) ?_)
 refine p_sil rfl (zO (fun _ => rfl) ?_)
 refine p_sil rfl (zO (fun _ => rfl) ?_)
 refine p_sil rfl (zO (fun _ => rfl) ?_)
 refine p_sil rfl (zO (fun _ => rfl) ?_)
 refine p_sil rfl (zO (fun _ => rfl) ?_)
 refine p_sil rfl (zO (fun _ => rfl) ?_)
 refine p_sil rfl (zO (fun _ => rfl) ?_)
 refine p_one rfl (step_mapN rfl rfl rfl rfl rfl rfl (mapL_none (f := lapA x) hl.2.1) ⟨ovr_eq ⟨rfl, trivial⟩, ?_⟩)
 refine p_one rfl (step_mapN rfl rfl rfl rfl rfl rfl (mapL_none (f := lapB x) hl.2.2) ⟨ovr_eq ⟨rfl, trivial⟩, ?_⟩)
 exact pn (weak_of ⟨rfl, rfl, rfl, rfl, rfl, rfl, rfl, trivial⟩ ⟨rfl, mp_eq rfl (mapL_snoc _ _ _).symm, mp_eq rfl (mapL_snoc _ _ _).symm, trivial⟩ rfl rfl)
 exact nb (nq (zr (za rfl (zo rfl (wn (ns trivial (zv rfl rfl rfl rfl)))))))
 refine zR (zo rfl (zw (zq (zn rfl (by simp) (Sat.exit (xq (xe (nq (zR (zo rfl ?_))))))))))
 refine zw (zq (zR (zo rfl (zo rfl (zw (Sat.loop' (fun _ => True) (fun i => ⟨64, lk [(5, .omap 14), (6, .omap 15), (9, slD 61 1 ((chainsN x i).map slIC)), (32, .v (vi (total x.runs))), (33, .v (vi i))], lkO [(14, some ⟨.mp (mapL x.laps.length (lapA x) fun j => vi (lapB x j)), false⟩), (15, some ⟨.mp (mapL x.laps.length (lapB x) fun _ => .bool true), false⟩), (61, slS 1 ((chainsN x i).map slIC))]⟩) ((total x.runs).toNat) ?_ (trivial) (fun i hi hI => ?_) (fun hI => ?_)))))))
 exact weakO ⟨rfl, rfl, rfl, rfl, rfl, trivial⟩ ⟨so rfl, so rfl, soS rfl, trivial⟩ (by repeat' (first | exact trivial | exact rfl | exact slD_ment rfl | exact moS | exact mo rfl | refine ⟨?_, ?_⟩)) (by repeat' (first | exact trivial | exact rfl | exact slD_ment rfl | exact moS | exact mo rfl | refine ⟨?_, ?_⟩))
 refine zR (zo rfl (zw (zq (zy rfl (by simp; omega) (zk (zq (zb rfl (zR (zo rfl ?_)))))))))
 refine zo rfl (zw (zq (zR (zo rfl (zo rfl (step_sil (sil_lookB rfl rfl rfl rfl (fun _ => rfl) ?_)))))))
 refine zw (zC rfl (fun h1 => ?_) (fun h1 => ?_))
 exact Sat.exit (xq (xb (nq (zr (za rfl (zo rfl (wn (ns trivial (weakO ⟨rfl, rfl, slD_eq rfl (by first | exact chainsN_f h1 | exact chainsN_t h1 (chI_end hA h2)), rfl, rfl, trivial⟩ ⟨so rfl, so rfl, by first | exact soS (by rw [← chainsN_f h1]; rfl) | exact soA rfl (chainsN_t h1 (chI_end hA h2)), trivial⟩ (by repeat' (first | exact trivial | exact rfl | exact slD_ment rfl | exact moS | exact mo rfl | refine ⟨?_, ?_⟩)) (by repeat' (first | exact trivial | exact rfl | exact slD_ment rfl | exact moS | exact mo rfl | refine ⟨?_, ?_⟩)))))))))))
 refine zk (zR (zo rfl (zo rfl (zo rfl (zw (zq (zR (zo rfl (zo rfl ?_)))))))))
 refine step_sil (sil_lookI rfl rfl rfl rfl (fun _ => rfl) ?_)
 refine zo rfl (zo rfl (zo rfl (zo rfl (zo rfl (zw (Sat.loopM (fun a => mu x a.2) (fun a => ChI x i a.1 a.2) (fun a => ⟨64, lk [(5, .omap 14), (6, .omap 15), (9, slD 61 1 ((chainsN x i).map slIC)), (11, slD 40 1 ((a.1 ++ [a.2]).map ic)), (12, .v (vi (nxV x a.2))), (13, .v (.bool (nxB x a.2))), (32, .v (vi (total x.runs))), (33, .v (vi i))], lkO [(14, some ⟨.mp (mapL x.laps.length (lapA x) fun j => vi (lapB x j)), false⟩), (15, some ⟨.mp (mapL x.laps.length (lapB x) fun _ => .bool true), false⟩), (40, slS 1 ((a.1 ++ [a.2]).map ic)), (61, slS 1 ((chainsN x i).map slIC))]⟩) ((([] : List Int), (i : Int))) ?_ (chI_start x i) (fun a hA => ?_)))))))
 exact weakO ⟨rfl, rfl, rfl, rfl, rfl, rfl, rfl, rfl, trivial⟩ ⟨so rfl, so rfl, soS rfl, soS rfl, trivial⟩ (by repeat' (first | exact trivial | exact rfl | exact slD_ment rfl | exact moS | exact mo rfl | refine ⟨?_, ?_⟩)) (by repeat' (first | exact trivial | exact rfl | exact slD_ment rfl | exact moS | exact mo rfl | refine ⟨?_, ?_⟩))
 obtain ⟨pre, cur⟩ := a
 simp only at hA
 refine zq (zR (zo rfl (zw (zC rfl (fun h2 => ?_) (fun h2 => ?_)))))
 refine zk (zq (zb rfl (zr (zo rfl (zo rfl (zo rfl ?_))))))
 first | (refine step_app1 rfl (by first | exact .inl rfl | (right; simp)) rfl rfl rfl rfl rfl rfl (by first | (have := hA.len; simp; omega) | (have := chainsN_len x i; simp; omega)) rfl ?_) | (refine step_op rfl rfl rfl ?_)
 refine zo rfl (wn (nb (nq (zr (zo rfl (zo rfl (step_sil (sil_lookI rfl rfl rfl rfl (fun _ => rfl) ?_))))))))
 exact zo rfl (zo rfl (zo rfl (zo rfl (zo rfl (wn (nsM ((pre ++ [cur], nxV x cur)) (chI_next h hA h2) (mu_next h h2) (weakO ⟨rfl, rfl, rfl, slD_eq rfl (by simp [ic, V.cells]), rfl, rfl, rfl, rfl, trivial⟩ ⟨so rfl, so rfl, soA rfl (by simp [ic, V.cells]), soS rfl, trivial⟩ (by repeat' (first | exact trivial | exact rfl | exact slD_ment rfl | exact moS | exact mo rfl | refine ⟨?_, ?_⟩)) (by repeat' (first | exact trivial | exact rfl | exact slD_ment rfl | exact moS | exact mo rfl | refine ⟨?_, ?_⟩)))))))))
 refine Sat.exit (xq (xsM (nq (Sat.pubS 11 rfl rfl (Sat.weak (σ' := ⟨64, lk [(9, slD 61 1 ((chainsN x i).map slIC)), (11, .v (.sl ((pre ++ [cur]).map ic))), (5, .omap 14), (6, .omap 15), (32, .v (vi (total x.runs))), (33, .v (vi i))], lkO [(14, some ⟨.mp (mapL x.laps.length (lapA x) fun j => vi (lapB x j)), false⟩), (15, some ⟨.mp (mapL x.laps.length (lapB x) fun _ => .bool true), false⟩), (61, slS 1 ((chainsN x i).map slIC))]⟩) (weakO ⟨rfl, rfl, rfl, rfl, rfl, rfl, trivial⟩ ⟨so (by rw [frz_other (slD_names (by decide))]; rfl), so (by rw [frz_other (slD_names (by decide))]; rfl), soS (by rw [frz_other (slD_names (by decide))]; rfl), trivial⟩ (by repeat' (first | exact trivial | exact rfl | exact slD_ment rfl | exact moS | exact mo rfl | refine ⟨?_, ?_⟩)) (by repeat' (first | exact trivial | exact rfl | exact slD_ment rfl | exact moS | exact mo rfl | refine ⟨?_, ?_⟩))) ?_)))))
 refine zr (zo rfl (zo rfl (zo rfl ?_)))
 first | (refine step_app1 rfl (by first | exact .inl rfl | (right; simp)) rfl rfl rfl rfl rfl rfl (by first | (have := hA.len; simp; omega) | (have := chainsN_len x i; simp; omega)) rfl ?_) | (refine step_op rfl rfl rfl ?_)
 exact zo rfl (wn (nb (nq (zr (za rfl (zo rfl (wn (ns trivial (weakO ⟨rfl, rfl, slD_eq rfl (by first | exact chainsN_f h1 | exact chainsN_t h1 (chI_end hA h2)), rfl, rfl, trivial⟩ ⟨so rfl, so rfl, by first | exact soS (by rw [← chainsN_f h1]; rfl) | exact soA rfl (chainsN_t h1 (chI_end hA h2)), trivial⟩ (by repeat' (first | exact trivial | exact rfl | exact slD_ment rfl | exact moS | exact mo rfl | refine ⟨?_, ?_⟩)) (by repeat' (first | exact trivial | exact rfl | exact slD_ment rfl | exact moS | exact mo rfl | refine ⟨?_, ?_⟩)))))))))))
 refine zR (zo rfl (zw (zq (zn rfl (by simp; omega) (Sat.exit (xq (xe (nq (Sat.pubS 9 rfl rfl ?_)))))))))
 exact zR (zo rfl (zo rfl (zw (Sat.ret (ze rfl rfl)))))
theorem ok220' (x : Det) (h : detOk x = true) (n : Int) (hn : n = total x.runs) : Ok Tryz.prog 220 [.ag x.c, vi n] (.sl ((chainsN x (total x.runs).toNat).map slIC)) := by subst hn; exact ok220 x h
theorem ok172 (x : Det) (h : detOk x = true) : Ok Tryz.prog 172 [.ag x.c] (.tp [.sl ((chainsN x (total x.runs).toNat).map slIC), vi 0]) := by
 have ht := total_le (detP h).runs
 have e : ((mainRows x.bars x.runs (total x.runs).toNat).length : Int) = total x.runs := by rw [mainRows_len]; omega
 refine zz 17 Tryz.func172 rfl Tryz.call172 rfl (zR (zo rfl (zo rfl (zo rfl (zw (zR (zo rfl (zc rfl (ok94 x h) (zo rfl ?_)))))))))
 refine zo rfl (zo rfl (zo rfl (zo rfl (zw (zq (zR (zo rfl (zo rfl (zw (zn rfl (rfl) ?_))))))))))
 refine zk (zR (zo rfl (zo rfl (zo rfl (zc rfl (ok220' x h _ e) (zo rfl (zo rfl (zw (Sat.ret ?_)))))))))
 exact ze rfl rfl
end Go.Proofs.YtamjajacnfmgeaaGreat
