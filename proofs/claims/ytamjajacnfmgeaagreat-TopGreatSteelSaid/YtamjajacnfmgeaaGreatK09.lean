/-
  The abstract machine in use: silent steps, one lemma for each form. Condition: the table of types is the program's; the program draws its orders.
  Plain facts: all of the first n, the first of the first n, bytes. No condition.
  The abstract machine in use: slices that grow from nil, stores whose entries may lack, own things handed on as plain data. Condition: the table of types is the program's.
-/
import Derived.Test.YtamjajacnfmgeaaGreatK08
set_option linter.all false
namespace Go.Proofs.YtamjajacnfmgeaaGreat
open Go Go.RowKit
theorem putR_lk (r : List (Nat × D)) (t : Nat) (d : D) : putR (lk r) (some t) d = lk ((t, d) :: r) := rfl
section
variable {P : Program} {T : Nat → Option TI} {all : Array Oper} {ov : Store → Store} {K : St → Prop} {n : Nat} {r : List (Nat × D)} {s : Store}
theorem step_sil {o : Oper} (h : SilW P T all (fun _ => s) ⟨n, lk r, s⟩ o K) : stepWp P T all ⟨n, lk r, s⟩ o K := by
 obtain ⟨d, h1, h2⟩ := h
 exact (h1 s).step (σ := ⟨n, lk r, s⟩) h2
theorem sil_op {t : Nat} {op : Op} {ty : TypeId} {pos : String} {af : Array Edge} {d : D} (hd : (decide (t < n)) = true) (hc : callOf (lk r) op = none) (he : ∀ s, opEval T (ov s) (some t) (ev (lk r)) op = some (d, ov s)) (h : K ⟨n, lk ((t, d) :: r), s⟩) :
    SilW P T all ov ⟨n, lk r, s⟩ ⟨some t, op, ty, pos, af, none⟩ K := by
 refine ⟨d, fun s => ⟨hd, ?_⟩, h⟩
 simp only [guardD, hc]
 exact he s
section
variable {t : Nat} {op : Op} {ty : TypeId} {pos : String} {af : Array Edge} {j : Nat} {want b : Bool}
theorem sil_on (hg : gv all (lk r) j = some (.v (.bool b))) (hb : b = want) (h : SilW P T all ov ⟨n, lk r, s⟩ ⟨some t, op, ty, pos, af, none⟩ K) : SilW P T all ov ⟨n, lk r, s⟩ ⟨some t, op, ty, pos, af, some (j, want)⟩ K := by
 obtain ⟨d, h1, h2⟩ := h
 refine ⟨d, fun s => ⟨(h1 s).1, ?_⟩, h2⟩
 have := (h1 s).2
 simp only [guardD_eq, hg, hb, beq_self_eq_true]
 exact this
theorem sil_off (hd : (decide (t < n)) = true) (hg : gv all (lk r) j = some (.v (.bool b))) (hb : b = !want) (h : K ⟨n, lk ((t, .v (.tp [])) :: r), s⟩) : SilW P T all ov ⟨n, lk r, s⟩ ⟨some t, op, ty, pos, af, some (j, want)⟩ K := by
 refine ⟨.v (.tp []), fun s => ⟨hd, ?_⟩, h⟩
 have : (b == want) = false := by rw [hb]; cases want <;> rfl
 simp only [guardD_eq, hg, this]
theorem sil_offu (hd : (decide (t < n)) = true) (hg : gv all (lk r) j = some (.v (.tp []))) (h : K ⟨n, lk ((t, .v (.tp [])) :: r), s⟩) : SilW P T all ov ⟨n, lk r, s⟩ ⟨some t, op, ty, pos, af, some (j, want)⟩ K := by
 refine ⟨.v (.tp []), fun s => ⟨hd, ?_⟩, h⟩
 simp only [guardD_eq, hg]
theorem sil_split (hd : (decide (t < n)) = true) (hg : gv all (lk r) j = some (.v (.bool b))) (h1 : b = want → SilW P T all ov ⟨n, lk r, s⟩ ⟨some t, op, ty, pos, af, none⟩ K) (h2 : b = (!want) → K ⟨n, lk ((t, .v (.tp [])) :: r), s⟩) :
    SilW P T all ov ⟨n, lk r, s⟩ ⟨some t, op, ty, pos, af, some (j, want)⟩ K := by
 by_cases hb : b = want
 · exact sil_on hg hb (h1 hb)
 · exact sil_off hd hg (by cases b <;> cases want <;> simp_all) (h2 (by cases b <;> cases want <;> simp_all))
theorem sil_offT (hd : (decide (t < n)) = true) (hg : gv all (lk r) j = some (.v (.bool b))) (hb : b = false) (h : K ⟨n, lk ((t, .v (.tp [])) :: r), s⟩) : SilW P T all ov ⟨n, lk r, s⟩ ⟨some t, op, ty, pos, af, some (j, true)⟩ K := sil_off hd hg hb h
theorem sil_offF (hd : (decide (t < n)) = true) (hg : gv all (lk r) j = some (.v (.bool b))) (hb : b = true) (h : K ⟨n, lk ((t, .v (.tp [])) :: r), s⟩) : SilW P T all ov ⟨n, lk r, s⟩ ⟨some t, op, ty, pos, af, some (j, false)⟩ K := sil_off hd hg hb h
theorem sil_splitT (hd : (decide (t < n)) = true) (hg : gv all (lk r) j = some (.v (.bool b))) (h1 : b = true → SilW P T all ov ⟨n, lk r, s⟩ ⟨some t, op, ty, pos, af, none⟩ K) (h2 : b = false → K ⟨n, lk ((t, .v (.tp [])) :: r), s⟩) :
    SilW P T all ov ⟨n, lk r, s⟩ ⟨some t, op, ty, pos, af, some (j, true)⟩ K := sil_split hd hg h1 h2
theorem sil_splitF (hd : (decide (t < n)) = true) (hg : gv all (lk r) j = some (.v (.bool b))) (h1 : b = false → SilW P T all ov ⟨n, lk r, s⟩ ⟨some t, op, ty, pos, af, none⟩ K) (h2 : b = true → K ⟨n, lk ((t, .v (.tp [])) :: r), s⟩) :
    SilW P T all ov ⟨n, lk r, s⟩ ⟨some t, op, ty, pos, af, some (j, false)⟩ K := sil_split hd hg h1 h2
theorem sil_pick {c x y : Operand} {d : D} (hd : (decide (t < n)) = true) (hc : ev (lk r) c = some (.v (.bool b))) (hb : b = want) (hx : (if want then ev (lk r) x else ev (lk r) y) = some d) (h : K ⟨n, lk ((t, d) :: r), s⟩) :
    SilW P T all ov ⟨n, lk r, s⟩ ⟨some t, .pick c x y, ty, pos, af, none⟩ K := by
 subst hb
 refine ⟨d, fun s => ⟨hd, ?_⟩, h⟩
 simp only [guardD, callOf, opEval, hc, hx, Option.map_some]
end
def i64R (n : Int) : Prop := -9223372036854775808 ≤ n ∧ n ≤ 9223372036854775807
theorem wrap64 {n : Int} (h : i64R n) : IntKind.i64.wrap n = n := by
 unfold i64R at h
 rw [IntKind.wrap_i64]
 omega
section
variable {t : Nat} {ty ty2 ty3 : TypeId} {pos : String} {af : Array Edge} {x y : Operand} {a b : Int}
theorem sil_add (hd : (decide (t < n)) = true) (hx : ev (lk r) x = some (.v (.int .i64 a))) (hy : ev (lk r) y = some (.v (.int .i64 b))) (hb : i64R (a + b)) (h : K ⟨n, lk ((t, .v (.int .i64 (a + b))) :: r), s⟩) :
    SilW P T all ov ⟨n, lk r, s⟩ ⟨some t, .binOp .add ty x y ty3, ty2, pos, af, none⟩ K := by
 refine sil_op hd rfl (fun s => ?_) h
 simp only [opEval, hx, hy, binEval, intOp, if_true, Option.map_some, wrap64 hb]
theorem sil_sub (hd : (decide (t < n)) = true) (hx : ev (lk r) x = some (.v (.int .i64 a))) (hy : ev (lk r) y = some (.v (.int .i64 b))) (hb : i64R (a - b)) (h : K ⟨n, lk ((t, .v (.int .i64 (a - b))) :: r), s⟩) :
    SilW P T all ov ⟨n, lk r, s⟩ ⟨some t, .binOp .sub ty x y ty3, ty2, pos, af, none⟩ K := by
 refine sil_op hd rfl (fun s => ?_) h
 simp only [opEval, hx, hy, binEval, intOp, if_true, Option.map_some, wrap64 hb]
theorem sil_mul (hd : (decide (t < n)) = true) (hx : ev (lk r) x = some (.v (.int .i64 a))) (hy : ev (lk r) y = some (.v (.int .i64 b))) (hb : i64R (a * b)) (h : K ⟨n, lk ((t, .v (.int .i64 (a * b))) :: r), s⟩) :
    SilW P T all ov ⟨n, lk r, s⟩ ⟨some t, .binOp .mul ty x y ty3, ty2, pos, af, none⟩ K := by
 refine sil_op hd rfl (fun s => ?_) h
 simp only [opEval, hx, hy, binEval, intOp, if_true, Option.map_some, wrap64 hb]
end
theorem sil_neg {t : Nat} {ty ty2 : TypeId} {pos : String} {af : Array Edge} {x : Operand} {a : Int} (hd : (decide (t < n)) = true) (hx : ev (lk r) x = some (.v (.int .i64 a))) (hb : i64R (-a)) (h : K ⟨n, lk ((t, .v (.int .i64 (-a))) :: r), s⟩) :
    SilW P T all ov ⟨n, lk r, s⟩ ⟨some t, .unOp .neg ty x, ty2, pos, af, none⟩ K := by
 refine sil_op hd rfl (fun s => ?_) h
 have e : IntKind.i64.wrap (0 - a) = -a := by rw [wrap64 (by unfold i64R at *; omega)]; omega
 simp only [opEval, hx, e]
theorem sil_call {t : Nat} {op : Op} {ty : TypeId} {pos : String} {af : Array Edge} {g : Nat} {ds : List D} {xs : List V} {x : V} (hd : (decide (t < n)) = true) (hc : callOf (lk r) op = some (g, ds)) (hx : ∀ s, optList (pub (ov s) pubD) ds = some xs) (hn : ∀ s, ds.flatMap (pubN (ov s) pubD) = []) (hok : Ok P g xs x)
    (h : K ⟨n, lk ((t, .v x) :: r), s⟩) : SilW P T all ov ⟨n, lk r, s⟩ ⟨some t, op, ty, pos, af, none⟩ K := by
 refine ⟨.v x, fun s => ⟨hd, ?_⟩, h⟩
 simp only [guardD, hc]
 exact ⟨xs, x, hx s, hok, by rw [hn s, frz_nil], rfl⟩
theorem sil_callF {t : Nat} {op : Op} {ty : TypeId} {pos : String} {af : Array Edge} {g : Nat} {ds : List D} {xs : List V} {x : V} {ns : List Nat} {sl : List (Nat × Ent)} (hd : (decide (t < n)) = true) (hc : callOf (lk r) op = some (g, ds)) (hx : optList (pub (lk sl) pubD) ds = some xs) (hn : ds.flatMap (pubN (lk sl) pubD) = ns) (hf : frzL ns sl = sl) (hok : Ok P g xs x)
    (h : K ⟨n, lk ((t, .v x) :: r), s⟩) : SilW P T all (fun _ => lk sl) ⟨n, lk r, s⟩ ⟨some t, op, ty, pos, af, none⟩ K := by
 refine ⟨.v x, fun s => ⟨hd, ?_⟩, h⟩
 simp only [guardD, hc]
 exact ⟨xs, x, hx, hok, by rw [hn, frz_lk, hf], rfl⟩
theorem sil_index {q : Nat} {t : Nat} {x ix : Operand} {ty : TypeId} {pos : String} {af : Array Edge} {es eb sz : Nat} {ez z : List D} {e : Bool} {rows : List (List V)} {k : IntKind} {i : Int} {row : List V} (hd : (decide (q < n)) = true)
    (ht : T t = some ⟨.sl es eb ez, sz, z, e⟩) (hx : ev (lk r) x = some (.v (.sl rows))) (hi : ev (lk r) ix = some (.v (.int k i))) (h0 : 0 ≤ i) (hr : rows[i.toNat]? = some row) (hl : row.length = es) (h : K ⟨n, lk ((q, .v (.cp row 0)) :: r), s⟩) :
    SilW P T all ov ⟨n, lk r, s⟩ ⟨some q, .indexAddr t x ix, ty, pos, af, none⟩ K := by
 refine sil_op hd rfl (fun s => ?_) h
 simp only [opEval, ht, hx, hi, Option.bind_some, idx, if_pos h0, hr, if_pos hl]
theorem sil_byte {q : Nat} {t : Nat} {x ix : Operand} {ty : TypeId} {pos : String} {af : Array Edge} {sz : Nat} {z : List D} {e : Bool} {b : ByteArray} {k : IntKind} {i : Int} {c : UInt8} (hd : (decide (q < n)) = true)
    (ht : T t = some ⟨.str, sz, z, e⟩) (hx : ev (lk r) x = some (.v (.str b))) (hi : ev (lk r) ix = some (.v (.int k i))) (h0 : 0 ≤ i) (hr : b[i.toNat]? = some c) (h : K ⟨n, lk ((q, .v (.int .u8 c.toNat)) :: r), s⟩) :
    SilW P T all ov ⟨n, lk r, s⟩ ⟨some q, .index t x ix, ty, pos, af, none⟩ K := by
 refine sil_op hd rfl (fun s => ?_) h
 simp only [opEval, ht, hx, hi, Option.bind_some, idx, if_pos h0, hr, Option.map_some]
end
section
variable {P : Program} {T : Nat → Option TI} {all : Array Oper} {K : St → Prop} {n : Nat} {r : List (Nat × D)} {s : Store} {t : Nat} {op : Op} {ty : TypeId} {pos : String} {af : Array Edge} {j : Nat} {b : Bool}
theorem step_splitT (hd : (decide (t < n)) = true) (hg : gv all (lk r) j = some (.v (.bool b))) (h1 : b = true → stepWp P T all ⟨n, lk r, s⟩ ⟨some t, op, ty, pos, af, none⟩ K) (h2 : b = false → K ⟨n, lk ((t, .v (.tp [])) :: r), s⟩) :
    stepWp P T all ⟨n, lk r, s⟩ ⟨some t, op, ty, pos, af, some (j, true)⟩ K := step_split hd hg h1 h2
theorem step_splitF (hd : (decide (t < n)) = true) (hg : gv all (lk r) j = some (.v (.bool b))) (h1 : b = false → stepWp P T all ⟨n, lk r, s⟩ ⟨some t, op, ty, pos, af, none⟩ K) (h2 : b = true → K ⟨n, lk ((t, .v (.tp [])) :: r), s⟩) :
    stepWp P T all ⟨n, lk r, s⟩ ⟨some t, op, ty, pos, af, some (j, false)⟩ K := step_split hd hg h1 h2
end
def stepQ (b : Nat) (I : Nat → Prop) (S : Nat → St) (i : Nat) (Q : Exit → St → Prop) : Exit → St → Prop
  | .normal, σ => I (i + 1) ∧ Weak σ (S (i + 1))
  | e, σ => blockQ b Q e σ
def endQ (b : Nat) (Q : Exit → St → Prop) : Exit → St → Prop
  | .normal, _ => False
  | e, σ => blockQ b Q e σ
section
variable {k : St → Prop} {Q : Exit → St → Prop} {σ : St} {b c i : Nat} {I : Nat → Prop} {S : Nat → St}
theorem wn {P : Program} {T : Nat → Option TI} {all : Array Oper} {K : St → Prop} (h : K σ) : opsWp P T all K [] σ := h
theorem sn {P : Program} {T : Nat → Option TI} {all : Array Oper} {s : Store} {K : St → Prop} (h : K σ) : opsSil P T all s K [] σ := h
theorem kn {P : Program} {T : Nat → Option TI} {ops : Array Oper} {ov : Store → Store} {eff : List Nat} {K : St → Prop} (h : K σ) : walk P T ops ov eff K [] σ := h
theorem nq (h : k σ) : thenQ k Q .normal σ := h
theorem rq (h : Q .ret σ) : thenQ k Q .ret σ := h
theorem xq (h : Q (.exit c) σ) : thenQ k Q (.exit c) σ := h
theorem nb (h : Q .normal σ) : blockQ b Q .normal σ := h
theorem rb (h : Q .ret σ) : blockQ b Q .ret σ := h
theorem xb (h : Q .normal σ) : blockQ b Q (.exit b) σ := by simpa [blockQ] using h
theorem xc (hn : (c == b) = false) (h : Q (.exit c) σ) : blockQ b Q (.exit c) σ := by
 have : c ≠ b := by simpa using hn
 simpa [blockQ, this] using h
theorem ns (h : I (i + 1)) (hw : Weak σ (S (i + 1))) : stepQ b I S i Q .normal σ := ⟨h, hw⟩
theorem rs (h : Q .ret σ) : stepQ b I S i Q .ret σ := h
theorem xs (h : Q .normal σ) : stepQ b I S i Q (.exit b) σ := xb h
theorem re (h : Q .ret σ) : endQ b Q .ret σ := h
theorem xe (h : Q .normal σ) : endQ b Q (.exit b) σ := xb h
end
def noLoop : Code → Bool
  | .loop _ => false
  | _ => true
section
variable {P : Program} {T : Nat → Option TI} {id : Nat} {ops : Array Oper} {x y z : Code} {σ σ' : St} {Q : Exit → St → Prop} {n : Nat} {rl : List (Nat × D)} {s : Store}
theorem Sat.dr (hT : TabOk P T) (hm : P.follows .mixedOrders = true) (hw : textOk ops = true) (h : opsSil P T ops s (fun σ' => Q .normal σ') ops.toList ⟨n, lk rl, s⟩) : Sat P (.region id ops true) ⟨n, lk rl, s⟩ Q :=
  Sat.region_sil hT hm hw h
theorem Sat.dw (hT : TabOk P T) (hm : P.follows .mixedOrders = true) (ov : Store → Store) (eff ord : List Nat) (hl : ord.length ≤ ops.size) (hw : walkOk ops eff ord (Array.replicate ops.size false) = true) (hS : ov s = s)
    (h : walk P T ops ov eff (fun σ' => Q .normal σ') ord ⟨n, lk rl, s⟩) : Sat P (.region id ops true) ⟨n, lk rl, s⟩ Q :=
  Sat.region_any hT hm ov eff ord hl hw hS h
theorem Sat.to (hT : TabOk P T) (σ1 : St) (h : opsWp P T ops (fun σ' => Weak σ' σ1) ops.toList σ) (k : Q .normal σ1) : Sat P (.region id ops false) σ Q :=
  Sat.last_to hT h k
theorem Sat.dto (hT : TabOk P T) (hm : P.follows .mixedOrders = true) (hw : textOk ops = true) (σ1 : St) (h : opsSil P T ops s (fun σ' => Weak σ' σ1) ops.toList ⟨n, lk rl, s⟩) (k : Q .normal σ1) : Sat P (.region id ops true) ⟨n, lk rl, s⟩ Q :=
  Sat.post (Sat.region_sil hT hm hw (opsSil_mono (fun _ hw => ⟨σ1, hw, k⟩) h))
theorem Sat.condT {c : Operand} {t : Bool} (hc : ev σ.regs c = some (.v (.bool t))) (ht : t = true) (h : Sat P x σ Q) : Sat P (.cond c x y) σ Q :=
  Sat.cond hc (fun _ => h) fun hf => by rw [ht] at hf; cases hf
theorem Sat.condF {c : Operand} {t : Bool} (hc : ev σ.regs c = some (.v (.bool t))) (ht : t = false) (h : Sat P y σ Q) : Sat P (.cond c x y) σ Q :=
  Sat.cond hc (fun hf => by rw [ht] at hf; cases hf) (fun _ => h)
theorem Sat.blk {c : Code} (_ : noLoop c = true) (h : Sat P c σ (blockQ id Q)) : Sat P (.block id c) σ Q := Sat.block h
theorem bool_eq {f : Nat → Option D} {t : Nat} {x y : Bool} (h : f t = some (.v (.bool x))) (e : x = y) : f t = some (.v (.bool y)) := e ▸ h
theorem int_eq {f : Nat → Option D} {t : Nat} {k : IntKind} {x y : Int} (h : f t = some (.v (.int k x))) (e : x = y) : f t = some (.v (.int k y)) := e ▸ h
theorem v_eq {f : Nat → Option D} {t : Nat} {x y : V} (h : f t = some (.v x)) (e : x = y) : f t = some (.v y) := e ▸ h
theorem d_eq {f : Nat → Option D} {t : Nat} {x y : D} (h : f t = some x) (e : x = y) : f t = some y := e ▸ h
theorem ends_of {T : Nat → Option TI} {fn : Func} {r r' : V} {e : Exit} (he : (match e with | .normal | .ret => True | _ => False)) (h : resV T σ fn.results.toList = some r') (hr : r' = r) : Ends T fn r e σ := ⟨he, hr ▸ h⟩
theorem Sat.for {b : Nat} {c : Code} {I : Nat → Prop} {S : Nat → St} {N : Nat}
    (hstep : ∀ i, i < N → I i → Sat P c (S i) (stepQ b I S i Q))
    (hend : I N → Sat P c (S N) (endQ b Q)) :
    ∀ k, k ≤ N → I (N - k) → LSat P c (S (N - k)) (blockQ b Q)
  | 0, _, h => by
    refine LSat.step (Sat.mono (hend h) fun e σ' hq => ?_)
    cases e <;> simp only [thenQ, endQ] at hq ⊢ <;> first | exact hq | exact hq.elim
  | k + 1, hk, h => by
    refine LSat.step (Sat.mono (hstep (N - (k + 1)) (by omega) h) fun e σ' hq => ?_)
    cases e <;> simp only [thenQ, stepQ] at hq ⊢ <;> try exact hq
    have e : N - (k + 1) + 1 = N - k := by omega
    rw [e] at hq
    exact LSat.weak hq.2 (Sat.for hstep hend k (by omega) hq.1)
theorem Sat.loop' {b : Nat} {c : Code} (I : Nat → Prop) (S : Nat → St) (N : Nat) (hw : Weak σ (S 0)) (h0 : I 0)
    (hstep : ∀ i, i < N → I i → Sat P c (S i) (stepQ b I S i Q))
    (hend : I N → Sat P c (S N) (endQ b Q)) :
    Sat P (.block b (.loop c)) σ Q := by
 have := Sat.for hstep hend N (Nat.le_refl _) (by rw [Nat.sub_self]; exact h0)
 rw [Nat.sub_self] at this
 exact Sat.block (Sat.loop (LSat.weak hw this))
end
def ovr (N : List Nat) (s0 s : Store) : Store := fun m => if N.contains m then s0 m else s m
def AllEq (s0 s : Store) : List Nat → Prop
  | [] => True
  | n :: N => s n = s0 n ∧ AllEq s0 s N
theorem AllEq.of {s0 s : Store} : ∀ {N : List Nat} {m : Nat}, AllEq s0 s N → m ∈ N → s m = s0 m
  | n :: N, m, h, hm => by
    rcases List.mem_cons.1 hm with rfl | hm
    · exact h.1
    · exact AllEq.of h.2 hm
theorem ovr_eq {N : List Nat} {s0 s : Store} (h : AllEq s0 s N) : ovr N s0 s = s := by
 funext m
 unfold ovr
 split
 · rename_i hm; exact (AllEq.of h (by simpa using hm)).symm
 · rfl
section
variable {P : Program} {T : Nat → Option TI} {ops : Array Oper} {ov : Store → Store} {eff : List Nat} {Q : St → Prop} {i : Nat} {is : List Nat} {σ : St} {o : Oper}
theorem walk_sil (ho : ops[i]? = some o) (he : eff.contains i = false) (h : SilW P T ops ov σ o (walk P T ops ov eff Q is)) : walk P T ops ov eff Q (i :: is) σ := ⟨o, ho, by rw [he]; exact h⟩
theorem walk_eff (ho : ops[i]? = some o) (he : eff.contains i = true) (h : stepWp P T ops σ o fun σ' => (lastly ops i o = false → ov σ'.store = σ'.store) ∧ walk P T ops ov eff Q is σ') : walk P T ops ov eff Q (i :: is) σ := ⟨o, ho, by rw [he]; exact h⟩
theorem lastly_no {ops : Array Oper} {i : Nat} {o : Oper} {p : Prop} (h : lastly ops i o = true) : lastly ops i o = false → p := fun h' => by rw [h] at h'; cases h'
end
def gt {α : Type} [Inhabited α] (l : List α) (k : Int) : α := l.getD k.toNat default
theorem gt_idx {α : Type} [Inhabited α] {f : α → List V} {l : List α} {k : Int} (h0 : 0 ≤ k) (h1 : k < l.length) : (l.map f)[k.toNat]? = some (f (gt l k)) := by
 have : k.toNat < l.length := by omega
 simp [gt, List.getElem?_map, List.getElem?_eq_getElem this, List.getD_eq_getElem?_getD]
theorem gt_nat {α : Type} [Inhabited α] (l : List α) (i : Nat) : gt l (i : Int) = l.getD i default := rfl
theorem gt_get {α : Type} [Inhabited α] {l : List α} {i : Nat} (h : i < l.length) : gt l (i : Int) = l[i] := by
 simp [gt, List.getD_eq_getElem?_getD, List.getElem?_eq_getElem h]
theorem gt_mem {α : Type} [Inhabited α] {l : List α} {k : Int} (h0 : 0 ≤ k) (h1 : k < l.length) : gt l k ∈ l := by
 have : k.toNat < l.length := by omega
 simp only [gt, List.getD_eq_getElem?_getD, List.getElem?_eq_getElem this, Option.getD_some]
 exact List.getElem_mem this
theorem take_snoc {α : Type} [Inhabited α] {l : List α} {i : Nat} (h : i < l.length) : l.take (i + 1) = l.take i ++ [gt l (i : Int)] := by
 rw [gt_get h]; exact (List.take_append_getElem h).symm
end Go.Proofs.YtamjajacnfmgeaaGreat
namespace Go.Proofs.YtamjajacnfmgeaaGreat
open Go Go.RowKit
def allN (n : Nat) (p : Nat → Bool) : Bool := (List.range n).all p
theorem allN_iff {n : Nat} {p : Nat → Bool} : allN n p = true ↔ ∀ i, i < n → p i = true := by simp [allN]
theorem allN_false {n i : Nat} {p : Nat → Bool} (hi : i < n) (h : p i = false) : allN n p = false := by
 cases ha : allN n p with
 | false => rfl
 | true => rw [allN_iff.1 ha i hi] at h; cases h
theorem and_allN_false {n i : Nat} {p : Nat → Bool} {b : Bool} (hi : i < n) (h : p i = false) : (b && allN n p) = false := by rw [allN_false hi h]; simp
theorem and_allN_true {n : Nat} {p : Nat → Bool} {b : Bool} (hb : b = true) (h : ∀ i, i < n → p i = true) : (b && allN n p) = true := by rw [allN_iff.2 h, hb]; rfl
theorem all_step {p : Nat → Bool} {i : Nat} {v : Bool} (h : ∀ j, j < i → p j = v) (hi : p i = v) : ∀ j, j < i + 1 → p j = v := fun j hj => by
  rcases Nat.lt_or_ge j i with h1 | h1
  · exact h j h1
  · have : j = i := by omega
    rw [this]; exact hi
theorem all_zero {p : Nat → Bool} {v : Bool} : ∀ j, j < 0 → p j = v := fun j hj => by omega
def findN (n : Nat) (p : Nat → Bool) : Int := match (List.range n).find? p with
  | some i => i
  | none => -1
theorem find_range : ∀ (n : Nat) (p : Nat → Bool), (List.range n).find? p = none ∧ (∀ i, i < n → p i = false) ∨ ∃ i, (List.range n).find? p = some i ∧ i < n ∧ p i = true ∧ ∀ j, j < i → p j = false := by
 intro n p
 cases h : (List.range n).find? p with
 | none => exact .inl ⟨rfl, fun i hi => by simpa using List.find?_eq_none.1 h i (List.mem_range.2 hi)⟩
 | some i =>
   refine .inr ⟨i, rfl, ?_⟩
   rw [List.find?_range_eq_some] at h
   obtain ⟨h1, h2, h3⟩ := h
   exact ⟨by simpa using h2, h1, fun j hj => by simpa using h3 j hj⟩
theorem findN_eq {n i : Nat} {p : Nat → Bool} (hi : i < n) (h : p i = true) (hb : ∀ j, j < i → p j = false) : findN n p = i := by
 unfold findN
 rcases find_range n p with ⟨_, h2⟩ | ⟨j, h1, h2, h3, h4⟩
 · rw [h2 i hi] at h; cases h
 · rw [h1]
   have : j = i := by
     rcases Nat.lt_trichotomy j i with h5 | h5 | h5
     · rw [hb j h5] at h3; cases h3
     · exact h5
     · rw [h4 i h5] at h; cases h
   rw [this]
theorem findN_none {n : Nat} {p : Nat → Bool} (h : ∀ j, j < n → p j = false) : findN n p = -1 := by
 unfold findN
 rcases find_range n p with ⟨h1, _⟩ | ⟨j, h1, h2, h3, h4⟩
 · rw [h1]
 · rw [h j h2] at h3; cases h3
theorem findN_cases (n : Nat) (p : Nat → Bool) : findN n p = -1 ∧ (∀ i, i < n → p i = false) ∨ ∃ i : Nat, findN n p = i ∧ i < n ∧ p i = true ∧ ∀ j, j < i → p j = false := by
 rcases find_range n p with ⟨h1, h2⟩ | ⟨j, h1, h2, h3, h4⟩
 · exact .inl ⟨findN_none h2, h2⟩
 · exact .inr ⟨j, findN_eq h2 h3 h4, h2, h3, h4⟩
theorem findN_lt (n : Nat) (p : Nat → Bool) : -1 ≤ findN n p ∧ findN n p < n := by
 rcases findN_cases n p with ⟨h, _⟩ | ⟨i, h, h2, _⟩
 · rw [h]; omega
 · rw [h]; omega
def bs (s : ByteArray) : List UInt8 := s.data.toList
def byteN (s : ByteArray) (i : Nat) : Int := ((bs s).getD i 0).toNat
theorem bs_len (s : ByteArray) : (bs s).length = s.size := by cases s; rfl
theorem byte_at {s : ByteArray} {i : Int} (h0 : 0 ≤ i) (h : i < s.size) : s[i.toNat]? = some ((bs s).getD i.toNat 0) := by
 have hn : i.toNat < s.size := by omega
 have hl : i.toNat < (bs s).length := by rw [bs_len]; exact hn
 rw [List.getD_eq_getElem?_getD, List.getElem?_eq_getElem hl, Option.getD_some]
 have : s[i.toNat]? = some s[i.toNat] := getElem?_pos s i.toNat hn
 rw [this]
 cases s; rfl
theorem vb {a b : Bool} (h : a = b) : V.bool a = V.bool b := by rw [h]
theorem vint {a b : Int} (h : a = b) : V.int .i64 a = V.int .i64 b := by rw [h]
theorem pos_of {n : Nat} (h : ((n : Int) == 0) = false) : (0 : Int) < n := by
 have : (n : Int) ≠ 0 := by simpa using h
 omega
def sumI : Nat → (Nat → Int) → Int
  | 0, _ => 0
  | n + 1, f => sumI n f + f n
theorem sumI_le {f : Nat → Int} {B : Int} : ∀ {n : Nat}, (∀ j, j < n → 0 ≤ f j ∧ f j ≤ B) → 0 ≤ sumI n f ∧ sumI n f ≤ B * n
  | 0, _ => by simp [sumI]
  | n + 1, h => by
    have h1 := sumI_le (n := n) fun j hj => h j (by omega)
    have h2 := h n (by omega)
    have e : B * ((n : Nat) + 1 : Nat) = B * n + B := by rw [Int.natCast_add]; simp [Int.mul_add]
    simp only [sumI]
    omega
theorem sumI_congr {f g : Nat → Int} : ∀ {n : Nat}, (∀ j, j < n → f j = g j) → sumI n f = sumI n g
  | 0, _ => rfl
  | n + 1, h => by simp only [sumI]; rw [sumI_congr fun j hj => h j (by omega), h n (by omega)]
end Go.Proofs.YtamjajacnfmgeaaGreat
namespace Go.Proofs.YtamjajacnfmgeaaGreat
open Go Go.RowKit
def slD (n k : Nat) : List (List V) → D
  | [] => .nil
  | row :: rows => .osl n k (rows.length + 1) 0 (rows.length + 1)
def slS (k : Nat) : List (List V) → Option Ent
  | [] => none
  | row :: rows => some ⟨.sl k (row :: rows), false⟩
theorem slD_of {n k : Nat} {rows : List (List V)} (h : rows ≠ []) : slD n k rows = .osl n k rows.length 0 rows.length := by
 cases rows with
 | nil => exact (h rfl).elim
 | cons a l => rfl
theorem slS_of {k : Nat} {rows : List (List V)} (h : rows ≠ []) : slS k rows = some ⟨.sl k rows, false⟩ := by
 cases rows with
 | nil => exact (h rfl).elim
 | cons a l => rfl
def lkO : List (Nat × Option Ent) → Store
  | [], _ => none
  | (a, x) :: r, t => if t = a then x else lkO r t
def SubO (g : Store) : List (Nat × Option Ent) → Prop
  | [] => True
  | (t, o) :: r => (∀ e, o = some e → g t = some e) ∧ SubO g r
theorem so {g : Store} {t : Nat} {e : Ent} (h : g t = some e) : ∀ e', some e = some e' → g t = some e' := fun e' he => by cases he; exact h
theorem soS {g : Store} {t k : Nat} {rows : List (List V)} (h : g t = slS k rows) : ∀ e', slS k rows = some e' → g t = some e' := fun e' he => by rw [h]; exact he
theorem soA {g : Store} {t k : Nat} {rows rows' : List (List V)} (h : g t = some ⟨.sl k rows, false⟩) (e : rows = rows') : ∀ e', slS k rows' = some e' → g t = some e' := fun e' he => by
  subst e
  cases rows with
  | nil => cases he
  | cons a l => rw [h]; exact he
theorem lkO_sub {g : Store} : ∀ {ol : List (Nat × Option Ent)} {t : Nat} {e : Ent}, SubO g ol → lkO ol t = some e → g t = some e
  | [], t, e, _, h => by cases h
  | (a, x) :: r, t, e, hs, h => by
    simp only [lkO] at h
    split at h
    · rename_i ht; subst ht; exact hs.1 e h
    · exact lkO_sub hs.2 h
def MentL (has : Nat → Bool) : List (Nat × D) → Prop
  | [] => True
  | (_, d) :: r => mentOk has pubD d = true ∧ MentL has r
def MentO (has : Nat → Bool) : List (Nat × Option Ent) → Prop
  | [] => True
  | (_, o) :: r => (∀ e, o = some e → e.mentOk has pubD = true) ∧ MentO has r
theorem MentL.mem {has : Nat → Bool} : ∀ {l : List (Nat × D)} {t : Nat} {d : D}, MentL has l → lk l t = some d → mentOk has pubD d = true
  | [], t, d, _, h => by cases h
  | (a, x) :: r, t, d, hm, h => by
    rw [lk_cons] at h
    split at h
    · cases h; exact hm.1
    · exact MentL.mem hm.2 h
theorem MentO.mem {has : Nat → Bool} : ∀ {l : List (Nat × Option Ent)} {t : Nat} {e : Ent}, MentO has l → lkO l t = some e → e.mentOk has pubD = true
  | [], t, e, _, h => by cases h
  | (a, x) :: r, t, e, hm, h => by
    simp only [lkO] at h
    split at h
    · exact hm.1 e h
    · exact MentO.mem hm.2 h
def hasO (ol : List (Nat × Option Ent)) (n : Nat) : Bool := (lkO ol n).isSome
theorem weakO {n : Nat} {f : Nat → Option D} {g : Store} {rl : List (Nat × D)} {ol : List (Nat × Option Ent)} (h1 : Sub f rl) (h2 : SubO g ol) (h3 : MentL (hasO ol) rl) (h4 : MentO (hasO ol) ol) :
    Weak ⟨n, f, g⟩ ⟨n, lk rl, lkO ol⟩ :=
  ⟨rfl, fun t d h => ⟨h1.mem (lk_mem h), h3.mem h⟩, fun m e h => ⟨lkO_sub h2 h, h4.mem h⟩⟩
theorem slD_ment {has : Nat → Bool} {n k : Nat} {rows : List (List V)} (h : has n = (slS k rows).isSome) : mentOk has pubD (slD n k rows) = true := by
 cases rows with
 | nil => rfl
 | cons a l => exact h
theorem mo {has : Nat → Bool} {e : Ent} (h : e.mentOk has pubD = true) : ∀ e', some e = some e' → e'.mentOk has pubD = true := fun e' he => by cases he; exact h
theorem moS {has : Nat → Bool} {k : Nat} {rows : List (List V)} : ∀ e', slS k rows = some e' → e'.mentOk has pubD = true := fun e' he => by
  cases rows with
  | nil => cases he
  | cons a l => cases he; rfl
theorem slD_eq {f : Nat → Option D} {t n k : Nat} {x y : List (List V)} (h : f t = some (slD n k x)) (e : x = y) : f t = some (slD n k y) := e ▸ h
theorem ent_eq {f : Store} {t k : Nat} {x y : List (List V)} {z : Bool} (h : f t = some ⟨.sl k x, z⟩) (e : x = y) : f t = some ⟨.sl k y, z⟩ := e ▸ h
section
variable {P : Program} {T : Nat → Option TI} {all : Array Oper} {K : St → Prop} {m : Nat} {r : List (Nat × D)} {s : Store}
theorem step_app {n q : Nat} {x y : Operand} {ts : Array TypeId} {ty : TypeId} {pos : String} {af : Array Edge} {t es eb sz : Nat} {ez z : List D} {e : Bool} {rows new : List (List V)} (hd : (decide (q < m)) = true) (hq : q = n ∨ rows ≠ [])
    (ht : T t = some ⟨.sl es eb ez, sz, z, e⟩) (hts : ts = #[t, t]) (hx : ev (lk r) x = some (slD n es rows)) (hs : s n = slS es rows) (hy : (ev (lk r) y).bind (rowsOf s) = some new) (hne : new ≠ []) (hes : (decide (0 < es) && ez.length == es && new.all (fun r => r.length == es && r.all V.one)) = true) (hb : rows.length + new.length ≤ 1048576) (heb : (decide (eb ≤ 1048576)) = true)
    (h : K ⟨m, lk ((q, slD n es (rows ++ new)) :: r), upd s n ⟨.sl es (rows ++ new), false⟩⟩) :
    stepWp P T all ⟨m, lk r, s⟩ ⟨some q, .call ⟨.builtin .append, #[x, y], ts⟩, ty, pos, af, none⟩ K := by
 subst hts
 simp only [Bool.and_eq_true, decide_eq_true_eq, beq_iff_eq] at hes heb
 obtain ⟨⟨h0, hz⟩, hall⟩ := hes
 obtain ⟨dy, hdy, hy⟩ := Option.bind_eq_some_iff.1 hy
 have hrn : rows ++ new ≠ [] := by simp [hne]
 have key : appendD s (some q) es eb (slD n es rows) new = some (slD n es (rows ++ new), upd s n ⟨.sl es (rows ++ new), false⟩) := by
   cases new with
   | nil => exact (hne rfl).elim
   | cons a l =>
     cases rows with
     | nil =>
       have hm : l.length + 1 ≤ mostRows ∧ eb ≤ mostRows := ⟨by simpa [mostRows] using hb, by simpa [mostRows] using heb⟩
       obtain rfl : q = n := hq.resolve_right (fun h => h rfl)
       simp only [appendD, slD, ownNew, hs, slS, Option.isNone_none, if_true, Option.map_some, List.nil_append, List.length_cons, if_pos hm]
     | cons b k =>
       have hm : k.length + (l.length + 1) + 1 ≤ mostRows ∧ eb ≤ mostRows :=
         ⟨by simp [mostRows] at hb ⊢; omega, by simpa [mostRows] using heb⟩
       have : k.length + 1 + (l.length + 1) = k.length + (l.length + 1) + 1 := by omega
       simp only [appendD, slD, hs, slS, List.cons_append, List.length_append, List.length_cons, this, true_and, if_pos hm]
 refine step_op hd rfl ?_ h
 have ho : optList (ev (lk r)) [x, y] = some [slD n es rows, dy] := by simp [optList, hx, hdy]
 simp only [opEval, ho]
 have hcond : (0 < es ∧ ez.length = es ∧ (new.all fun r => r.length == es && r.all V.one) = true) := ⟨h0, hz, hall⟩
 simp only [builtinD, ht, hy, List.getElem?_toArray, List.getElem?_cons_zero, List.getElem?_cons_succ, List.size_toArray, List.length_cons, List.length_nil, Nat.zero_add, Nat.reduceAdd, and_self, if_true, if_pos hcond, key]
theorem step_app1 {n q : Nat} {x y : Operand} {ts : Array TypeId} {ty : TypeId} {pos : String} {af : Array Edge} {t es eb sz : Nat} {ez z : List D} {e : Bool} {rows : List (List V)} {row : List V} (hd : (decide (q < m)) = true) (hq : q = n ∨ rows ≠ [])
    (ht : T t = some ⟨.sl es eb ez, sz, z, e⟩) (hts : ts = #[t, t]) (hx : ev (lk r) x = some (slD n es rows)) (hs : s n = slS es rows) (hy : (ev (lk r) y).bind (rowsOf s) = some [row]) (hes : (decide (0 < es) && ez.length == es && (row.length == es && row.all V.one)) = true) (hb : rows.length + 1 ≤ 1048576) (heb : (decide (eb ≤ 1048576)) = true)
    (h : K ⟨m, lk ((q, slD n es (rows ++ [row])) :: r), upd s n ⟨.sl es (rows ++ [row]), false⟩⟩) :
    stepWp P T all ⟨m, lk r, s⟩ ⟨some q, .call ⟨.builtin .append, #[x, y], ts⟩, ty, pos, af, none⟩ K :=
  step_app hd hq ht hts hx hs hy (by simp) (by simpa using hes) hb heb h
end
theorem Fits.pub {Φ : Fr} {σ : St} {a : Act} {W : World} (h : Fits Φ σ a W) {t : Nat} {d : D} {x : V} (ht : σ.regs t = some d) (hp : pub σ.store pubD d = some x) : Fits Φ ⟨σ.n, upd σ.regs t (.v x), frz σ.store (pubN σ.store pubD d)⟩ a W := by
 obtain ⟨⟨E, hs, hr⟩, hsz, hd⟩ := h
 have hsf := hs.frz_sr (pubN σ.store pubD d)
 have hxf := hs.frz_ext (pubN σ.store pubD d)
 refine ⟨⟨_, hsf, fun q e hq => ?_⟩, hsz, hd⟩
 simp only [upd] at hq
 by_cases hqt : q = t
 · subst hqt
   rw [if_pos rfl] at hq
   cases hq
   exact .v x _ (pub_sound hs _ pubD d _ x (hr q d ht) hp fun m hm => hm)
 · rw [if_neg hqt] at hq
   exact (hr q e hq).mono hxf
theorem Sat.pub {P : Program} {c : Code} {n : Nat} {rl : List (Nat × D)} {s : Store} {Q : Exit → St → Prop} {t : Nat} {d : D} {x : V} (ht : lk rl t = some d) (hp : pub s pubD d = some x) (h : Sat P c ⟨n, lk ((t, .v x) :: rl), frz s (pubN s pubD d)⟩ Q) : Sat P c ⟨n, lk rl, s⟩ Q :=
  fun Φ a W hf => h Φ a W (hf.pub ht hp)
theorem pub_slD {s : Store} {n k : Nat} {rows : List (List V)} (h : s n = slS k rows) : pub s pubD (slD n k rows) = some (.sl rows) := by
 cases rows with
 | nil => rfl
 | cons a l =>
   simp only [slD, pubD, Go.Proofs.YtamjajacnfmgeaaGreat.pub, h, slS, List.length_cons, and_self, if_true, List.drop_zero]
   congr 2
   exact List.take_of_length_le (by simp)
theorem Sat.pubS {P : Program} {c : Code} {n : Nat} {rl : List (Nat × D)} {s : Store} {Q : Exit → St → Prop} (t : Nat) {m k : Nat} {rows : List (List V)} (ht : lk rl t = some (slD m k rows)) (hs : s m = slS k rows) (h : Sat P c ⟨n, lk ((t, .v (.sl rows)) :: rl), frz s (pubN s pubD (slD m k rows))⟩ Q) : Sat P c ⟨n, lk rl, s⟩ Q :=
  Sat.pub ht (pub_slD hs) h
theorem frz_other {s : Store} {ns : List Nat} {m : Nat} (h : ns.contains m = false) : frz s ns m = s m := by simp only [frz, h, Bool.false_eq_true, if_false]
theorem slD_names {s : Store} {n k m : Nat} {rows : List (List V)} (h : m ≠ n) : (pubN s pubD (slD n k rows)).contains m = false := by
 cases rows with
 | nil => rfl
 | cons a l => simp [slD, pubD, pubN, h]
theorem ovr_self (N : List Nat) (s : Store) : ovr N s s = s := by funext m; unfold ovr; split <;> rfl
theorem Sat.dwN {P : Program} {T : Nat → Option TI} {id : Nat} {ops : Array Oper} {Q : Exit → St → Prop} {n : Nat} {rl : List (Nat × D)} {s : Store} (hT : TabOk P T) (hm : P.follows .mixedOrders = true) (N eff ord : List Nat) (hl : ord.length ≤ ops.size) (hw : walkOk ops eff ord (Array.replicate ops.size false) = true)
    (h : walk P T ops (ovr N s) eff (fun σ' => Q .normal σ') ord ⟨n, lk rl, s⟩) : Sat P (.region id ops true) ⟨n, lk rl, s⟩ Q :=
  Sat.region_any hT hm (ovr N s) eff ord hl hw (ovr_self N s) h
theorem rangeM_snoc {α : Type} (f : Nat → α) (n : Nat) : (List.range (n + 1)).map f = (List.range n).map f ++ [f n] := by simp [List.range_succ]
theorem rangeM_gt {α : Type} [Inhabited α] {f : Nat → α} {n : Nat} {k : Int} (h0 : 0 ≤ k) (h : k < n) : gt ((List.range n).map f) k = f k.toNat := by
 have : k.toNat < n := by omega
 simp [gt, List.getD_eq_getElem?_getD, List.getElem?_map, List.getElem?_range this]
theorem drop_take2 {α : Type} [Inhabited α] {l : List α} {a : Nat} (h : a + 2 ≤ l.length) : (l.drop a).take 2 = [gt l (a : Int), gt l ((a : Int) + 1)] := by
 have h1 : a < l.length := by omega
 have h2 : a + 1 < l.length := by omega
 have e : ((a : Int) + 1) = ((a + 1 : Nat) : Int) := by omega
 rw [e, gt_get h1, gt_get h2, List.drop_eq_getElem_cons h1, List.drop_eq_getElem_cons h2]
 rfl
theorem sil_slice2 {P : Program} {T : Nat → Option TI} {all : Array Oper} {ov : Store → Store} {K : St → Prop} {n : Nat} {r : List (Nat × D)} {s : Store} {α : Type} [Inhabited α] {f : α → List V} {l : List α} {q t : Nat} {x lo hi : Operand} {ty : TypeId} {pos : String} {af : Array Edge} {es eb sz : Nat} {ez z : List D} {e : Bool} {k k' : IntKind} {a b : Int} (hd : (decide (q < n)) = true)
    (ht : T t = some ⟨.sl es eb ez, sz, z, e⟩) (hx : ev (lk r) x = some (.v (.sl (l.map f)))) (hlo : ev (lk r) lo = some (.v (.int k a))) (hhi : ev (lk r) hi = some (.v (.int k' b))) (h0 : 0 ≤ a) (hb : b = a + 2) (hl : b ≤ l.length) (hf : ∀ x, (f x).length = es)
    (h : K ⟨n, lk ((q, .v (.sl ([gt l a, gt l (a + 1)].map f))) :: r), s⟩) :
    SilW P T all ov ⟨n, lk r, s⟩ ⟨some q, .slice t x (some lo) (some hi) none, ty, pos, af, none⟩ K := by
 have hi0 : 0 ≤ b := by omega
 refine sil_op hd rfl (fun s => ?_) h
 have e1 : b.toNat - a.toNat = 2 := by omega
 have e2 : ((a.toNat : Nat) : Int) = a := by omega
 have hcond : a.toNat ≤ b.toNat ∧ b.toNat ≤ (l.map f).length ∧ rowFits es ((l.map f)[a.toNat]?) := by
   refine ⟨by omega, by simp; omega, ?_⟩
   rw [List.getElem?_map]
   cases l[a.toNat]? with
   | none => trivial
   | some x => exact hf x
 have e3 : (List.drop a.toNat (l.map f)).take 2 = [gt l a, gt l (a + 1)].map f := by
   rw [← List.map_drop, ← List.map_take, drop_take2 (by omega), e2]
 simp only [opEval, ht, hx, hlo, hhi, Option.isNone_none, if_true, Option.bind_some, idx, if_pos h0, if_pos hi0, if_pos hcond, e1, e3]
end Go.Proofs.YtamjajacnfmgeaaGreat
