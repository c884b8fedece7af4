/-
  The abstract machine in use: states as lists, regions step by step, what is kept behind a region. Condition: the table of types is the program's.
  The abstract machine on regions that draw their order: what is silent may be taken first. Condition: the table of types is the program's; the program draws its orders.
-/
import Derived.Test.YtamjajacnfmgeaaGreatK07
set_option linter.all false
namespace Go.Proofs.YtamjajacnfmgeaaGreat
open Go Go.RowKit
theorem lk_nil {α : Type} (t : Nat) : lk ([] : List (Nat × α)) t = none := rfl
theorem lk_cons {α : Type} (a : Nat) (x : α) (r : List (Nat × α)) (t : Nat) : lk ((a, x) :: r) t = if t = a then some x else lk r t := rfl
theorem lk_mem {α : Type} : ∀ {l : List (Nat × α)} {t : Nat} {x : α}, lk l t = some x → (t, x) ∈ l
  | [], t, x, h => by cases h
  | (a, y) :: r, t, x, h => by
    rw [lk_cons] at h
    split at h
    · rename_i ht; cases h; subst ht; exact List.mem_cons_self ..
    · exact List.mem_cons_of_mem _ (lk_mem h)
def Sub {α : Type} (f : Nat → Option α) : List (Nat × α) → Prop
  | [] => True
  | (t, x) :: r => f t = some x ∧ Sub f r
theorem Sub.mem {α : Type} {f : Nat → Option α} : ∀ {l : List (Nat × α)} {t : Nat} {x : α}, Sub f l → (t, x) ∈ l → f t = some x
  | (a, y) :: r, t, x, h, hm => by
    rcases List.mem_cons.1 hm with he | hm
    · cases he; exact h.1
    · exact h.2.mem hm
def hasL (sl : List (Nat × Ent)) (n : Nat) : Bool := (lk sl n).isSome
theorem weak_of {n : Nat} {f : Nat → Option D} {g : Store} {rl : List (Nat × D)} {sl : List (Nat × Ent)} (h1 : Sub f rl) (h2 : Sub g sl) (h3 : (rl.all fun p => mentOk (hasL sl) pubD p.2) = true) (h4 : (sl.all fun p => p.2.mentOk (hasL sl) pubD) = true) :
    Weak ⟨n, f, g⟩ ⟨n, lk rl, lk sl⟩ :=
  ⟨rfl, fun t d h => ⟨h1.mem (lk_mem h), List.all_eq_true.1 h3 _ (lk_mem h)⟩, fun m e h => ⟨h2.mem (lk_mem h), List.all_eq_true.1 h4 _ (lk_mem h)⟩⟩
theorem put_some (n : Nat) (r : List (Nat × D)) (s s' : Store) (t : Nat) (d : D) : St.put ⟨n, lk r, s⟩ (some t) s' d = ⟨n, lk ((t, d) :: r), s'⟩ := rfl
theorem put_none (n : Nat) (r : List (Nat × D)) (s s' : Store) (d : D) : St.put ⟨n, lk r, s⟩ none s' d = ⟨n, lk r, s'⟩ := rfl
theorem ev_tmp (r : Nat → Option D) (t : Nat) : ev r (.tmp t) = r t := rfl
theorem ev_int (r : Nat → Option D) (k : IntKind) (n : Int) : ev r (.const (.int k n)) = some (.v (.int k n)) := rfl
theorem ev_bool (r : Nat → Option D) (b : Bool) : ev r (.const (.bool b)) = some (.v (.bool b)) := rfl
theorem ev_str (r : Nat → Option D) (b : ByteArray) : ev r (.const (.string b)) = some (.v (.str b)) := rfl
theorem ev_nil (r : Nat → Option D) : ev r (.const (.slice none 0 0)) = some .nil := rfl
theorem ev_np (r : Nat → Option D) : ev r (.const (.pointer none)) = some (.v .np) := rfl
theorem ev_agg (r : Nat → Option D) (cs : Array Value) : ev r (.const (.agg cs)) = some (.ag (cs.toList.map constV)) := rfl
theorem ev_nf (r : Nat → Option D) : ev r (.const .nilFunc) = some .any := rfl
theorem ev_func (r : Nat → Option D) (f : Nat) : ev r (.func f) = some (.fn f []) := rfl
theorem opsWp_nil {P : Program} {T : Nat → Option TI} {all : Array Oper} {Q : St → Prop} {σ : St} : opsWp P T all Q [] σ = Q σ := rfl
theorem opsWp_cons {P : Program} {T : Nat → Option TI} {all : Array Oper} {Q : St → Prop} {o : Oper} {os : List Oper} {σ : St} : opsWp P T all Q (o :: os) σ = stepWp P T all σ o (opsWp P T all Q os) := rfl
section
variable {P : Program} {T : Nat → Option TI} {all : Array Oper} {K : St → Prop} {n : Nat} {r : List (Nat × D)} {s : Store}
theorem step_op {t : Nat} {op : Op} {ty : TypeId} {pos : String} {af : Array Edge} {d : D} {s' : Store} (hd : (decide (t < n)) = true) (hc : callOf (lk r) op = none) (he : opEval T s (some t) (ev (lk r)) op = some (d, s')) (h : K ⟨n, lk ((t, d) :: r), s'⟩) :
    stepWp P T all ⟨n, lk r, s⟩ ⟨some t, op, ty, pos, af, none⟩ K := by
 refine ⟨hd, ?_⟩
 simp only [guardD, stepGo, hc, he]
 exact h
theorem step_do {op : Op} {ty : TypeId} {pos : String} {af : Array Edge} {d : D} {s' : Store} (hc : callOf (lk r) op = none) (he : opEval T s none (ev (lk r)) op = some (d, s')) (h : K ⟨n, lk r, s'⟩) :
    stepWp P T all ⟨n, lk r, s⟩ ⟨none, op, ty, pos, af, none⟩ K := by
 refine ⟨rfl, ?_⟩
 simp only [guardD, stepGo, hc, he]
 exact h
def gv (all : Array Oper) (r : Nat → Option D) (j : Nat) : Option D := ((all[j]?).bind (·.dst)).bind r
theorem guardD_eq (all : Array Oper) (r : Nat → Option D) (j : Nat) (want : Bool) : guardD all r (some (j, want)) = match gv all r j with
    | some (.v (.bool b)) => some (b == want)
    | some (.v (.tp [])) => some false
    | _ => none := rfl
section
variable {t : Nat} {op : Op} {ty : TypeId} {pos : String} {af : Array Edge} {j : Nat} {want b : Bool}
theorem step_on (hg : gv all (lk r) j = some (.v (.bool b))) (hb : b = want) (h : stepWp P T all ⟨n, lk r, s⟩ ⟨some t, op, ty, pos, af, none⟩ K) : stepWp P T all ⟨n, lk r, s⟩ ⟨some t, op, ty, pos, af, some (j, want)⟩ K := by
 refine ⟨h.1, ?_⟩
 simp only [guardD_eq, hg, hb, beq_self_eq_true]
 exact h.2
theorem step_off (hd : (decide (t < n)) = true) (hg : gv all (lk r) j = some (.v (.bool b))) (hb : b = !want) (h : K ⟨n, lk ((t, .v (.tp [])) :: r), s⟩) : stepWp P T all ⟨n, lk r, s⟩ ⟨some t, op, ty, pos, af, some (j, want)⟩ K := by
 refine ⟨hd, ?_⟩
 have : (b == want) = false := by rw [hb]; cases want <;> rfl
 simp only [guardD_eq, hg, this]
 exact h
theorem step_offu (hd : (decide (t < n)) = true) (hg : gv all (lk r) j = some (.v (.tp []))) (h : K ⟨n, lk ((t, .v (.tp [])) :: r), s⟩) : stepWp P T all ⟨n, lk r, s⟩ ⟨some t, op, ty, pos, af, some (j, want)⟩ K := by
 refine ⟨hd, ?_⟩
 simp only [guardD_eq, hg]
 exact h
theorem step_split (hd : (decide (t < n)) = true) (hg : gv all (lk r) j = some (.v (.bool b))) (h1 : b = want → stepWp P T all ⟨n, lk r, s⟩ ⟨some t, op, ty, pos, af, none⟩ K) (h2 : b = (!want) → K ⟨n, lk ((t, .v (.tp [])) :: r), s⟩) :
    stepWp P T all ⟨n, lk r, s⟩ ⟨some t, op, ty, pos, af, some (j, want)⟩ K := by
 by_cases hb : b = want
 · exact step_on hg hb (h1 hb)
 · exact step_off hd hg (by cases b <;> cases want <;> simp_all) (h2 (by cases b <;> cases want <;> simp_all))
theorem step_pick {c x y : Operand} {d : D} (hd : (decide (t < n)) = true) (hc : ev (lk r) c = some (.v (.bool b))) (hb : b = want) (hx : (if want then ev (lk r) x else ev (lk r) y) = some d) (h : K ⟨n, lk ((t, d) :: r), s⟩) :
    stepWp P T all ⟨n, lk r, s⟩ ⟨some t, .pick c x y, ty, pos, af, none⟩ K := by
 subst hb
 refine ⟨hd, ?_⟩
 simp only [guardD, stepGo, callOf, opEval, hc, hx, Option.map_some]
 exact h
end
theorem step_call {t : Nat} {op : Op} {ty : TypeId} {pos : String} {af : Array Edge} {g : Nat} {ds : List D} {xs : List V} {x : V} (hd : (decide (t < n)) = true) (hc : callOf (lk r) op = some (g, ds)) (hx : optList (pub s pubD) ds = some xs) (hok : Ok P g xs x)
    (h : K ⟨n, lk ((t, .v x) :: r), frz s (ds.flatMap (pubN s pubD))⟩) :
    stepWp P T all ⟨n, lk r, s⟩ ⟨some t, op, ty, pos, af, none⟩ K := by
 refine ⟨hd, ?_⟩
 simp only [guardD, stepGo, hc]
 exact ⟨xs, x, hx, hok, h⟩
theorem step_index {q : Nat} {t : Nat} {x ix : Operand} {ty : TypeId} {pos : String} {af : Array Edge} {es eb sz : Nat} {ez z : List D} {e : Bool} {rows : List (List V)} {k : IntKind} {i : Int} {row : List V} (hd : (decide (q < n)) = true)
    (ht : T t = some ⟨.sl es eb ez, sz, z, e⟩) (hx : ev (lk r) x = some (.v (.sl rows))) (hi : ev (lk r) ix = some (.v (.int k i))) (h0 : 0 ≤ i) (hr : rows[i.toNat]? = some row) (hl : row.length = es) (h : K ⟨n, lk ((q, .v (.cp row 0)) :: r), s⟩) :
    stepWp P T all ⟨n, lk r, s⟩ ⟨some q, .indexAddr t x ix, ty, pos, af, none⟩ K := by
 refine ⟨hd, ?_⟩
 simp only [guardD, stepGo, callOf, opEval, ht, hx, hi, Option.bind_some, idx, if_pos h0, hr, if_pos hl]
 exact h
end
theorem frz_nil (s : Store) : frz s [] = s := by funext m; simp [frz]
def frzL (ns : List Nat) : List (Nat × Ent) → List (Nat × Ent)
  | [] => []
  | (n, e) :: r => (n, if ns.contains n then { e with frz := true } else e) :: frzL ns r
theorem frz_lk (ns : List Nat) (sl : List (Nat × Ent)) : frz (lk sl) ns = lk (frzL ns sl) := by
 funext m
 induction sl with
 | nil => simp [frz, lk, frzL]
 | cons p r ih =>
   obtain ⟨n, e⟩ := p
   simp only [frz, frzL, lk_cons] at ih ⊢
   by_cases hm : m = n
   · subst hm; simp only [if_true]
     split <;> rfl
   · simp only [if_neg hm]; exact ih
theorem Sat.post {P : Program} {c : Code} {σ : St} {Q : Exit → St → Prop} (h : Sat P c σ (fun e σ' => ∃ σ1, Weak σ' σ1 ∧ Q e σ1)) : Sat P c σ Q :=
  fun Φ a W hf => wp_mono (h Φ a W hf) fun _ _ _ ⟨_, ⟨s1, hw, hq⟩, hfs⟩ => ⟨s1, hq, hfs.weak hw⟩
theorem stepGo_mono {P : Program} {T : Nat → Option TI} {K K' : St → Prop} (hk : ∀ σ, K σ → K' σ) {o : Oper} {σ : St} (h : stepGo P T σ o K) : stepGo P T σ o K' := by
 unfold stepGo at h ⊢
 split at h
 · obtain ⟨xs, r, a, b, c⟩ := h
   exact ⟨xs, r, a, b, hk _ c⟩
 · split at h
   · exact hk _ h
   · exact h.elim
theorem stepWp_mono {P : Program} {T : Nat → Option TI} {all : Array Oper} {K K' : St → Prop} (hk : ∀ σ, K σ → K' σ) {o : Oper} {σ : St} (h : stepWp P T all σ o K) : stepWp P T all σ o K' := by
 unfold stepWp at h ⊢
 refine ⟨h.1, ?_⟩
 have h2 := h.2
 generalize guardD all σ.regs o.guard = g at h2 ⊢
 match g, h2 with
 | some true, h2 => exact stepGo_mono hk h2
 | some false, h2 => exact hk _ h2
theorem opsWp_mono {P : Program} {T : Nat → Option TI} {all : Array Oper} {K K' : St → Prop} (hk : ∀ σ, K σ → K' σ) : ∀ {os : List Oper} {σ : St}, opsWp P T all K os σ → opsWp P T all K' os σ
  | [], σ, h => hk σ h
  | _ :: _, _, h => stepWp_mono (fun _ h => opsWp_mono hk h) h
theorem Sat.last_to {P : Program} {T : Nat → Option TI} (hT : TabOk P T) {id : Nat} {ops : Array Oper} {σ σ1 : St} {Q : Exit → St → Prop} (h : opsWp P T ops (fun σ' => Weak σ' σ1) ops.toList σ) (k : Q .normal σ1) : Sat P (.region id ops false) σ Q :=
  Sat.post (Sat.region hT (opsWp_mono (fun _ hw => ⟨σ1, hw, k⟩) h))
theorem Sat.seq_to {P : Program} {T : Nat → Option TI} (hT : TabOk P T) {id : Nat} {ops : Array Oper} {y : Code} {σ σ1 : St} {Q : Exit → St → Prop} (h : opsWp P T ops (fun σ' => Weak σ' σ1) ops.toList σ) (k : Sat P y σ1 Q) : Sat P (.seq (.region id ops false) y) σ Q := by
 exact Sat.seq (Sat.last_to hT h k)
theorem ok_body {P : Program} {T : Nat → Option TI} (hT : TabOk P T) {f : Nat} {fn : Func} {c : Code} {xs : List V} {r : V} (n : Nat) (hf : P.funcs[f]? = some fn) (hb : fn.body = some c) (he : Enters P f) (hn : xs.length + (fn.ntmps - xs.length) = n)
    (h : Sat P c ⟨n, lk (initL 0 xs), lk []⟩ (Ends T fn r)) : Ok P f xs r := by
 subst hn
 exact ok_of_sat hT hf hb he h
end Go.Proofs.YtamjajacnfmgeaaGreat
namespace Go.Proofs.YtamjajacnfmgeaaGreat
open Go Go.RowKit
theorem optList_congr {α β : Type} {f g : α → Option β} : ∀ {l : List α}, (∀ x ∈ l, f x = g x) → optList f l = optList g l
  | [], _ => rfl
  | a :: l, h => by
    simp only [optList, h a (List.mem_cons_self ..), optList_congr fun x hx => h x (List.mem_cons_of_mem _ hx)]
theorem opEval_congr {T : Nat → Option TI} {s : Store} {dst : Option Tmp} {r r' : Operand → Option D} (op : Op) (h : ∀ x ∈ op.operands, r x = r' x) : opEval T s dst r op = opEval T s dst r' op := by
 have parts : ∀ (ps : Array (Nat × Operand)), (∀ x ∈ (ps.toList.map (·.2)).toArray, r x = r' x) → optList (fun (p : Nat × Operand) => (r p.2).map fun d => (p.1, d)) ps.toList = optList (fun (p : Nat × Operand) => (r' p.2).map fun d => (p.1, d)) ps.toList := fun ps hp =>
   optList_congr fun p hm => by rw [hp p.2 (by simp only [List.mem_toArray, List.mem_map]; exact ⟨p, hm, rfl⟩)]
 have args : ∀ (xs : Array Operand), (∀ x ∈ xs, r x = r' x) → optList r xs.toList = optList r' xs.toList := fun xs hx => optList_congr fun x hm => hx x (by simpa using hm)
 cases op
 case build t ps => simp only [opEval, parts ps (by simpa [Op.operands] using h)]
 case buildSlice t n ps => simp only [opEval, parts ps (by simpa [Op.operands] using h)]
 case makeFunc fn first captured =>
   simp only [opEval, args captured fun x hx => h x (by simp [Op.operands, hx])]
 case call c =>
   obtain ⟨callee, as, ts⟩ := c
   cases callee <;> simp only [opEval]
   rw [args as fun x hx => h x (by simp [Op.operands, Call.operands, hx])]
 case makeMap t hh => cases hh <;> simp [opEval]
 case slice t x lo hi mx =>
   simp only [Op.operands] at h
   have hx : r x = r' x := h x (by simp)
   have hl : ∀ l, lo = some l → r l = r' l := fun l hl => h l (by simp [hl])
   have hh : ∀ l, hi = some l → r l = r' l := fun l hl => h l (by simp [hl])
   cases lo <;> cases hi <;> simp_all [opEval]
 all_goals (simp only [Op.operands] at h; first | rfl | (simp_all [opEval]; done))
theorem callOf_congr {r r' : Nat → Option D} (op : Op) (h : ∀ x ∈ op.operands, ev r x = ev r' x) : callOf r op = callOf r' op := by
 cases op <;> try rfl
 rename_i c
 obtain ⟨callee, as, ts⟩ := c
 cases callee <;> try rfl
 rename_i f
 have h1 : ev r f = ev r' f := h f (by simp [Op.operands, Call.operands])
 have h2 : optList (ev r) as.toList = optList (ev r') as.toList := optList_congr fun x hm => h x (by simp only [Op.operands, Call.operands, Array.mem_append]; exact .inr (Array.mem_toList_iff.1 hm))
 simp only [callOf, h1, h2]
def putR (r : Nat → Option D) (dst : Option Tmp) (d : D) : Nat → Option D :=
  match dst with
  | some t => upd r t d
  | none => r
theorem St.put_eq (σ : St) (dst : Option Tmp) (s : Store) (d : D) : σ.put dst s d = ⟨σ.n, putR σ.regs dst d, s⟩ := by cases dst <;> rfl
theorem ev_putR {r : Nat → Option D} {dst : Option Tmp} {d : D} {x : Operand} (h : ∀ t, dst = some t → x ≠ .tmp t) : ev (putR r dst d) x = ev r x := by
 cases dst with
 | none => rfl
 | some t =>
   cases x with
   | tmp q =>
     have : q ≠ t := fun e => h t rfl (by rw [e])
     simp [ev, putR, upd, this]
   | _ => rfl
theorem ev_putR_op {all : Array Oper} {o : Oper} {r : Nat → Option D} {dst : Option Tmp} {d : D} (h : ∀ t, dst = some t → t ∉ o.looksAt all) : ∀ x ∈ o.op.operands, ev (putR r dst d) x = ev r x := fun x hx =>
  ev_putR fun t ht hxt => h t ht (by
    subst hxt
    exact List.mem_append_left _ (List.mem_filterMap.2 ⟨.tmp t, by simpa using hx, rfl⟩))
theorem guardD_putR {all : Array Oper} {o : Oper} {r : Nat → Option D} {dst : Option Tmp} {d : D} (h : ∀ t, dst = some t → t ∉ o.looksAt all) : guardD all (putR r dst d) o.guard = guardD all r o.guard := by
 cases dst with
 | none => rfl
 | some t =>
   cases hg : o.guard with
   | none => rfl
   | some gw =>
     obtain ⟨j, want⟩ := gw
     have : gv all (putR r (some t) d) j = gv all r j := by
       unfold gv
       cases hd : (all[j]?).bind (·.dst) with
       | none => rfl
       | some q =>
         have hne : q ≠ t := fun e => h t rfl (by subst e; simp [Oper.looksAt, hg, hd])
         simp [putR, upd, hne]
     simp only [guardD_eq, this]
theorem putR_comm (r : Nat → Option D) {x y : Option Tmp} (d e : D) (h : ∀ t, x = some t → y ≠ some t) : putR (putR r x d) y e = putR (putR r y e) x d := by
 cases x with
 | none => rfl
 | some t =>
   cases y with
   | none => rfl
   | some q =>
     have hne : t ≠ q := fun he => h t rfl (he ▸ rfl)
     funext m
     simp only [putR, upd]
     by_cases h1 : m = q
     · subst h1; simp [Ne.symm hne]
     · simp [h1]
def SilD (P : Program) (T : Nat → Option TI) (all : Array Oper) (r : Nat → Option D) (n : Nat) (s : Store) (o : Oper) (d : D) : Prop :=
  dstOk n o.dst = true ∧ match guardD all r o.guard with
    | some true => match callOf r o.op with
      | some (g, ds) => ∃ xs x, optList (pub s pubD) ds = some xs ∧ Ok P g xs x ∧ frz s (ds.flatMap (pubN s pubD)) = s ∧ d = .v x
      | none => opEval T s o.dst (ev r) o.op = some (d, s)
    | some false => d = .v (.tp [])
    | none => False
theorem SilD.step {P : Program} {T : Nat → Option TI} {all : Array Oper} {σ : St} {o : Oper} {d : D} (h : SilD P T all σ.regs σ.n σ.store o d) {K : St → Prop} (hK : K ⟨σ.n, putR σ.regs o.dst d, σ.store⟩) : stepWp P T all σ o K := by
 obtain ⟨h1, h2⟩ := h
 refine ⟨h1, ?_⟩
 revert h2
 cases guardD all σ.regs o.guard with
 | none => exact fun h => h.elim
 | some b =>
   cases b with
   | false => intro h2; subst h2; simp only [St.put_eq]; exact hK
   | true =>
     intro h2
     unfold stepGo
     revert h2
     cases callOf σ.regs o.op with
     | none => intro h2; simp only at h2 ⊢; rw [h2]; simp only [St.put_eq]; exact hK
     | some gd =>
       obtain ⟨g, ds⟩ := gd
       intro ⟨xs, x, h3, h4, h5, h6⟩
       subst h6
       refine ⟨xs, x, h3, h4, ?_⟩
       rw [h5, St.put_eq]; exact hK
theorem SilD.putR {P : Program} {T : Nat → Option TI} {all : Array Oper} {r : Nat → Option D} {n : Nat} {s : Store} {o : Oper} {d : D} {dst : Option Tmp} {e : D} (hl : ∀ t, dst = some t → t ∉ o.looksAt all) (h : SilD P T all r n s o d) : SilD P T all (putR r dst e) n s o d := by
 unfold SilD at h ⊢
 rw [guardD_putR hl, callOf_congr o.op (ev_putR_op hl), opEval_congr o.op (ev_putR_op hl)]
 exact h
theorem stepWp_putR {P : Program} {T : Nat → Option TI} {all : Array Oper} {n : Nat} {r : Nat → Option D} {s : Store} {o : Oper} {dst : Option Tmp} {d : D} (hl : ∀ t, dst = some t → t ∉ o.looksAt all) (hd : ∀ t, dst = some t → o.dst ≠ some t) {K K' : St → Prop}
    (hK : ∀ s' e, K ⟨n, putR (putR r o.dst e) dst d, s'⟩ → K' ⟨n, putR r o.dst e, s'⟩) (h : stepWp P T all ⟨n, putR r dst d, s⟩ o K) : stepWp P T all ⟨n, r, s⟩ o K' := by
 unfold stepWp stepGo at h ⊢
 simp only [guardD_putR hl, callOf_congr o.op (ev_putR_op hl), opEval_congr o.op (ev_putR_op hl), St.put_eq] at h ⊢
 have hK2 : ∀ s' e, K ⟨n, putR (putR r dst d) o.dst e, s'⟩ → K' ⟨n, putR r o.dst e, s'⟩ := fun s' e hh => hK s' e (by rw [← putR_comm r d e hd]; exact hh)
 refine ⟨h.1, ?_⟩
 have h2 := h.2
 revert h2
 cases guardD all r o.guard with
 | none => exact fun h => h
 | some b =>
   cases b with
   | false => exact fun h2 => hK2 _ _ h2
   | true =>
     intro h2
     revert h2
     simp only
     cases callOf r o.op with
     | some gd =>
       obtain ⟨g, ds⟩ := gd
       intro ⟨xs, x, a, b, c⟩
       exact ⟨xs, x, a, b, hK2 _ _ c⟩
     | none =>
       simp only
       cases opEval T s o.dst (ev r) o.op with
       | none => exact fun h => h
       | some p => exact fun c => hK2 _ _ c
def lastly (ops : Array Oper) (i : Nat) (o : Oper) : Bool := (List.range ops.size).all fun k => k == i || o.after.any fun e => Region.binds .any e && e.on == k
def anyH (P : Program) (T : Nat → Option TI) (ops : Array Oper) (S : Store → Prop) (Q : St → Prop) : Nat → Array Bool → St → Prop
  | 0, L, σ => Region.ready .any ops L = [] ∧ Q σ
  | f + 1, L, σ => (Region.ready .any ops L = [] → Q σ) ∧ ∀ i ∈ Region.ready .any ops L, ∀ o, ops[i]? = some o → stepWp P T ops σ o fun σ' => (lastly ops i o = false → S σ'.store) ∧ anyH P T ops S Q f (L.setIfInBounds i true) σ'
theorem anyH_sound {P : Program} {T : Nat → Option TI} (hT : TabOk P T) {ops : Array Oper} {S : Store → Prop} {K : St → Prop} {Φ : Fr} {Q2 : Exit → Act → World → Prop} (hk : ∀ σ a W, K σ → Fits Φ σ a W → Q2 .normal a W) : ∀ (f : Nat) (L : Array Bool) (σ : St) (a : Act) (W : World),
    anyH P T ops S K f L σ → Fits Φ σ a W → wpAny P .any ops Q2 f L a W
  | 0, L, σ, a, W, h, hf => ⟨h.1, hk _ _ _ h.2 hf⟩
  | f + 1, L, σ, a, W, h, hf => by
    refine ⟨fun h0 => hk _ _ _ (h.1 h0) hf, fun i hi => ?_⟩
    obtain ⟨_, o, ho, _⟩ := mem_ready.1 hi
    unfold wpOp
    simp only [ho]
    have := stepWp_sound hT (all := ops) (o := o) (h.2 i hi o ho) hf (K' := wpAny P .any ops Q2 f (L.setIfInBounds i true)) (Q' := Q2) (fun σ' a' W' hh hf' => anyH_sound hT hk f _ σ' a' W' hh.2 hf')
    split
    · rename_i hw; rw [if_pos hw] at this; exact .inl this
    · rename_i hw; rw [if_neg hw] at this; exact this
theorem anyH_first {P : Program} {T : Nat → Option TI} {ops : Array Oper} {S : Store → Prop} {Q : St → Prop} {i : Nat} {oi : Oper} {d : D} (hi : ops[i]? = some oi) :
    ∀ (f : Nat) (L : Array Bool) (n : Nat) (r : Nat → Option D) (s : Store),
      (∀ j oj, ops[j]? = some oj → j ≠ i → L.getD j true = false → (∀ e ∈ oj.after, Region.binds .any e = true → e.on ≠ i) → oi.apart ops oj = true) →
      i ∈ Region.ready .any ops L → (∀ s, S s → SilD P T ops r n s oi d) → S s →
      anyH P T ops S Q f (L.setIfInBounds i true) ⟨n, putR r oi.dst d, s⟩ → anyH P T ops S Q (f + 1) L ⟨n, r, s⟩ := by
 intro f
 induction f with
 | zero =>
   intro L n r s _ hr hy hS H
   refine ⟨fun h => (by rw [h] at hr; cases hr), fun j hj o ho => ?_⟩
   by_cases hji : j = i
   · subst hji
     rw [hi] at ho; cases ho
     exact (hy s hS).step (σ := ⟨n, r, s⟩) ⟨fun _ => hS, H⟩
   · have := ready_mono hj hji
     rw [H.1] at this
     cases this
 | succ f ih =>
   intro L n r s hfree hr hy hS H
   refine ⟨fun h => (by rw [h] at hr; cases hr), fun j hj o ho => ?_⟩
   by_cases hji : j = i
   · subst hji
     rw [hi] at ho; cases ho
     exact (hy s hS).step (σ := ⟨n, r, s⟩) ⟨fun _ => hS, H⟩
   · have h1 := H.2 j (ready_mono hj hji) o ho
     obtain ⟨hjun, oj, hoj, hall⟩ := mem_ready.1 hj
     rw [ho] at hoj; cases hoj
     have hun : ∀ k, L.getD k true = false → L.getD k false = true → False := by
       intro k h0 h1
       rcases Nat.lt_or_ge k L.size with h' | h'
       · simp [h'] at h0 h1; rw [h0] at h1; cases h1
       · simp [Array.getElem?_eq_none h'] at h1
     have hnot : ∀ e ∈ o.after, Region.binds .any e = true → e.on ≠ i := fun e he hb heq => by
       have h1 := hall e he hb
       rw [heq] at h1
       exact hun i (mem_ready.1 hr).1 h1
     have hnl : lastly ops j o = false := by
       cases hl : lastly ops j o with
       | false => rfl
       | true =>
         exfalso
         have hlt : i < ops.size := (Array.getElem?_eq_some_iff.1 hi).1
         have := List.all_eq_true.1 hl i (List.mem_range.2 hlt)
         simp only [Bool.or_eq_true, beq_iff_eq] at this
         rcases this with h | h
         · exact hji h.symm
         · obtain ⟨e, he, hb⟩ := Array.any_eq_true'.1 h
           simp only [Bool.and_eq_true, beq_iff_eq] at hb
           exact hnot e he hb.1 hb.2
     obtain ⟨a1, a2, a3⟩ := Oper.apart_spec (hfree j o ho hji hjun hnot)
     have hfree' : ∀ k ok, ops[k]? = some ok → k ≠ i → (L.setIfInBounds j true).getD k true = false →
         (∀ e ∈ ok.after, Region.binds .any e = true → e.on ≠ i) → oi.apart ops ok = true := fun k ok hk hki hun hno => by
       refine hfree k ok hk hki ?_ hno
       by_cases hjk : j = k
       · subst hjk; exact hjun
       · rw [getD_set_ne true hjk] at hun; exact hun
     refine stepWp_putR a1 a2 (fun s' e hh => ?_) h1
     refine ⟨fun _ => hh.1 hnl, ih _ _ _ _ hfree' (ready_mono hr (Ne.symm hji)) (fun s hs => (hy s hs).putR a3) (hh.1 hnl) ?_⟩
     rw [Array.setIfInBounds_comm _ _ hji]
     exact hh.2
def walkOk (ops : Array Oper) (eff : List Nat) : List Nat → Array Bool → Bool
  | [], L => (Region.ready .any ops L).isEmpty
  | i :: is, L => (if eff.contains i then Region.ready .any ops L == [i] else (Region.ready .any ops L).contains i && Region.free .any ops L i) && walkOk ops eff is (L.setIfInBounds i true)
def SilW (P : Program) (T : Nat → Option TI) (all : Array Oper) (ov : Store → Store) (σ : St) (o : Oper) (K : St → Prop) : Prop :=
  ∃ d, (∀ s, SilD P T all σ.regs σ.n (ov s) o d) ∧ K ⟨σ.n, putR σ.regs o.dst d, σ.store⟩
def walk (P : Program) (T : Nat → Option TI) (ops : Array Oper) (ov : Store → Store) (eff : List Nat) (Q : St → Prop) : List Nat → St → Prop
  | [], σ => Q σ
  | i :: is, σ => ∃ o, ops[i]? = some o ∧ if eff.contains i then stepWp P T ops σ o fun σ' => (lastly ops i o = false → ov σ'.store = σ'.store) ∧ walk P T ops ov eff Q is σ' else SilW P T ops ov σ o (walk P T ops ov eff Q is)
theorem walk_sound {P : Program} {T : Nat → Option TI} {ops : Array Oper} {ov : Store → Store} {eff : List Nat} {Q : St → Prop} : ∀ (ord : List Nat) (f : Nat) (L : Array Bool) (σ : St), ord.length ≤ f → walkOk ops eff ord L = true → (ord ≠ [] → ov σ.store = σ.store) →
    walk P T ops ov eff Q ord σ → anyH P T ops (fun s => ov s = s) Q f L σ
  | [], f, L, σ, _, hw, _, h => by
    have hr : Region.ready .any ops L = [] := by simpa [walkOk] using hw
    cases f with
    | zero => exact ⟨hr, h⟩
    | succ f => exact ⟨fun _ => h, by rw [hr]; simp⟩
  | i :: is, 0, L, σ, hl, _, _, _ => by simp at hl
  | i :: is, f + 1, L, σ, hl, hw, hS, h => by
    obtain ⟨o, ho, h⟩ := h
    simp only [walkOk, Bool.and_eq_true] at hw
    obtain ⟨hw1, hw2⟩ := hw
    have hl' : is.length ≤ f := by simpa using hl
    have emp : is = [] ∨ is ≠ [] := by cases is <;> simp
    by_cases he : eff.contains i = true
    · rw [if_pos he] at h hw1
      have hr : Region.ready .any ops L = [i] := by simpa using hw1
      refine ⟨fun h0 => (by rw [hr] at h0; cases h0), fun j hj o' ho' => ?_⟩
      rw [hr] at hj
      have : j = i := by simpa using hj
      subst this
      rw [ho] at ho'; cases ho'
      refine stepWp_mono (fun σ' ⟨h1, h2⟩ => ⟨h1, walk_sound is f _ σ' hl' hw2 (fun hne => h1 ?_) h2⟩) h
      cases hla : lastly ops j o with
      | false => rfl
      | true =>
        exfalso
        cases is with
        | nil => exact hne rfl
        | cons k ks =>
          simp only [walkOk, Bool.and_eq_true] at hw2
          have hkr : k ∈ Region.ready .any ops (L.setIfInBounds j true) := by
            have := hw2.1
            split at this
            · have h3 : Region.ready .any ops (L.setIfInBounds j true) = [k] := by simpa using this
              rw [h3]; simp
            · simp only [Bool.and_eq_true] at this; simpa using this.1
          obtain ⟨hk0, ok, hok, _⟩ := mem_ready.1 hkr
          have hkj : k ≠ j := by
            intro hkj; subst hkj
            have hjs : k < L.size ∨ L.size ≤ k := Nat.lt_or_ge k L.size
            rcases hjs with hjs | hjs
            · simp [hjs] at hk0
            · simp [Array.getElem?_eq_none (xs := L.setIfInBounds k true) (i := k) (by simpa using hjs)] at hk0
          have hjr : j ∈ Region.ready .any ops L := by rw [hr]; simp
          obtain ⟨_, oj, hoj, hall⟩ := mem_ready.1 hjr
          rw [ho] at hoj; cases hoj
          have hlt : k < ops.size := (Array.getElem?_eq_some_iff.1 hok).1
          have := List.all_eq_true.1 hla k (List.mem_range.2 hlt)
          simp only [Bool.or_eq_true, beq_iff_eq, hkj, false_or] at this
          obtain ⟨e, he, hb⟩ := Array.any_eq_true'.1 this
          simp only [Bool.and_eq_true, beq_iff_eq] at hb
          have h1 := hall e he hb.1
          rw [hb.2] at h1
          rw [getD_set_ne true (Ne.symm hkj)] at hk0
          rcases Nat.lt_or_ge k L.size with h' | h'
          · simp [h'] at hk0 h1; rw [hk0] at h1; cases h1
          · simp [Array.getElem?_eq_none h'] at h1
    · rw [if_neg he] at h hw1
      simp only [Bool.and_eq_true] at hw1
      obtain ⟨d, h1, h2⟩ := h
      refine anyH_first ho f L σ.n σ.regs σ.store (Region.free_spec ho hw1.2) (by simpa using hw1.1) (fun s hs => ?_) (hS (by simp)) (walk_sound is f _ _ hl' hw2 (fun _ => hS (by simp)) h2)
      have := h1 s
      rw [hs] at this; exact this
theorem Fits.drew {Φ : Fr} {σ : St} {a : Act} {W : World} (h : Fits Φ σ a W) : Fits Φ σ a { W with drawn := W.drawn + 1 } := by
 obtain ⟨⟨E, hs, hr⟩, hsz, hd⟩ := h
 have hx : Ext W E { W with drawn := W.drawn + 1 } E := ⟨fun b hb => ⟨hb, rfl⟩, fun n i hi => ⟨i, hi, Own.le_refl i⟩⟩
 refine ⟨⟨E, ⟨⟨hs.keep.os, hs.keep.tape, hs.keep.output, hs.keep.size, hs.keep.block⟩, hs.none, fun n e hn => ?_, hs.base, hs.okd, hs.inj, hs.fb⟩, fun t d ht => (hr t d ht).mono hx⟩, hsz, hd⟩
 obtain ⟨i, hi, hrr⟩ := hs.ent n e hn
 exact ⟨i, hi, hrr.mono hx rfl⟩
theorem Sat.region_any {P : Program} {T : Nat → Option TI} (hT : TabOk P T) (hm : P.follows .mixedOrders = true) {id : Nat} {ops : Array Oper} {σ : St} {Q : Exit → St → Prop} (ov : Store → Store) (eff ord : List Nat) (hl : ord.length ≤ ops.size) (hw : walkOk ops eff ord (Array.replicate ops.size false) = true) (hS : ov σ.store = σ.store)
    (h : walk P T ops ov eff (fun σ' => Q .normal σ') ord σ) : Sat P (.region id ops true) σ Q := by
 intro Φ a W hf
 refine wp_region_any hm ?_
 exact anyH_sound hT (fun σ a W h1 h2 => ⟨σ, h1, h2⟩) _ _ σ a _ (walk_sound ord _ _ _ hl hw (fun _ => hS) h) hf.drew
theorem walk_mono {P : Program} {T : Nat → Option TI} {ops : Array Oper} {ov : Store → Store} {eff : List Nat} {Q Q' : St → Prop} (hq : ∀ σ, Q σ → Q' σ) : ∀ {ord : List Nat} {σ : St}, walk P T ops ov eff Q ord σ → walk P T ops ov eff Q' ord σ
  | [], σ, h => hq σ h
  | i :: is, σ, ⟨o, ho, h⟩ => by
    refine ⟨o, ho, ?_⟩
    split
    · rename_i he; rw [if_pos he] at h
      exact stepWp_mono (fun _ h => ⟨h.1, walk_mono hq h.2⟩) h
    · rename_i he; rw [if_neg he] at h
      obtain ⟨d, h1, h2⟩ := h
      exact ⟨d, h1, walk_mono hq h2⟩
def opsSil (P : Program) (T : Nat → Option TI) (all : Array Oper) (s : Store) (Q : St → Prop) : List Oper → St → Prop
  | [], σ => Q σ
  | o :: os, σ => SilW P T all (fun _ => s) σ o (opsSil P T all s Q os)
theorem walk_of_sil {P : Program} {T : Nat → Option TI} {ops : Array Oper} {s : Store} {Q : St → Prop} : ∀ (os : List Oper) (k : Nat) (σ : St), (∀ j, os[j]? = ops[k + j]?) → opsSil P T ops s Q os σ → walk P T ops (fun _ => s) [] Q (List.range' k os.length) σ
  | [], k, σ, _, h => h
  | o :: os, k, σ, hj, ⟨d, h1, h2⟩ => by
    have h0 : ops[k]? = some o := by simpa using (hj 0).symm
    simp only [List.length_cons, List.range'_succ]
    refine ⟨o, h0, ?_⟩
    rw [if_neg (by simp)]
    exact ⟨d, h1, walk_of_sil os (k + 1) _ (fun j => by have := hj (j + 1); simpa [Nat.add_assoc, Nat.add_comm 1 j] using this) h2⟩
def textOk (ops : Array Oper) : Bool := walkOk ops [] (List.range ops.size) (Array.replicate ops.size false)
theorem Sat.region_sil {P : Program} {T : Nat → Option TI} (hT : TabOk P T) (hm : P.follows .mixedOrders = true) {id : Nat} {ops : Array Oper} {σ : St} {Q : Exit → St → Prop} (hw : textOk ops = true) (h : opsSil P T ops σ.store (fun σ' => Q .normal σ') ops.toList σ) : Sat P (.region id ops true) σ Q := by
 refine Sat.region_any hT hm (fun _ => σ.store) [] (List.range ops.size) (by simp) hw rfl ?_
 have := walk_of_sil ops.toList 0 σ (by simp) h
 rwa [Array.length_toList, ← List.range_eq_range'] at this
theorem opsSil_mono {P : Program} {T : Nat → Option TI} {all : Array Oper} {s : Store} {Q Q' : St → Prop} (hq : ∀ σ, Q σ → Q' σ) : ∀ {os : List Oper} {σ : St}, opsSil P T all s Q os σ → opsSil P T all s Q' os σ
  | [], σ, h => hq σ h
  | o :: os, σ, ⟨d, h1, h2⟩ => ⟨d, h1, opsSil_mono hq h2⟩
end Go.Proofs.YtamjajacnfmgeaaGreat
