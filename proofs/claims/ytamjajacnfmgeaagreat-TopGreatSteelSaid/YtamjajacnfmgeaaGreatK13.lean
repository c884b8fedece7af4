/-
  The abstract machine on regions that draw their order: an effect that comes behind all that looks at a block. Condition: as A20. And maps by marks.
  The abstract machine: a slice that is grown ahead ('Grow' of nil), and appends to it. Condition: as A21.
-/
import Derived.Test.YtamjajacnfmgeaaGreatK12
set_option linter.all false
namespace Go.Proofs.YtamjajacnfmgeaaGreat
open Go Go.RowKit
def rless : Op → Bool
  | .move _ | .assign _ | .nilCheck _ | .fieldAddr _ _ _ => true
  | _ => false
theorem opEval_rless {T : Nat → Option TI} {s s' : Store} {dst : Option Tmp} {r : Operand → Option D} {op : Op} {d : D} (h : rless op = true) (he : opEval T s dst r op = some (d, s)) : opEval T s' dst r op = some (d, s') := by
 cases op with
 | move x =>
   simp only [opEval] at he ⊢
   cases hr : r x with
   | none => simp [hr] at he
   | some y => simp [hr] at he ⊢; exact he
 | assign x =>
   simp only [opEval] at he ⊢
   cases hr : r x with
   | none => simp [hr] at he
   | some y => simp [hr] at he ⊢; exact he
 | nilCheck x =>
   simp only [opEval] at he ⊢
   split at he <;> simp_all
 | fieldAddr t x f =>
   simp only [opEval] at he ⊢
   split at he
   · split at he
     · rename_i d0 _ _ _ g' _
       cases hr : addrAdd g'.1 d0 with
       | none => simp [hr] at he
       | some y => simp [hr] at he ⊢; exact he
     · cases he
   · cases he
 | _ => simp [rless] at h
theorem callOf_rless {r : Nat → Option D} {op : Op} (h : rless op = true) : callOf r op = none := by
 cases op <;> first | rfl | (simp [rless] at h)
theorem SilD.rless {P : Program} {T : Nat → Option TI} {all : Array Oper} {r : Nat → Option D} {n : Nat} {s s' : Store} {o : Oper} {d : D} (h : rless o.op = true) (hs : SilD P T all r n s o d) : SilD P T all r n s' o d := by
 unfold SilD at hs ⊢
 rw [callOf_rless h] at hs ⊢
 obtain ⟨h1, h2⟩ := hs
 refine ⟨h1, ?_⟩
 revert h2
 cases guardD all r o.guard with
 | none => exact fun h => h
 | some b =>
   cases b with
   | false => exact fun h => h
   | true => exact fun h2 => opEval_rless h h2
def isSt : Op → Bool
  | .store _ _ _ | .buildSlice _ _ _ => true
  | _ => false
def late (ops : Array Oper) (i : Nat) (o : Oper) : Bool := (List.range ops.size).all fun k => k == i || (o.after.any fun e => Region.binds .any e && e.on == k) || (match ops[k]? with | some u => rless u.op || isSt u.op | none => false)
def anyL (P : Program) (T : Nat → Option TI) (ops : Array Oper) (S : Store → Prop) (Q : St → Prop) : Nat → Array Bool → St → Prop
  | 0, L, σ => Region.ready .any ops L = [] ∧ Q σ
  | f + 1, L, σ => (Region.ready .any ops L = [] → Q σ) ∧ ∀ i ∈ Region.ready .any ops L, ∀ o, ops[i]? = some o → stepWp P T ops σ o fun σ' => (late ops i o = false → S σ.store → S σ'.store) ∧ anyL P T ops S Q f (L.setIfInBounds i true) σ'
theorem anyL_sound {P : Program} {T : Nat → Option TI} (hT : TabOk P T) {ops : Array Oper} {S : Store → Prop} {K : St → Prop} {Φ : Fr} {Q2 : Exit → Act → World → Prop} (hk : ∀ σ a W, K σ → Fits Φ σ a W → Q2 .normal a W) : ∀ (f : Nat) (L : Array Bool) (σ : St) (a : Act) (W : World),
    anyL P T ops S K f L σ → Fits Φ σ a W → wpAny P .any ops Q2 f L a W
  | 0, L, σ, a, W, h, hf => ⟨h.1, hk _ _ _ h.2 hf⟩
  | f + 1, L, σ, a, W, h, hf => by
    refine ⟨fun h0 => hk _ _ _ (h.1 h0) hf, fun i hi => ?_⟩
    obtain ⟨_, o, ho, _⟩ := mem_ready.1 hi
    unfold wpOp
    simp only [ho]
    have := stepWp_sound hT (all := ops) (o := o) (h.2 i hi o ho) hf (K' := wpAny P .any ops Q2 f (L.setIfInBounds i true)) (Q' := Q2) (fun σ' a' W' hh hf' => anyL_sound hT hk f _ σ' a' W' hh.2 hf')
    split
    · rename_i hw; rw [if_pos hw] at this; exact .inl this
    · rename_i hw; rw [if_neg hw] at this; exact this
theorem anyL_first {P : Program} {T : Nat → Option TI} {ops : Array Oper} {S : Store → Prop} {Q : St → Prop} {i : Nat} {oi : Oper} {d : D} (hi : ops[i]? = some oi) (hst : isSt oi.op = false) :
    ∀ (f : Nat) (L : Array Bool) (n : Nat) (r : Nat → Option D) (s : Store),
      (∀ j oj, ops[j]? = some oj → j ≠ i → L.getD j true = false → (∀ e ∈ oj.after, Region.binds .any e = true → e.on ≠ i) → oi.apart ops oj = true) →
      i ∈ Region.ready .any ops L → (∀ s, (rless oi.op = true ∨ S s) → SilD P T ops r n s oi d) → (rless oi.op = true ∨ S s) →
      anyL P T ops S Q f (L.setIfInBounds i true) ⟨n, putR r oi.dst d, s⟩ → anyL P T ops S Q (f + 1) L ⟨n, r, s⟩ := by
 intro f
 induction f with
 | zero =>
   intro L n r s _ hr hy hS H
   refine ⟨fun h => (by rw [h] at hr; cases hr), fun j hj o ho => ?_⟩
   by_cases hji : j = i
   · subst hji
     rw [hi] at ho; cases ho
     exact (hy s hS).step (σ := ⟨n, r, s⟩) ⟨fun _ h => h, H⟩
   · have := ready_mono hj hji
     rw [H.1] at this
     cases this
 | succ f ih =>
   intro L n r s hfree hr hy hS H
   refine ⟨fun h => (by rw [h] at hr; cases hr), fun j hj o ho => ?_⟩
   by_cases hji : j = i
   · subst hji
     rw [hi] at ho; cases ho
     exact (hy s hS).step (σ := ⟨n, r, s⟩) ⟨fun _ h => h, H⟩
   · have h1 := H.2 j (ready_mono hj hji) o ho
     obtain ⟨hjun, oj, hoj, hall⟩ := mem_ready.1 hj
     rw [ho] at hoj; cases hoj
     have hun : ∀ k, L.getD k true = false → L.getD k false = true → False := by
       intro k h0 h1
       rcases Nat.lt_or_ge k L.size with h' | h'
       · simp [h'] at h0 h1; rw [h0] at h1; cases h1
       · simp [Array.getElem?_eq_none h'] at h1
     have hnot : ∀ e ∈ o.after, Region.binds .any e = true → e.on ≠ i := fun e he hb heq => by
       have h1 := hall e he hb
       rw [heq] at h1
       exact hun i (mem_ready.1 hr).1 h1
     have hnl : rless oi.op = true ∨ late ops j o = false := by
       cases hl : late ops j o with
       | false => exact .inr rfl
       | true =>
         have hlt : i < ops.size := (Array.getElem?_eq_some_iff.1 hi).1
         have := List.all_eq_true.1 hl i (List.mem_range.2 hlt)
         simp only [Bool.or_eq_true, beq_iff_eq, hi, hst, Bool.false_eq_true, or_false] at this
         rcases this with (h | h) | h
         · exact absurd h.symm hji
         · obtain ⟨e, he, hb⟩ := Array.any_eq_true'.1 h
           simp only [Bool.and_eq_true, beq_iff_eq] at hb
           exact absurd hb.2 (hnot e he hb.1)
         · exact .inl h
     obtain ⟨a1, a2, a3⟩ := Oper.apart_spec (hfree j o ho hji hjun hnot)
     have hfree' : ∀ k ok, ops[k]? = some ok → k ≠ i → (L.setIfInBounds j true).getD k true = false →
         (∀ e ∈ ok.after, Region.binds .any e = true → e.on ≠ i) → oi.apart ops ok = true := fun k ok hk hki hun hno => by
       refine hfree k ok hk hki ?_ hno
       by_cases hjk : j = k
       · subst hjk; exact hjun
       · rw [getD_set_ne true hjk] at hun; exact hun
     refine stepWp_putR a1 a2 (fun s' e hh => ?_) h1
     refine ⟨fun h h' => hh.1 h h', ih _ _ _ _ hfree' (ready_mono hr (Ne.symm hji)) (fun s hs => (hy s hs).putR a3) ?_ ?_⟩
     · rcases hnl with h | h
       · exact .inl h
       · rcases hS with h' | h'
         · exact .inl h'
         · exact .inr (hh.1 h h')
     rw [Array.setIfInBounds_comm _ _ hji]
     exact hh.2
def planL (ops : Array Oper) : Plan → Bool → Array Bool → Bool
  | .done, _, L => (Region.ready .any ops L).isEmpty
  | .sil i p, b, L => (Region.ready .any ops L).contains i && Region.free .any ops L i && (match ops[i]? with | some u => (b || rless u.op) && !isSt u.op | none => false) && planL ops p b (L.setIfInBounds i true)
  | .one i p, b, L => Region.ready .any ops L == [i] && planL ops p (b && !(match ops[i]? with | some u => late ops i u | none => false)) (L.setIfInBounds i true)
  | .two i j p q, b, L => Region.ready .any ops L == [i, j] && planL ops p (b && !(match ops[i]? with | some u => late ops i u | none => false)) (L.setIfInBounds i true) && planL ops q (b && !(match ops[j]? with | some u => late ops j u | none => false)) (L.setIfInBounds j true)
def stepL (P : Program) (T : Nat → Option TI) (ops : Array Oper) (ov : Store → Store) (i : Nat) (K : St → Prop) (σ : St) : Prop :=
  ∃ o, ops[i]? = some o ∧ stepWp P T ops σ o fun σ' => (late ops i o = false → ov σ'.store = σ'.store) ∧ K σ'
def walkL (P : Program) (T : Nat → Option TI) (ops : Array Oper) (ov : Store → Store) (Q : St → Prop) : Plan → St → Prop
  | .done, σ => Q σ
  | .sil i p, σ => ∃ o, ops[i]? = some o ∧ SilW P T ops ov σ o (walkL P T ops ov Q p)
  | .one i p, σ => stepL P T ops ov i (walkL P T ops ov Q p) σ
  | .two i j p q, σ => stepL P T ops ov i (walkL P T ops ov Q p) σ ∧ stepL P T ops ov j (walkL P T ops ov Q q) σ
theorem walkL_sound {P : Program} {T : Nat → Option TI} {ops : Array Oper} {ov : Store → Store} {Q : St → Prop} : ∀ (p : Plan) (f : Nat) (b : Bool) (L : Array Bool) (σ : St), p.len ≤ f → planL ops p b L = true → (b = true → ov σ.store = σ.store) →
    walkL P T ops ov Q p σ → anyL P T ops (fun s => ov s = s) Q f L σ
  | .done, f, b, L, σ, _, hw, _, h => by
    have hr : Region.ready .any ops L = [] := by simpa [planL] using hw
    cases f with
    | zero => exact ⟨hr, h⟩
    | succ f => exact ⟨fun _ => h, by rw [hr]; simp⟩
  | .sil i p, 0, b, L, σ, hl, _, _, _ => by simp [Plan.len] at hl
  | .one i p, 0, b, L, σ, hl, _, _, _ => by simp [Plan.len] at hl
  | .two i j p q, 0, b, L, σ, hl, _, _, _ => by simp [Plan.len] at hl
  | .sil i p, f + 1, b, L, σ, hl, hw, hS, h => by
    obtain ⟨o, ho, d, h4, h5⟩ := h
    simp only [planL, Bool.and_eq_true, Bool.or_eq_true, Bool.not_eq_true', ho] at hw
    obtain ⟨⟨⟨h1, h2⟩, h0, hst⟩, h3⟩ := hw
    have hd : ∀ s, (rless o.op = true ∨ ov s = s) → SilD P T ops σ.regs σ.n s o d := fun s hs => by
      have := h4 s
      rcases hs with hs | hs
      · exact this.rless hs
      · rw [hs] at this; exact this
    refine anyL_first ho hst f L σ.n σ.regs σ.store (Region.free_spec ho h2) (by simpa using h1) hd ?_ (walkL_sound p f b _ _ (by simpa [Plan.len] using hl) h3 hS h5)
    rcases h0 with h | h
    · exact .inr (hS h)
    · exact .inl h
  | .one i p, f + 1, b, L, σ, hl, hw, hS, h => by
    obtain ⟨o, ho, h4⟩ := h
    simp only [planL, Bool.and_eq_true, ho] at hw
    have hr : Region.ready .any ops L = [i] := by simpa using hw.1
    refine ⟨fun h0 => (by rw [hr] at h0; cases h0), fun j hj o' ho' => ?_⟩
    rw [hr] at hj
    have : j = i := by simpa using hj
    subst this
    rw [ho] at ho'; cases ho'
    exact stepWp_mono (fun σ' ⟨a, c⟩ => ⟨fun h _ => a h, walkL_sound p f _ _ σ' (by simpa [Plan.len] using hl) hw.2 (fun h => a (by simp at h; exact h.2)) c⟩) h4
  | .two i j p q, f + 1, b, L, σ, hl, hw, hS, h => by
    obtain ⟨⟨o, ho, h4⟩, ⟨u, hu, h5⟩⟩ := h
    simp only [planL, Bool.and_eq_true, ho, hu] at hw
    obtain ⟨⟨h1, h2⟩, h3⟩ := hw
    have hr : Region.ready .any ops L = [i, j] := by simpa using h1
    have hl' : p.len ≤ f ∧ q.len ≤ f := by simp [Plan.len] at hl; omega
    refine ⟨fun h0 => (by rw [hr] at h0; cases h0), fun k hk o' ho' => ?_⟩
    rw [hr] at hk
    have : k = i ∨ k = j := by simpa using hk
    rcases this with rfl | rfl
    · rw [ho] at ho'; cases ho'
      exact stepWp_mono (fun σ' ⟨a, c⟩ => ⟨fun h _ => a h, walkL_sound p f _ _ σ' hl'.1 h2 (fun h => a (by simp at h; exact h.2)) c⟩) h4
    · rw [hu] at ho'; cases ho'
      exact stepWp_mono (fun σ' ⟨a, c⟩ => ⟨fun h _ => a h, walkL_sound q f _ _ σ' hl'.2 h3 (fun h => a (by simp at h; exact h.2)) c⟩) h5
theorem walkL_mono {P : Program} {T : Nat → Option TI} {ops : Array Oper} {ov : Store → Store} {Q Q' : St → Prop} (hq : ∀ σ, Q σ → Q' σ) : ∀ {p : Plan} {σ : St}, walkL P T ops ov Q p σ → walkL P T ops ov Q' p σ
  | .done, σ, h => hq σ h
  | .sil i p, σ, ⟨o, ho, d, h1, h2⟩ => ⟨o, ho, d, h1, walkL_mono hq h2⟩
  | .one i p, σ, ⟨o, ho, h⟩ => ⟨o, ho, stepWp_mono (fun _ h => ⟨h.1, walkL_mono hq h.2⟩) h⟩
  | .two i j p q, σ, ⟨⟨o, ho, h⟩, ⟨u, hu, h'⟩⟩ => ⟨⟨o, ho, stepWp_mono (fun _ h => ⟨h.1, walkL_mono hq h.2⟩) h⟩, ⟨u, hu, stepWp_mono (fun _ h => ⟨h.1, walkL_mono hq h.2⟩) h'⟩⟩
theorem Sat.dl {P : Program} {T : Nat → Option TI} {id : Nat} {ops : Array Oper} {Q : Exit → St → Prop} {n : Nat} {rl : List (Nat × D)} {s : Store} (hT : TabOk P T) (hm : P.follows .mixedOrders = true) (N : List Nat) (p : Plan) (σ1 : St) (hl : p.len ≤ ops.size) (hw : planL ops p true (Array.replicate ops.size false) = true)
    (h : walkL P T ops (ovr N s) (fun σ' => Weak σ' σ1) p ⟨n, lk rl, s⟩) (k : Q .normal σ1) : Sat P (.region id ops true) ⟨n, lk rl, s⟩ Q := by
 refine Sat.post (fun Φ a W hf => ?_)
 refine wp_region_any hm ?_
 exact anyL_sound hT (fun σ a W h1 h2 => ⟨σ, h1, h2⟩) _ _ _ a _ (walkL_sound p _ _ _ _ hl hw (fun _ => ovr_self N s) (walkL_mono (fun _ hw => ⟨σ1, hw, k⟩) h)) hf.drew
section
variable {P : Program} {T : Nat → Option TI} {ops : Array Oper} {ov : Store → Store} {Q : St → Prop} {i j : Nat} {p q : Plan} {σ : St} {o u : Oper}
theorem ln (h : Q σ) : walkL P T ops ov Q .done σ := h
theorem l_sil (ho : ops[i]? = some o) (h : SilW P T ops ov σ o (walkL P T ops ov Q p)) : walkL P T ops ov Q (.sil i p) σ := ⟨o, ho, h⟩
theorem l_one (ho : ops[i]? = some o) (h : stepWp P T ops σ o fun σ' => (late ops i o = false → ov σ'.store = σ'.store) ∧ walkL P T ops ov Q p σ') : walkL P T ops ov Q (.one i p) σ := ⟨o, ho, h⟩
theorem l_two (h1 : walkL P T ops ov Q (.one i p) σ) (h2 : walkL P T ops ov Q (.one j q) σ) : walkL P T ops ov Q (.two i j p q) σ := ⟨h1, h2⟩
end
theorem late_no {ops : Array Oper} {i : Nat} {o : Oper} {p : Prop} (h : late ops i o = true) : late ops i o = false → p := fun h' => by rw [h] at h'; cases h'
def eS (p : ByteArray × Int) : V × V := (.str p.1, .int .i64 p.2)
def putS (k : ByteArray) (v : Int) : List (ByteArray × Int) → List (ByteArray × Int)
  | [] => [(k, v)]
  | p :: r => if k == p.1 then (k, v) :: r else p :: putS k v r
def getS (k : ByteArray) : List (ByteArray × Int) → Int
  | [] => 0
  | p :: r => if k == p.1 then p.2 else getS k r
theorem find_S (k : ByteArray) (v : Int) : ∀ (ps : List (ByteArray × Int)) (i : Nat), (findE (.str k) (ps.map eS) i = some none ∧ (ps.map eS) ++ [(.str k, .int .i64 v)] = (putS k v ps).map eS ∧ getS k ps = 0) ∨
    ∃ j, findE (.str k) (ps.map eS) i = some (some (i + j, .int .i64 (getS k ps))) ∧ (ps.map eS).set j (.str k, .int .i64 v) = (putS k v ps).map eS
  | [], i => .inl ⟨rfl, rfl, rfl⟩
  | p :: r, i => by
    by_cases h : k == p.1
    · refine .inr ⟨0, ?_, ?_⟩
      · simp only [List.map_cons, findE, eS, keyEq, h, getS, if_pos]; rfl
      · simp only [List.map_cons, putS, h, if_pos, List.set_cons_zero]; rfl
    · have h' : (k == p.1) = false := by simpa using h
      have hk : keyEq (.str k) (eS p).1 = some false := by simp only [keyEq, eS, h']
      rcases find_S k v r (i + 1) with ⟨h1, h2, h3⟩ | ⟨j, h1, h2⟩
      · refine .inl ⟨?_, ?_, ?_⟩
        · simp only [List.map_cons, findE, hk, h1]
        · simp only [List.map_cons, putS, h', List.cons_append, h2]; rfl
        · simp only [getS, h', h3]; rfl
      · refine .inr ⟨j + 1, ?_, ?_⟩
        · simp only [List.map_cons, findE, hk, h1, getS, h']
          have : i + 1 + j = i + (j + 1) := by omega
          rw [this]; rfl
        · simp only [List.map_cons, putS, h', List.set_cons_succ, h2]; rfl
section
variable {P : Program} {T : Nat → Option TI} {all : Array Oper} {ov : Store → Store} {K : St → Prop} {n : Nat} {r : List (Nat × D)} {s : Store}
theorem step_putS {t m : Nat} {x ix y : Operand} {ty : TypeId} {pos : String} {af : Array Edge} {sz : Nat} {ez : D} {z : List D} {e : Bool} {key : ByteArray} {v : Int} {ps : List (ByteArray × Int)}
    (ht : T t = some ⟨.mp true ez, sz, z, e⟩) (hx : ev (lk r) x = some (.omap m)) (hi : ev (lk r) ix = some (.v (.str key))) (hy : ev (lk r) y = some (.v (.int .i64 v))) (hm : s m = some ⟨.mp (ps.map eS), false⟩) (h : K ⟨n, lk r, upd s m ⟨.mp ((putS key v ps).map eS), false⟩⟩) :
    stepWp P T all ⟨n, lk r, s⟩ ⟨none, .mapUpdate t x ix y, ty, pos, af, none⟩ K := by
 refine step_do (d := .any) rfl ?_ h
 rcases find_S key v ps 0 with ⟨h1, h2, _⟩ | ⟨j, h1, h2⟩
 · simp only [opEval, ht, hx, hi, hy, hm, keyOk, if_pos, h1, h2]
 · simp only [opEval, ht, hx, hi, hy, hm, keyOk, if_pos, h1, Nat.zero_add, h2]
theorem sil_getS {q t m : Nat} {x ix : Operand} {ty : TypeId} {pos : String} {af : Array Edge} {sz : Nat} {z : List D} {e : Bool} {key : ByteArray} {ps : List (ByteArray × Int)} {f : Bool} (hd : (decide (q < n)) = true)
    (ht : T t = some ⟨.mp true (.v (.int .i64 0)), sz, z, e⟩) (hx : ev (lk r) x = some (.omap m)) (hi : ev (lk r) ix = some (.v (.str key))) (hm : ∀ s, ov s m = some ⟨.mp (ps.map eS), f⟩) (h : K ⟨n, lk ((q, .v (.int .i64 (getS key ps))) :: r), s⟩) :
    SilW P T all ov ⟨n, lk r, s⟩ ⟨some q, .lookup t x ix false, ty, pos, af, none⟩ K := by
 refine sil_op hd rfl (fun s => ?_) h
 rcases find_S key 0 ps 0 with ⟨h1, _, h3⟩ | ⟨j, h1, _⟩
 · simp only [opEval, ht, hx, hi, hm s, keyOk, if_pos, h1, h3]; rfl
 · simp only [opEval, ht, hx, hi, hm s, keyOk, if_pos, h1]; rfl
theorem slD_cells (n k : Nat) (rows : List (List V)) : (slD n k rows).cells = [slD n k rows] := by cases rows <;> rfl
theorem slD_one (n k : Nat) (rows : List (List V)) : (slD n k rows).one = true := by cases rows <;> rfl
theorem step_stD {t m off q k : Nat} {a y : Operand} {ty : TypeId} {pos : String} {af : Array Edge} {ti : TI} {cs : List D} {rows : List (List V)} (ht : T t = some ti) (hz : ti.size = 1)
    (ha : ev (lk r) a = some (.ptr m off)) (hy : ev (lk r) y = some (slD q k rows)) (hm : s m = some ⟨.cells cs, false⟩) (ho : (decide (off + 1 ≤ cs.length)) = true) (h : K ⟨n, lk r, upd s m ⟨.cells (splice cs off [slD q k rows]), false⟩⟩) :
    stepWp P T all ⟨n, lk r, s⟩ ⟨none, .store t a y, ty, pos, af, none⟩ K := by
 refine step_do (d := .any) rfl ?_ h
 have ho := of_decide_eq_true ho
 simp only [opEval, ht, ha, hy, storeD, hm, slD_cells, hz, List.length_singleton, List.all_cons, List.all_nil, slD_one, Bool.and_true]
 rw [if_pos ⟨trivial, ho, trivial⟩]; rfl
end
theorem moD2 {has : Nat → Bool} {a b k k' : Nat} {x y : List (List V)} {z : Bool} (h1 : has a = (slS k x).isSome) (h2 : has b = (slS k' y).isSome) : ∀ e', some (⟨.cells [slD a k x, slD b k' y], z⟩ : Ent) = some e' → e'.mentOk has pubD = true := by
 refine mo ?_
 simp only [Ent.mentOk, List.all_cons, List.all_nil, slD_ment h1, slD_ment h2, Bool.and_true]
theorem soD2 {g : Store} {t a b k k' : Nat} {x y x' y' : List (List V)} {z : Bool} (h : g t = some ⟨.cells [slD a k x, slD b k' y], z⟩) (e1 : x = x') (e2 : y = y') : ∀ e', some (⟨.cells [slD a k x', slD b k' y'], z⟩ : Ent) = some e' → g t = some e' := by
 subst e1; subst e2; intro e' he; rw [← he]; exact h
theorem pub_slN {s : Store} {n k f : Nat} {rows : List (List V)} (h : s n = slS k rows) : pub s (f + 1) (slD n k rows) = some (.sl rows) := by
 cases rows with
 | nil => rfl
 | cons a l =>
   simp only [slD, Go.Proofs.YtamjajacnfmgeaaGreat.pub, h, slS, List.length_cons, and_self, if_true, List.drop_zero]
   congr 2
   exact List.take_of_length_le (by simp)
theorem pub_cp2 {s : Store} {m a b k k' : Nat} {x y : List (List V)} {z : Bool} (hm : s m = some ⟨.cells [slD a k x, slD b k' y], z⟩) (ha : s a = slS k x) (hb : s b = slS k' y) : pub s pubD (.ptr m 0) = some (.cp [.sl x, .sl y] 0) := by
 simp only [pubD, Go.Proofs.YtamjajacnfmgeaaGreat.pub, hm, optList, pub_slN (f := 3) ha, pub_slN (f := 3) hb, Option.map_some]
end Go.Proofs.YtamjajacnfmgeaaGreat
namespace Go.Proofs.YtamjajacnfmgeaaGreat
open Go Go.RowKit
theorem run_zeros_nil {P : Program} (w : World) (t ti ty e : TypeId) (i : TypeInfo) (z : Value) (ht : P.underlying t = some (.slice e)) {k : IntKind} (hti : P.underlying ti = some (.int k)) (hi : P.info? e = some i) (hz : i.zero = some z)
    (hzs : z.cells.size = i.size) (hsz : 0 < i.size) {kx : IntKind} {m : Nat} (hm : 0 < m) (hm2 : m ≤ 1048576) (hb2 : i.bytes ≤ 1048576) :
    (Builtin.append_ #[t, ti] ty #[.slice none 0 0, .int kx m]).run P w = .ok (.slice (some ⟨w.heap.size, 0, none⟩) m (grownCap w m 0 e)) (w.drew.alloc (.cells (Builtin.zeroCells z.cells m ++ Builtin.zeroCells z.cells (grownCap w m 0 e - m)) e)) := by
 have hbytes : m * i.bytes ≤ 140737488355328 := by
   have : m * i.bytes ≤ 1048576 * 1048576 := Nat.mul_le_mul hm2 hb2
   omega
 have hw : IntKind.i64.wrap (m : Int) = m := by rw [IntKind.wrap_i64]; omega
 have hneg : ¬ ((m : Int) < 0) := by omega
 have hbig : ¬ (281474976710656 < (m : Int) * (i.bytes : Int)) := by
   rw [← Int.natCast_mul]
   omega
 have hsn : i.size ≠ 0 := by omega
 have hn : ¬ (0 + m ≤ 0) := by omega
 have hn' : ¬ (m = 0) := by omega
 have h63' : ¬ (9223372036854775807 < ((0 : Nat) : Int) + (m : Int)) := by omega
 have h63'' : ¬ (9223372036854775807 < (m : Int)) := by omega
 have hfit := growslice_fits (need := m) (old := 0) (by omega) hbytes
 have h48' : ¬ (281474976710656 < Builtin.nextslicecap m 0 * i.bytes) := by omega
 have hmz : ¬ (m * i.size = 0) := Nat.mul_ne_zero (by omega) hsn
 simp [Builtin.append_, Go.run_underlying ht, Go.run_underlying hti, sizeOf, typeInfo, zeroValue, hi, hz, asInt, asIntOf, hw, hneg, hbig, hn', h63'', h48', Question.forced, newRow, grownCap, hmz, Builtin.firstCells]
section
variable {P : Program} {T : Nat → Option TI} {all : Array Oper} {Q : St → Prop} {n : Nat} {r : List (Nat × D)} {s : Store} {os : List Oper}
theorem x_capN {q : Nat} {t : TypeId} {x : Operand} {ty : TypeId} {pos : String} {af : Array Edge} {k eb sz : Nat} {ez z : List D} {e : Bool} (hd : (decide (q < n)) = true) (ht : T t = some ⟨.sl k eb ez, sz, z, e⟩) (hT : TabOk P T) (hx : ev (lk r) x = some .nil)
    (kk : opsX P T all Q os ⟨n, lk ((q, .v (.int .i64 0)) :: r), s⟩) : opsX P T all Q (⟨some q, .call ⟨.builtin .cap, #[x], #[t]⟩, ty, pos, af, none⟩ :: os) ⟨n, lk r, s⟩ := by
 refine x_did hd (fun Φ W E ρ hs hr => ?_) kk
 obtain ⟨i, u, z', hi', hu, hz, _, hze, htd⟩ := tab hT ht
 obtain ⟨e', ie, ze, rfl, he1, he2, he3, he4, he5⟩ := td_sl htd
 have hv := hr x _ hx
 generalize hxv : ρ x = v at hv
 cases hv with
 | nil =>
   refine ⟨_, .int .i64 0, W, E, ?_, .inl rfl, Ext.refl W E, hs, .v _ _ (.int _ _)⟩
   simp [execOp, resolve, invoke, builtin, hxv, Builtin.cap_, Go.run_underlying hu]
   rfl
theorem x_cutN {q t : Nat} {x h : Operand} {ty : TypeId} {pos : String} {af : Array Edge} {k eb sz : Nat} {ez z : List D} {e : Bool} {kk : IntKind} (hd : (decide (q < n)) = true) (ht : T t = some ⟨.sl k eb ez, sz, z, e⟩) (hT : TabOk P T) (hx : ev (lk r) x = some .nil) (hh : ev (lk r) h = some (.v (.int kk 0)))
    (k' : opsX P T all Q os ⟨n, lk ((q, .nil) :: r), s⟩) : opsX P T all Q (⟨some q, .slice t x none (some h) none, ty, pos, af, none⟩ :: os) ⟨n, lk r, s⟩ := by
 refine x_did hd (fun Φ W E ρ hs hr => ?_) k'
 obtain ⟨i, u, z', hi', hu, hz, _, hze, htd⟩ := tab hT ht
 obtain ⟨e', ie, ze, rfl, he1, he2, he3, he4, he5⟩ := td_sl htd
 have hv := hr x _ hx
 have hw := (hr h _ hh).int
 generalize hxv : ρ x = v at hv
 cases hv with
 | nil =>
   refine did_val hs (v := .slice none 0 0) ?_ .nil
   simp [hxv, hw, Instr.sliceAt, Instr.slice, run_underlying W hu, run_sizeOf W he1, Instr.sliceBounds, Instr.sliceBound, asIntOf]
theorem x_zeros {q : Nat} {t ti : TypeId} {x y : Operand} {ty : TypeId} {pos : String} {af : Array Edge} {k eb sz : Nat} {ez z : List D} {e : Bool} {ki : TI} {kk : IntKind} {m : Nat} {zs : List V} (hd : (decide (q < n)) = true) (ht : T t = some ⟨.sl k eb ez, sz, z, e⟩) (hti : T ti = some ki) (hki : ki.d = .int kk) (hT : TabOk P T)
    (hx : ev (lk r) x = some .nil) (hy : ev (lk r) y = some (.v (.int .i64 (m : Int)))) (hm : 0 < m) (hm2 : m ≤ 1048576) (heb : (decide (eb ≤ 1048576) && decide (0 < k) && ez.length == k) = true) (hz : zeroV ez = some zs) (hq : s q = none)
    (k' : opsX P T all Q os ⟨n, lk ((q, .osl q k m 0 m) :: r), upd s q ⟨.sl k (List.replicate m zs), false⟩⟩) : opsX P T all Q (⟨some q, .call ⟨.builtin .append, #[x, y], #[t, ti]⟩, ty, pos, af, none⟩ :: os) ⟨n, lk r, s⟩ := by
 refine x_did hd (fun Φ W E ρ hs hr => ?_) k'
 obtain ⟨i, u, z', hi', hu, hzz, _, hze, htd⟩ := tab hT ht
 obtain ⟨e', ie, ze, rfl, he1, he2, he3, he4, he5⟩ := td_sl htd
 obtain ⟨i2, u2, z2, hi2, hu2, hzz2, _, hze2, htd2⟩ := tab hT hti
 subst he2; subst he3
 simp only [Bool.and_eq_true, decide_eq_true_eq, beq_iff_eq] at heb
 obtain ⟨⟨hb, hk0⟩, hez⟩ := heb
 have hzs : ze.cells.size = ie.size := by rw [he5] at hez; simpa using hez
 have hki2 : u2 = .int kk := by
   rw [hki] at htd2
   cases u2 <;> simp_all [TdOk]
 subst hki2
 have hv := hr x _ hx
 have hw := (hr y _ hy).int
 generalize hxv : ρ x = v at hv
 cases hv with
 | nil =>
 have hpx : RV W E.ok (.ag zs) (.agg ze.cells.toList.toArray) := by
   have hd : RD W E (.ag (ze.cells.toList.map constV)) (.agg ze.cells.toList.toArray) := .ag _ _ (by simp) (RD_zero (P := P) ze).2
   have hno : pubN s pubD (.ag (ze.cells.toList.map constV)) = [] := by
     simp only [pubN, pubD]
     rw [List.flatMap_eq_nil_iff]
     intro d hd
     obtain ⟨v, _, rfl⟩ := List.mem_map.1 hd
     unfold constV
     split <;> rfl
   have hpub : pub s pubD (.ag (ze.cells.toList.map constV)) = some (.ag zs) := by
     unfold zeroV at hz
     rw [he5] at hz
     split at hz
     · rename_i xs hxs
       cases hz
       rw [← hxs]
       simp only [pubD, pub]
       congr 1
       refine optList_congr fun d hd => ?_
       obtain ⟨v, _, rfl⟩ := List.mem_map.1 hd
       unfold constV
       split <;> rfl
     · cases hz
   have := pub_sound hs [] pubD _ _ _ hd hpub (by rw [hno]; simp)
   refine this.mono fun b hb => ⟨(hs.okd b).2 ?_, rfl⟩
   simp only [envFrz, frz_nil] at hb
   exact hb
 have hxl : zs.length = ie.size := by
   cases hpx with
   | ag _ vs hl _ => rw [← hl]; simpa using hzs
 obtain ⟨news, hnews⟩ : ∃ news, news = (Builtin.zeroCells ze.cells m).toList := ⟨_, rfl⟩
 have hnl : news.length = m * ie.size := by rw [hnews, Array.length_toList, size_zeroCells, hzs]
 have hat : ∀ (p : Nat) (u : Value) (y : V), news[p]? = some u → zs[p % ie.size]? = some y → RV W E.ok y u := by
   intro p u y hp hyz
   have hlt : p < m * ie.size := by rw [← hnl]; exact (List.getElem?_eq_some_iff.1 hp).1
   have hmod := Nat.mod_lt p hk0
   cases hpx with
   | ag _ vs hl hcl =>
     refine hcl (p % ie.size) y u hyz ?_
     rw [hnews] at hp
     have hp' : (Builtin.zeroCells ze.cells m)[p]? = some u := by simpa using hp
     simp only [Builtin.zeroCells, Array.getElem?_map, hzs] at hp'
     rw [Array.getElem?_eq_getElem (by simpa using hlt)] at hp'
     simp at hp'
     rw [← hp']
     simp [getElem!_pos, hzs, hmod]
 have hrun := run_zeros_nil (P := P) W t ti ty e' ie ze hu hu2 he1 he4 hzs hk0 (kx := .i64) hm hm2 hb
 have hcap := grownCap_ge W m 0 e'
 have hsd : SR Φ W.drew E s := hs.same_heap rfl rfl rfl rfl
 have hxd : Ext W E W.drew E := Ext.same_heap rfl
 have hgl : (news ++ (Builtin.zeroCells ze.cells (grownCap W m 0 e' - m)).toList).length = grownCap W m 0 e' * ie.size := by
   rw [List.length_append, len_zeroCells, hzs, hnl, ← Nat.add_mul]; congr 1; omega
 obtain ⟨E', g1, g2, g3⟩ := new_sl hsd hq (vs := news ++ (Builtin.zeroCells ze.cells (grownCap W m 0 e' - m)).toList) (rows := List.replicate m zs) (k := ie.size) (cap := grownCap W m 0 e') e'
   (fun row hr => by rw [List.eq_of_mem_replicate hr]; exact hxl) (by simp; omega) (by rw [hgl]; exact Nat.le_refl _) (by simpa using hcap) (by
     intro p j row y w hrow hy hvv
     rw [List.getElem?_replicate] at hrow
     split at hrow
     · rename_i hpm
       cases hrow
       have hj : j < ie.size := by have := (List.getElem?_eq_some_iff.1 hy).1; omega
       have e2 : (p * ie.size + j) % ie.size = j := by rw [Nat.mul_comm, Nat.mul_add_mod, Nat.mod_eq_of_lt hj]
       have hlt : p * ie.size + j < news.length := by
         have : (p + 1) * ie.size ≤ m * ie.size := Nat.mul_le_mul_right _ (by omega)
         rw [Nat.succ_mul] at this; omega
       rw [List.getElem?_append_left hlt] at hvv
       exact (hat (p * ie.size + j) w y hvv (by rw [e2]; exact hy)).mono hxd.ok
     · cases hrow)
 have hw2 : (news ++ (Builtin.zeroCells ze.cells (grownCap W m 0 e' - m)).toList).toArray = Builtin.zeroCells ze.cells m ++ Builtin.zeroCells ze.cells (grownCap W m 0 e' - m) := by rw [hnews]; simp
 rw [hw2] at g1 g2 g3
 rw [List.length_replicate] at g3
 refine ⟨_, _, _, E', ?_, .inl rfl, hxd.trans g1, g2, g3⟩
 simp [execOp, resolve, invoke, builtin, hxv, hw, hrun]
end
def OkN (P : Program) (f k : Nat) (n : Int) : Prop :=
  Enters P f ∧ ∀ W : World, Calls P f #[.slice none 0 0, .int .i64 n] W fun e W' => ∃ sv, e = .returned sv ∧ Below W.heap.size W W' ∧ ∃ (b cs cap : Nat) (vs : List Value) (t : TypeId),
    sv = .slice (some ⟨b, 0, none⟩) 0 cap ∧ W.heap.size ≤ b ∧ W'.heap[b]? = some (.cells vs.toArray t (0, 0)) ∧ vs.length = cs ∧ cap * k ≤ cs
theorem call_empty {P : Program} {f k : Nat} {n : Int} {s : Store} (m : Nat) (hok : OkN P f k n) (hm : s m = none) :
    CallDo P f [.nil, .v (.int .i64 n)] s (upd s m ⟨.sl k [], false⟩) (.osl m k 0 0 0) := by
 obtain ⟨hent, hcall⟩ := hok
 refine ⟨hent, fun Φ W E vs hs hl hr => ?_⟩
 match vs, hl, hr with
 | [v0, v1], _, hr =>
   have h0 := hr 0 _ _ rfl rfl
   have h1 := hr 1 _ _ rfl rfl
   cases h0
   have e1 := h1.int
   subst e1
   refine (hcall W).mono fun e W' ⟨sv, he, hb, b, cs, cap, us, t, hsv, hbs, hblk, hul, hcap⟩ => ?_
   have hlt : b < W'.heap.size := (Array.getElem?_eq_some_iff.1 hblk).1
   have hturn : Turn Φ W W' E s m (.sl b k 0 cs) := ⟨hb.os, hb.tape, hb.output, fun c hc _ => hb.block c hc, hb.size, hlt, .inl (by have := hs.keep.size; show _ ≤ b; omega), .inl ⟨hm, hbs⟩⟩
   have hext := hturn.ext (o := .sl k []) hs
   have hE : EntR W' (envOf Φ W' E (upd s m ⟨.sl k [], false⟩) m (.sl b k 0 cs)) (.sl b k ([] : List (List V)).length cs) ⟨.sl k [], false⟩ :=
     .sl b k cs [] false us t hblk hul (fun row h => by cases h) (by simp) (fun i j row x v h => by simp at h)
   refine ⟨_, _, he, hext, hturn.sr hs hE, ?_⟩
   rw [hsv]
   have := RD.osl (W := W') (E := envOf Φ W' E (upd s m ⟨.sl k [], false⟩) m (.sl b k 0 cs)) m k 0 0 0 b cs cap (by simp [envOf, upd_same]) (by omega) (by simpa using hcap) (by omega)
   simpa using this
theorem okN_of_sat {P : Program} {T : Nat → Option TI} (hT : TabOk P T) {f : Nat} {fn : Func} {c : Code} {n : Int} {q k tot : Nat} {rows : List (List V)} (hf : P.funcs[f]? = some fn) (hb : fn.body = some c) (he : Enters P f) (h2 : 2 ≤ fn.ntmps) (hres : ∃ t, fn.results.toList = [.tmp t])
    (h : Sat P c ⟨fn.ntmps, lk [(0, .nil), (1, .v (.int .i64 n))], lk []⟩ (fun e σ => (match e with | .normal | .ret => True | _ => False) ∧ optList (resD T σ) fn.results.toList = some [.osl q k tot 0 0] ∧ σ.store q = some ⟨.sl k rows, false⟩ ∧ rows.length = tot)) : OkN P f k n := by
 refine ⟨he, fun W => ?_⟩
 refine calls_of_wp hf hb ?_
 have hfit : Fits ⟨fun b => b < W.heap.size, fun _ => False, W⟩ ⟨fn.ntmps, lk [(0, .nil), (1, .v (.int .i64 n))], lk []⟩ { tmps := #[.slice none 0 0, .int .i64 n] ++ Array.replicate (fn.ntmps - 2) undef, defers := [] } W := by
   refine ⟨⟨⟨okOf ⟨fun b => b < W.heap.size, fun _ => False, W⟩ W (fun _ => none) (lk []), fun _ => none⟩, ⟨⟨rfl, rfl, rfl, Nat.le_refl _, fun _ _ _ => rfl⟩, fun _ _ => rfl, fun n e hn => by simp [lk] at hn, fun n e i hn => by simp [lk] at hn, fun b => Iff.rfl, fun n m e e' i i' _ hn => by simp [lk] at hn, fun b hF => ⟨hF, fun h => h⟩⟩, ?_⟩, by simp; omega, rfl⟩
   intro t d ht
   simp only [lk] at ht
   split at ht
   · rename_i h0
     have h0 : t = 0 := by simpa using h0
     subst h0; cases ht
     have : (#[Value.slice none 0 0, .int .i64 n] ++ Array.replicate (fn.ntmps - 2) undef).getD 0 undef = .slice none 0 0 := by rw [Array.getD_eq_getD_getElem?, Array.getElem?_append_left (by simp)]; rfl
     simp only [this]; exact .nil
   · split at ht
     · rename_i h0
       have h0 : t = 1 := by simpa using h0
       subst h0; cases ht
       have : (#[Value.slice none 0 0, .int .i64 n] ++ Array.replicate (fn.ntmps - 2) undef).getD 1 undef = .int .i64 n := by rw [Array.getD_eq_getD_getElem?, Array.getElem?_append_left (by simp)]; rfl
       simp only [this]; exact .v _ _ (.int _ _)
     · cases ht
 refine wp_mono (h _ _ W hfit) fun e a' W' ⟨s, ⟨hq1, hq2, hq3, hq4⟩, hfs⟩ => ?_
 obtain ⟨⟨E, hs, hr⟩, hsz, hdf⟩ := hfs
 obtain ⟨us, hrun, hall⟩ := results_run hT hs hr hq2
 match us, hall with
 | [sv], hall =>
   have hsv := hall.1
   rw [dif_pos (by rfl)] at hrun
   obtain ⟨i, hi, hE⟩ := hs.ent q _ hq3
   have fin : a'.defers = [] ∧ ∃ v, (results fn a'.tmps).run P W' = .ok v W' ∧ ∃ sv, Ending.returned v = .returned sv ∧ Below W.heap.size W W' ∧ ∃ (b cs cap : Nat) (vs : List Value) (t : TypeId),
       sv = .slice (some ⟨b, 0, none⟩) 0 cap ∧ W.heap.size ≤ b ∧ W'.heap[b]? = some (.cells vs.toArray t (0, 0)) ∧ vs.length = cs ∧ cap * k ≤ cs := by
     refine ⟨hdf, _, hrun, sv, rfl, ⟨hs.keep.os, hs.keep.tape, hs.keep.output, hs.keep.size, fun k hk => hs.keep.block k hk (fun h => h)⟩, ?_⟩
     have hbase := (hs.base q _ i hq3 hi).elim (fun h => h) (fun h => h.elim)
     cases hE with
     | sl b k cs rows f vs t hb hl hk hn hcell =>
       cases hsv with
       | osl _ _ _ _ _ b' cs' cap h ho hc hlc =>
         rw [h] at hi
         simp only [Option.some.injEq, Own.sl.injEq] at hi
         obtain ⟨rfl, _, _, rfl⟩ := hi
         refine ⟨b', cs', cap, vs, t, by simp, hbase, hb, hl, by simpa using hc⟩
       | oslOld _ _ _ _ _ b' tot' cs' a l c h ht =>
         rw [h] at hi
         simp only [Option.some.injEq, Own.sl.injEq] at hi
         omega
   cases e with
   | normal => exact fin
   | ret => exact fin
   | _ => exact hq1.elim
def OkN0 (P : Program) (f : Nat) (n : Int) : Prop :=
  Enters P f ∧ ∀ W : World, Calls P f #[.slice none 0 0, .int .i64 n] W fun e W' => e = .returned (.slice none 0 0) ∧ Below W.heap.size W W'
theorem call_nil {P : Program} {f : Nat} {n : Int} {s : Store} (hok : OkN0 P f n) : CallDo P f [.nil, .v (.int .i64 n)] s s .nil := by
 obtain ⟨hent, hcall⟩ := hok
 refine ⟨hent, fun Φ W E vs hs hl hr => ?_⟩
 match vs, hl, hr with
 | [v0, v1], _, hr =>
   have h0 := hr 0 _ _ rfl rfl
   have h1 := hr 1 _ _ rfl rfl
   cases h0
   have e1 := h1.int
   subst e1
   refine (hcall W).mono fun e W' ⟨he, hb⟩ => ?_
   obtain ⟨hs', hx'⟩ := hs.called hb
   exact ⟨_, _, he, hx', hs', .nil⟩
theorem okN0_of_sat {P : Program} {T : Nat → Option TI} (hT : TabOk P T) {f : Nat} {fn : Func} {c : Code} {n : Int} (hf : P.funcs[f]? = some fn) (hb : fn.body = some c) (he : Enters P f) (h2 : 2 ≤ fn.ntmps)
    (h : Sat P c ⟨fn.ntmps, lk [(0, .nil), (1, .v (.int .i64 n))], lk []⟩ (fun e σ => (match e with | .normal | .ret => True | _ => False) ∧ optList (resD T σ) fn.results.toList = some [.nil])) : OkN0 P f n := by
 refine ⟨he, fun W => ?_⟩
 refine calls_of_wp hf hb ?_
 have hfit : Fits ⟨fun b => b < W.heap.size, fun _ => False, W⟩ ⟨fn.ntmps, lk [(0, .nil), (1, .v (.int .i64 n))], lk []⟩ { tmps := #[.slice none 0 0, .int .i64 n] ++ Array.replicate (fn.ntmps - 2) undef, defers := [] } W := by
   refine ⟨⟨⟨okOf ⟨fun b => b < W.heap.size, fun _ => False, W⟩ W (fun _ => none) (lk []), fun _ => none⟩, ⟨⟨rfl, rfl, rfl, Nat.le_refl _, fun _ _ _ => rfl⟩, fun _ _ => rfl, fun n e hn => by simp [lk] at hn, fun n e i hn => by simp [lk] at hn, fun b => Iff.rfl, fun n m e e' i i' _ hn => by simp [lk] at hn, fun b hF => ⟨hF, fun h => h⟩⟩, ?_⟩, by simp; omega, rfl⟩
   intro t d ht
   simp only [lk] at ht
   split at ht
   · rename_i h0
     have h0 : t = 0 := by simpa using h0
     subst h0; cases ht
     have : (#[Value.slice none 0 0, .int .i64 n] ++ Array.replicate (fn.ntmps - 2) undef).getD 0 undef = .slice none 0 0 := by rw [Array.getD_eq_getD_getElem?, Array.getElem?_append_left (by simp)]; rfl
     simp only [this]; exact .nil
   · split at ht
     · rename_i h0
       have h0 : t = 1 := by simpa using h0
       subst h0; cases ht
       have : (#[Value.slice none 0 0, .int .i64 n] ++ Array.replicate (fn.ntmps - 2) undef).getD 1 undef = .int .i64 n := by rw [Array.getD_eq_getD_getElem?, Array.getElem?_append_left (by simp)]; rfl
       simp only [this]; exact .v _ _ (.int _ _)
     · cases ht
 refine wp_mono (h _ _ W hfit) fun e a' W' ⟨s, ⟨hq1, hq2⟩, hfs⟩ => ?_
 obtain ⟨⟨E, hs, hr⟩, hsz, hdf⟩ := hfs
 obtain ⟨us, hrun, hall⟩ := results_run hT hs hr hq2
 match us, hall with
 | [sv], hall =>
   have hsv := hall.1
   rw [dif_pos (by rfl)] at hrun
   cases hsv
   have fin : a'.defers = [] ∧ ∃ v, (results fn a'.tmps).run P W' = .ok v W' ∧ Ending.returned v = .returned (.slice none 0 0) ∧ Below W.heap.size W W' :=
     ⟨hdf, _, hrun, rfl, ⟨hs.keep.os, hs.keep.tape, hs.keep.output, hs.keep.size, fun k hk => hs.keep.block k hk (fun h => h)⟩⟩
   cases e with
   | normal => exact fin
   | ret => exact fin
   | _ => exact hq1.elim
section
variable {P : Program} {T : Nat → Option TI} {all : Array Oper} {K : St → Prop} {m : Nat} {r : List (Nat × D)} {s : Store}
theorem step_appO {n q : Nat} {x y : Operand} {ts : Array TypeId} {ty : TypeId} {pos : String} {af : Array Edge} {t es eb sz : Nat} {ez z : List D} {e : Bool} {rows new : List (List V)} (hd : (decide (q < m)) = true)
    (ht : T t = some ⟨.sl es eb ez, sz, z, e⟩) (hts : ts = #[t, t]) (hx : ev (lk r) x = some (.osl n es rows.length 0 rows.length)) (hs : s n = some ⟨.sl es rows, false⟩) (hy : (ev (lk r) y).bind (rowsOf s) = some new) (h0 : (decide (0 < es) && ez.length == es) = true) (hall : (new.all fun r => r.length == es && r.all V.one) = true) (hb : rows.length + new.length ≤ 1048576) (heb : (decide (eb ≤ 1048576)) = true)
    (h : K ⟨m, lk ((q, .osl n es (rows ++ new).length 0 (rows ++ new).length) :: r), upd s n ⟨.sl es (rows ++ new), false⟩⟩) :
    stepWp P T all ⟨m, lk r, s⟩ ⟨some q, .call ⟨.builtin .append, #[x, y], ts⟩, ty, pos, af, none⟩ K := by
 subst hts
 simp only [Bool.and_eq_true, decide_eq_true_eq, beq_iff_eq] at h0 heb
 obtain ⟨h0, hz⟩ := h0
 obtain ⟨dy, hdy, hy⟩ := Option.bind_eq_some_iff.1 hy
 have key : appendD s (some q) es eb (.osl n es rows.length 0 rows.length) new = some (.osl n es (rows ++ new).length 0 (rows ++ new).length, upd s n ⟨.sl es (rows ++ new), false⟩) := by
   cases new with
   | nil =>
     have hsu : upd s n ⟨.sl es (rows ++ []), false⟩ = s := by
       funext k; unfold upd; split
       · rename_i e; rw [e, hs, List.append_nil]
       · rfl
     rw [hsu, List.append_nil]
     have hr : rowsOf s (.osl n es rows.length 0 rows.length) = some rows := by
       simp only [rowsOf, hs, and_self, if_true, List.drop_zero, List.take_length]
     simp only [appendD, hr, Option.map_some]
   | cons a l =>
     have hm : rows.length + (a :: l).length ≤ mostRows ∧ eb ≤ mostRows := ⟨by simpa [mostRows] using hb, by simpa [mostRows] using heb⟩
     simp only [appendD, hs, List.length_append, true_and, if_pos hm]
 refine step_op hd rfl ?_ h
 have ho : optList (ev (lk r)) [x, y] = some [.osl n es rows.length 0 rows.length, dy] := by simp [optList, hx, hdy]
 simp only [opEval, ho]
 have hcond : (0 < es ∧ ez.length = es ∧ (new.all fun r => r.length == es && r.all V.one) = true) := ⟨h0, hz, hall⟩
 simp only [builtinD, ht, hy, List.getElem?_toArray, List.getElem?_cons_zero, List.getElem?_cons_succ, List.size_toArray, List.length_cons, List.length_nil, Nat.zero_add, Nat.reduceAdd, and_self, if_true, if_pos hcond, key]
end
end Go.Proofs.YtamjajacnfmgeaaGreat
