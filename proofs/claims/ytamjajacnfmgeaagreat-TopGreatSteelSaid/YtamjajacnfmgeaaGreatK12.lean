/-
  The abstract machine: loops by a measure, shifts, parts of own slices, clear. Condition: as A21.
  The abstract machine in use: maps. Condition: as A21.
  The abstract machine in use: elements of own slices, bodies with such contracts. Condition: as A21.
  The abstract machine in use: lengths and ends of own slices, structs as plain data. Condition: as A21.
  The abstract machine in use: elements of slices that are nil as long as they are empty. Condition: as A21.
-/
import Derived.Test.YtamjajacnfmgeaaGreatK11
set_option linter.all false
namespace Go.Proofs.YtamjajacnfmgeaaGreat
open Go Go.RowKit
theorem stepX_mono {P : Program} {T : Nat → Option TI} {all : Array Oper} {K K' : St → Prop} (hk : ∀ σ, K σ → K' σ) {o : Oper} {σ : St} (h : stepX P T all σ o K) : stepX P T all σ o K' := by
 rcases h with h | ⟨h1, h2⟩
 · exact .inl (stepWp_mono hk h)
 · exact .inr ⟨h1, fun Φ a W hf K1 Q1 hk1 => h2 Φ a W hf K1 Q1 fun σ' a' W' hh => hk1 σ' a' W' (hk σ' hh)⟩
theorem opsX_mono {P : Program} {T : Nat → Option TI} {all : Array Oper} {K K' : St → Prop} (hk : ∀ σ, K σ → K' σ) : ∀ {os : List Oper} {σ : St}, opsX P T all K os σ → opsX P T all K' os σ
  | [], σ, h => hk σ h
  | _ :: _, _, h => stepX_mono (fun _ h => opsX_mono hk h) h
theorem Sat.xto {P : Program} {T : Nat → Option TI} (hT : TabOk P T) {id : Nat} {ops : Array Oper} {σ : St} {Q : Exit → St → Prop} (σ1 : St) (h : opsX P T ops (fun σ' => Weak σ' σ1) ops.toList σ) (k : Q .normal σ1) : Sat P (.region id ops false) σ Q :=
  Sat.post (Sat.rx hT (opsX_mono (fun _ hw => ⟨σ1, hw, k⟩) h))
def stepM {α : Type} (b : Nat) (μ : α → Nat) (I : α → Prop) (S : α → St) (a : α) (Q : Exit → St → Prop) : Exit → St → Prop
  | .normal, σ => ∃ a', I a' ∧ μ a' < μ a ∧ Weak σ (S a')
  | e, σ => blockQ b Q e σ
theorem LSat.meas {P : Program} {α : Type} {b : Nat} {c : Code} {μ : α → Nat} {I : α → Prop} {S : α → St} {Q : Exit → St → Prop} (h : ∀ a, I a → Sat P c (S a) (stepM b μ I S a Q)) : ∀ (n : Nat) (a : α), μ a ≤ n → I a → LSat P c (S a) (blockQ b Q)
  | n, a, hn, ha => by
    refine LSat.step (Sat.mono (h a ha) fun e σ' hq => ?_)
    cases e <;> simp only [thenQ, stepM] at hq ⊢ <;> try exact hq
    obtain ⟨a', h1, h2, h3⟩ := hq
    cases n with
    | zero => omega
    | succ n => exact LSat.weak h3 (LSat.meas h n a' (by omega) h1)
theorem Sat.loopM {P : Program} {α : Type} {b : Nat} {c : Code} {σ : St} {Q : Exit → St → Prop} (μ : α → Nat) (I : α → Prop) (S : α → St) (a : α) (hw : Weak σ (S a)) (h0 : I a) (h : ∀ a, I a → Sat P c (S a) (stepM b μ I S a Q)) : Sat P (.block b (.loop c)) σ Q :=
  Sat.block (Sat.loop (LSat.weak hw (LSat.meas h _ a (Nat.le_refl _) h0)))
section
variable {α : Type} {b c : Nat} {μ : α → Nat} {I : α → Prop} {S : α → St} {a : α} {Q : Exit → St → Prop} {σ : St}
theorem nsM (a' : α) (h : I a') (hm : μ a' < μ a) (hw : Weak σ (S a')) : stepM b μ I S a Q .normal σ := ⟨a', h, hm, hw⟩
theorem rsM (h : Q .ret σ) : stepM b μ I S a Q .ret σ := h
theorem xsM (h : Q .normal σ) : stepM b μ I S a Q (.exit b) σ := xb h
end
section
variable {P : Program} {T : Nat → Option TI} {all : Array Oper} {Q : St → Prop} {n : Nat} {r : List (Nat × D)} {s : Store} {os : List Oper}
theorem x_did {t : Nat} {op : Op} {ty : TypeId} {pos : String} {af : Array Edge} {s' : Store} {d : D} (hd : (decide (t < n)) = true)
    (h : ∀ (Φ : Fr) (W : World) (E : Env) (ρ : Operand → Value), SR Φ W E s → (∀ x d, ev (lk r) x = some d → RD W E d (ρ x)) → Did P Φ W E (execOp ρ ⟨some t, op, ty, pos, af, none⟩) s' d)
    (k : opsX P T all Q os ⟨n, lk ((t, d) :: r), s'⟩) : opsX P T all Q (⟨some t, op, ty, pos, af, none⟩ :: os) ⟨n, lk r, s⟩ := by
 refine .inr ⟨rfl, Does.leads (s' := s') (d := d) (fun Φ a W E hs hr K' Q' hk => ?_) hd k⟩
 obtain ⟨nx, v, W', E', h1, h2, h3, h4, h5⟩ := h Φ W E a.eval hs fun x d hx => RD_ev hr hx
 unfold Oper.wp
 rw [h1]
 rcases h2 with rfl | ⟨rfl, rfl⟩
 · exact hk _ _ _ h3 h4 h5
 · exact hk _ _ _ h3 h4 h5
theorem x_didN {op : Op} {ty : TypeId} {pos : String} {af : Array Edge} {s' : Store} {d : D}
    (h : ∀ (Φ : Fr) (W : World) (E : Env) (ρ : Operand → Value), SR Φ W E s → (∀ x d, ev (lk r) x = some d → RD W E d (ρ x)) → Did P Φ W E (execOp ρ ⟨none, op, ty, pos, af, none⟩) s' d)
    (k : opsX P T all Q os ⟨n, lk r, s'⟩) : opsX P T all Q (⟨none, op, ty, pos, af, none⟩ :: os) ⟨n, lk r, s⟩ := by
 refine .inr ⟨rfl, Does.leads (s' := s') (d := d) (fun Φ a W E hs hr K' Q' hk => ?_) rfl k⟩
 obtain ⟨nx, v, W', E', h1, h2, h3, h4, h5⟩ := h Φ W E a.eval hs fun x d hx => RD_ev hr hx
 unfold Oper.wp
 rw [h1]
 rcases h2 with rfl | ⟨rfl, rfl⟩
 · exact hk _ _ _ h3 h4 h5
 · exact hk _ _ _ h3 h4 h5
theorem RD.int {W : World} {E : Env} {k : IntKind} {a : Int} {v : Value} (h : RD W E (.v (.int k a)) v) : v = .int k a := by
 cases h with | v _ _ h => cases h; rfl
theorem x_shr {t : Nat} {ty ty2 ty3 : TypeId} {pos : String} {af : Array Edge} {x y : Operand} {k k' : IntKind} {a b : Int} (hd : (decide (t < n)) = true) (hx : ev (lk r) x = some (.v (.int k a))) (hy : ev (lk r) y = some (.v (.int k' b))) (h0 : 0 ≤ b) (h1 : b ≤ k.bits)
    (h : opsX P T all Q os ⟨n, lk ((t, .v (.int k (a / 2 ^ b.toNat))) :: r), s⟩) : opsX P T all Q (⟨some t, .binOp .shr ty x y ty3, ty2, pos, af, none⟩ :: os) ⟨n, lk r, s⟩ := by
 refine x_did hd (fun Φ W E ρ hs hr => ?_) h
 have e1 := (hr x _ hx).int
 have e2 := (hr y _ hy).int
 refine did_val hs (v := .int k (a / 2 ^ b.toNat)) ?_ (.v _ _ (.int _ _))
 rw [e1, e2]
 simp [eqGuard_shr, binOp_shr, shift_shr k k' a b h0 h1]
theorem x_cut {q t : Nat} {x : Operand} {lo hi : Option Operand} {ty : TypeId} {pos : String} {af : Array Edge} {k eb sz : Nat} {ez z : List D} {e : Bool} {m tot off len l h : Nat} {rows : List (List V)} (hd : (decide (q < n)) = true) (ht : T t = some ⟨.sl k eb ez, sz, z, e⟩) (hT : TabOk P T)
    (hx : ev (lk r) x = some (.osl m k tot off len)) (hm : s m = some ⟨.sl k rows, false⟩) (hlen : rows.length = tot)
    (hlo : (match lo with | none => some 0 | some l => (ev (lk r) l).bind idx) = some l) (hhi : (match hi with | none => some len | some h => (ev (lk r) h).bind idx) = some h) (hl : l ≤ h) (hh : h ≤ len) (h1 : l < len ∨ l = 0)
    (kk : opsX P T all Q os ⟨n, lk ((q, .osl m k tot (off + l) (h - l)) :: r), s⟩) : opsX P T all Q (⟨some q, .slice t x lo hi none, ty, pos, af, none⟩ :: os) ⟨n, lk r, s⟩ := by
 refine x_did hd (fun Φ W E ρ hs hr => ?_) kk
 obtain ⟨i, u, z', hi', hu, hz, _, hze, htd⟩ := tab hT ht
 obtain ⟨e', ie, ze, rfl, he1, he2, he3, he4, he5⟩ := td_sl htd
 subst he2
 have hv := hr x _ hx
 generalize hxv : ρ x = v at hv
 cases hv with
 | oslOld _ _ _ _ _ b tot' cs a l c h' ht' =>
   exfalso
   obtain ⟨j, hj, hE⟩ := hs.ent m _ hm
   rw [h'] at hj; cases hj
   cases hE with
   | sl => omega
 | osl _ _ _ _ _ b cs cap h' ho hc hlc =>
   have hbl : ∀ y, (Instr.sliceBound (.int y (l : Int)) h .sliceB).run P W = .ok l W := by
     intro y
     have : (0 : Int) ≤ (l : Int) ∧ (l : Int) ≤ (h : Int) := ⟨by omega, by omega⟩
     simp [Instr.sliceBound, asIntOf, this]
   have hbh : ∀ y, (Instr.sliceBound (.int y (h : Int)) cap .sliceAcap).run P W = .ok h W := by
     intro y
     have : (0 : Int) ≤ (h : Int) ∧ (h : Int) ≤ (cap : Int) := ⟨by omega, by omega⟩
     simp [Instr.sliceBound, asIntOf, this]
   have hbounds : (Instr.sliceBounds true len cap (lo.map ρ) (hi.map ρ) none).run P W = .ok (l, h, cap) W := by
     cases lo with
     | none =>
       simp only [Option.some.injEq] at hlo; subst hlo
       cases hi with
       | none => simp only [Option.some.injEq] at hhi; subst hhi; simp [Instr.sliceBounds]
       | some q =>
         simp only [Option.bind_eq_some_iff] at hhi
         obtain ⟨dq, hdq, hiq⟩ := hhi
         obtain ⟨kq, hkq⟩ := idx_sound (hr q _ hdq) hiq
         simp [Instr.sliceBounds, hkq, hbh]
     | some p =>
       simp only [Option.bind_eq_some_iff] at hlo
       obtain ⟨dp, hdp, hip⟩ := hlo
       obtain ⟨kp, hkp⟩ := idx_sound (hr p _ hdp) hip
       cases hi with
       | none => simp only [Option.some.injEq] at hhi; subst hhi; simp [Instr.sliceBounds, hkp, hbl]
       | some q =>
         simp only [Option.bind_eq_some_iff] at hhi
         obtain ⟨dq, hdq, hiq⟩ := hhi
         obtain ⟨kq, hkq⟩ := idx_sound (hr q _ hdq) hiq
         simp [Instr.sliceBounds, hkq, hbh, hkp, hbl]
   refine did_val hs (v := .slice (if cap = l then some ⟨b, off * ie.size, none⟩ else (some (⟨b, off * ie.size, none⟩ : Addr)).map (·.add (l * ie.size))) (h - l) (cap - l)) ?_ ?_
   · simp [hxv, Instr.sliceAt, Instr.slice, run_underlying W hu, hbounds, run_sizeOf W he1]
   · have hbase : (if cap = l then some ⟨b, off * ie.size, none⟩ else (some (⟨b, off * ie.size, none⟩ : Addr)).map (·.add (l * ie.size))) = some (⟨b, (off + l) * ie.size, none⟩ : Addr) := by
       by_cases hcl : cap = l
       · rw [if_pos hcl]
         have : l = 0 := by omega
         rw [this]; rfl
       · rw [if_neg hcl]
         simp only [Option.map_some, add_plain, Nat.add_mul]
     rw [hbase]
     refine .osl m _ _ (off + l) (h - l) b cs (cap - l) h' (by omega) ?_ (by omega)
     have : off + l + (cap - l) = off + cap := by omega
     rw [this]; exact hc
def zeroV (ez : List D) : Option (List V) := match pub (fun _ => none) pubD (.ag ez) with
  | some (.ag xs) => some xs
  | _ => none
theorem x_clear {q t : Nat} {x : Operand} {ty : TypeId} {pos : String} {af : Array Edge} {k eb sz : Nat} {ez z : List D} {e : Bool} {tot off len : Nat} {rows : List (List V)} {zs : List V} (ht : T t = some ⟨.sl k eb ez, sz, z, e⟩) (hT : TabOk P T)
    (hx : ev (lk r) x = some (.osl q k tot off len)) (hm : s q = some ⟨.sl k rows, false⟩) (hlen : rows.length = tot) (hend : off + len = tot) (hz : zeroV ez = some zs) (hez : ez.length = k) (h0 : 0 < len) (hone : zs.all V.one = true)
    (kk : opsX P T all Q os ⟨n, lk r, upd s q ⟨.sl k (rows.take off ++ List.replicate len zs), false⟩⟩) : opsX P T all Q (⟨none, .call ⟨.builtin .clear, #[x], #[t]⟩, ty, pos, af, none⟩ :: os) ⟨n, lk r, s⟩ := by
 refine x_didN (d := .v (.tp [])) (fun Φ W E ρ hs hr => ?_) kk
 obtain ⟨i, u, z', hi', hu, hzz, _, hze, htd⟩ := tab hT ht
 obtain ⟨e', ie, ze, rfl, he1, he2, he3, he4, he5⟩ := td_sl htd
 subst he2
 subst hlen
 have hv := hr x _ hx
 obtain ⟨j, hj, hE⟩ := hs.ent q _ hm
 generalize hxv : ρ x = v at hv
 cases hE with
 | sl b _ cs _ _ vs t' hb hl hk hn hcell =>
 cases hv with
 | oslOld _ _ _ _ _ b' tot' cs' a l c h' ht' => rw [h'] at hj; cases hj; omega
 | osl _ _ _ _ _ b' cs' cap h' ho hc hlc =>
   rw [hj] at h'; cases h'
   have hzs : ze.cells.size = ie.size := by rw [he5] at hez; simpa using hez
   have hpx : RV W E.ok (.ag zs) (.agg ze.cells.toList.toArray) := by
     have hd : RD W E (.ag (ze.cells.toList.map constV)) (.agg ze.cells.toList.toArray) := .ag _ _ (by simp) (RD_zero (P := P) ze).2
     have hno : pubN s pubD (.ag (ze.cells.toList.map constV)) = [] := by
       simp only [pubN, pubD]
       rw [List.flatMap_eq_nil_iff]
       intro d hd
       obtain ⟨v, _, rfl⟩ := List.mem_map.1 hd
       unfold constV
       split <;> rfl
     have hpub : pub s pubD (.ag (ze.cells.toList.map constV)) = some (.ag zs) := by
       unfold zeroV at hz
       rw [he5] at hz
       split at hz
       · rename_i xs hxs
         cases hz
         rw [← hxs]
         simp only [pubD, pub]
         congr 1
         refine optList_congr fun d hd => ?_
         obtain ⟨v, _, rfl⟩ := List.mem_map.1 hd
         unfold constV
         split <;> rfl
       · cases hz
     have := pub_sound hs [] pubD _ _ _ hd hpub (by rw [hno]; simp)
     refine this.mono fun b hb => ⟨(hs.okd b).2 ?_, rfl⟩
     simp only [envFrz, frz_nil] at hb
     exact hb
   have hxl : zs.length = ie.size := by
     cases hpx with
     | ag _ vs hl _ => rw [← hl]; simpa using hzs
   obtain ⟨news, hnews⟩ : ∃ news, news = (Builtin.zeroCells ze.cells len).toList := ⟨_, rfl⟩
   have hnl : news.length = len * ie.size := by rw [hnews, Array.length_toList, size_zeroCells, hzs]
   have hat : ∀ (p : Nat) (u : Value), news[p]? = some u → ∃ y, zs[p % ie.size]? = some y ∧ RV W E.ok y u := by
     intro p u hp
     have hlt : p < len * ie.size := by rw [← hnl]; exact (List.getElem?_eq_some_iff.1 hp).1
     have hk0 : 0 < ie.size := by
       rcases Nat.eq_zero_or_pos ie.size with h | h
       · rw [h] at hlt; simp at hlt
       · exact h
     have hmod := Nat.mod_lt p hk0
     refine ⟨zs[p % ie.size]'(by omega), List.getElem?_eq_getElem _, ?_⟩
     cases hpx with
     | ag _ vs hl hcl =>
       refine hcl (p % ie.size) _ u (List.getElem?_eq_getElem (by omega)) ?_
       rw [hnews] at hp
       have hp' : (Builtin.zeroCells ze.cells len)[p]? = some u := by simpa using hp
       simp only [Builtin.zeroCells, Array.getElem?_map, hzs] at hp'
       rw [Array.getElem?_eq_getElem (by simpa using hlt)] at hp'
       simp at hp'
       rw [← hp']
       simp [getElem!_pos, hzs, hmod]
   have h1n : ∀ u ∈ news, u.oneCell' = true := by
     intro u hu
     obtain ⟨p, hp⟩ := List.getElem?_of_mem hu
     obtain ⟨y, hy, hr⟩ := hat p u hp
     exact hr.one (List.all_eq_true.1 hone y (List.mem_of_getElem? hy))
   have hfit : off * ie.size + news.length ≤ vs.length := by
     rw [hnl, ← Nat.add_mul, hend, hl]; exact hn
   have hst := run_storeCells (P := P) (b := b) (o := off * ie.size) (t := t') news 0 vs W hb (by omega) h1n
   simp only [Nat.add_zero] at hst
   have hturn := turn_set hs hm hj (i' := .sl b ie.size rows.length cs) ⟨rfl, .inr ⟨rfl, rfl, rfl⟩⟩ rfl (.cells (splice vs (off * ie.size) news).toArray t' (0, 0))
   have hext := hturn.ext (o := .sl ie.size (rows.take off ++ List.replicate len zs)) hs
   have hblt : b < W.heap.size := (Array.getElem?_eq_some_iff.1 hb).1
   have hrl : (rows.take off ++ List.replicate len zs).length = rows.length := by simp; omega
   have hent := EntR.sl (W := setBlk W b (.cells (splice vs (off * ie.size) news).toArray t' (0, 0))) (E := envOf Φ (setBlk W b (.cells (splice vs (off * ie.size) news).toArray t' (0, 0))) E (upd s q ⟨.sl ie.size (rows.take off ++ List.replicate len zs), false⟩) q (.sl b ie.size rows.length cs))
     b ie.size cs (rows.take off ++ List.replicate len zs) false (splice vs (off * ie.size) news) t' (setBlk_same W _ hblt) (by rw [splice_length _ _ _ hfit]; exact hl) ?_ (by rw [hrl]; exact hn) ?_
   · rw [hrl] at hent
     obtain ⟨lz, hlz⟩ : ∃ l', len = l' + 1 := ⟨len - 1, by omega⟩
     refine ⟨.value (.tuple #[]), _, _, _, ?_, .inl rfl, hext, hturn.sr hs hent, .v _ _ (.tp [] [] rfl fun i x v hx => by simp at hx)⟩
     have hcl : (Builtin.clear_ #[t] ty #[.slice (some ⟨b, off * ie.size, none⟩) len cap]).run P W = .ok (.tuple #[]) (setBlk W b (.cells (splice vs (off * ie.size) news).toArray t' (0, 0))) := by
       rw [hlz] at hnews ⊢
       rw [hnews] at hst ⊢
       simp [Builtin.clear_, run_underlying W hu, run_zeroValue W he1 he4, hst]
     have hxs : #[x].map ρ = #[.slice (some ⟨b, off * ie.size, none⟩) len cap] := by simp [hxv]
     simp [execOp, resolve, invoke, builtin, hxv, hcl, Own.block]
   · intro row hr
     rcases List.mem_append.1 hr with hr | hr
     · exact hk row (List.mem_of_mem_take hr)
     · rw [List.eq_of_mem_replicate hr]; exact hxl
   · intro p j row y w hp hy hw
     have hj : j < ie.size := by
       have h3 := (List.getElem?_eq_some_iff.1 hy).1
       have h4 : row.length = ie.size := by
         rcases List.mem_append.1 (List.mem_of_getElem? hp) with hr | hr
         · exact hk row (List.mem_of_mem_take hr)
         · rw [List.eq_of_mem_replicate hr]; exact hxl
       omega
     rw [splice_get _ _ _ hfit] at hw
     rw [List.getElem?_append] at hp
     have htl : (rows.take off).length = off := by simp; omega
     by_cases hpo : p < off
     · rw [if_pos (by omega)] at hp
       have hlt : p * ie.size + j < off * ie.size := by
         have : (p + 1) * ie.size ≤ off * ie.size := Nat.mul_le_mul_right _ (by omega)
         rw [Nat.succ_mul] at this; omega
       rw [if_neg (by omega)] at hw
       rw [List.getElem?_take, if_pos hpo] at hp
       exact (hcell p j row y w hp hy hw).mono hext.ok
     · rw [if_neg (by omega), htl] at hp
       rw [List.getElem?_replicate] at hp
       split at hp
       · rename_i hpl
         cases hp
         have hge : off * ie.size ≤ p * ie.size + j := Nat.le_trans (Nat.mul_le_mul_right _ (by omega)) (Nat.le_add_right _ _)
         have hpo2 : off * ie.size ≤ p * ie.size := Nat.mul_le_mul_right _ (by omega)
         have hpp : p * ie.size + j - off * ie.size = (p - off) * ie.size + j := by
           have e3 : (p - off) * ie.size = p * ie.size - off * ie.size := Nat.sub_mul _ _ _
           omega
         have hlt : p * ie.size + j < off * ie.size + news.length := by
           have : (p - off + 1) * ie.size ≤ len * ie.size := Nat.mul_le_mul_right _ (by omega)
           rw [Nat.succ_mul] at this
           omega
         rw [if_pos ⟨hge, hlt⟩, hpp] at hw
         obtain ⟨y', hy', hrv⟩ := hat _ w hw
         have e2 : ((p - off) * ie.size + j) % ie.size = j := by rw [Nat.mul_comm, Nat.mul_add_mod, Nat.mod_eq_of_lt hj]
         rw [e2, hy] at hy'
         cases hy'
         exact hrv.mono hext.ok
       · cases hp
end
end Go.Proofs.YtamjajacnfmgeaaGreat
namespace Go.Proofs.YtamjajacnfmgeaaGreat
open Go Go.RowKit
section
variable {P : Program} {T : Nat → Option TI} {all : Array Oper} {ov : Store → Store} {K : St → Prop} {n : Nat} {r : List (Nat × D)} {s : Store}
theorem sil_lookN {q t m : Nat} {x ix : Operand} {ok : Bool} {ty : TypeId} {pos : String} {af : Array Edge} {st : Bool} {sz : Nat} {ez : D} {z : List D} {e : Bool} {key : V} {es : List (V × V)} {f : Bool} (hd : (decide (q < n)) = true)
    (ht : T t = some ⟨.mp st ez, sz, z, e⟩) (hx : ev (lk r) x = some (.omap m)) (hi : ev (lk r) ix = some (.v key)) (hm : ∀ s, ov s m = some ⟨.mp es, f⟩) (hk : keyOk st key = true) (hf : findE key es 0 = some none) (h : K ⟨n, lk ((q, if ok then .tp [ez, .v (.bool false)] else ez) :: r), s⟩) :
    SilW P T all ov ⟨n, lk r, s⟩ ⟨some q, .lookup t x ix ok, ty, pos, af, none⟩ K := by
 refine sil_op hd rfl (fun s => ?_) h
 simp only [opEval, ht, hx, hi, hm s, if_pos hk, hf]
theorem sil_lookS {q t m : Nat} {x ix : Operand} {ok : Bool} {ty : TypeId} {pos : String} {af : Array Edge} {st : Bool} {sz : Nat} {ez : D} {z : List D} {e : Bool} {key : V} {es : List (V × V)} {f : Bool} {j : Nat} {y : V} (hd : (decide (q < n)) = true)
    (ht : T t = some ⟨.mp st ez, sz, z, e⟩) (hx : ev (lk r) x = some (.omap m)) (hi : ev (lk r) ix = some (.v key)) (hm : ∀ s, ov s m = some ⟨.mp es, f⟩) (hk : keyOk st key = true) (hf : findE key es 0 = some (some (j, y))) (h : K ⟨n, lk ((q, if ok then .tp [.v y, .v (.bool true)] else .v y) :: r), s⟩) :
    SilW P T all ov ⟨n, lk r, s⟩ ⟨some q, .lookup t x ix ok, ty, pos, af, none⟩ K := by
 refine sil_op hd rfl (fun s => ?_) h
 simp only [opEval, ht, hx, hi, hm s, if_pos hk, hf]
theorem step_mapN {t m : Nat} {x ix y : Operand} {ty : TypeId} {pos : String} {af : Array Edge} {st : Bool} {sz : Nat} {ez : D} {z : List D} {e : Bool} {key v : V} {es : List (V × V)}
    (ht : T t = some ⟨.mp st ez, sz, z, e⟩) (hx : ev (lk r) x = some (.omap m)) (hi : ev (lk r) ix = some (.v key)) (hy : ev (lk r) y = some (.v v)) (hm : s m = some ⟨.mp es, false⟩) (hk : keyOk st key = true) (hf : findE key es 0 = some none) (h : K ⟨n, lk r, upd s m ⟨.mp (es ++ [(key, v)]), false⟩⟩) :
    stepWp P T all ⟨n, lk r, s⟩ ⟨none, .mapUpdate t x ix y, ty, pos, af, none⟩ K := by
 refine step_do (d := .any) rfl ?_ h
 simp only [opEval, ht, hx, hi, hy, hm, if_pos hk, hf]
end
theorem findE_none {k : V} : ∀ {es : List (V × V)} {i : Nat}, (∀ e ∈ es, keyEq k e.1 = some false) → findE k es i = some none
  | [], _, _ => rfl
  | e :: es, i, h => by
    simp only [findE, h e (List.mem_cons_self ..)]
    exact findE_none fun e' he => h e' (List.mem_cons_of_mem _ he)
theorem findE_at {k : V} : ∀ {es : List (V × V)} {i j : Nat} {e : V × V}, es[j]? = some e → keyEq k e.1 = some true → (∀ (p : Nat) (e' : V × V), p < j → es[p]? = some e' → keyEq k e'.1 = some false) → findE k es i = some (some (i + j, e.2))
  | [], _, j, _, h, _, _ => by simp at h
  | e :: es, i, 0, e', h, hk, _ => by
    simp at h; subst h
    simp only [findE, hk]; rfl
  | e :: es, i, j + 1, e', h, hk, hp => by
    simp only [findE, hp 0 e (by omega) rfl]
    have := findE_at (i := i + 1) (by simpa using h) hk fun p e'' hlt hp' => hp (p + 1) e'' (by omega) (by simpa using hp')
    rw [this]
    have : i + 1 + j = i + (j + 1) := by omega
    rw [this]
theorem keyEq_int (a b : Int) : keyEq (.int .i64 a) (.int .i64 b) = some (a == b) := by simp [keyEq]
def mapL (n : Nat) (f : Nat → Int) (g : Nat → V) : List (V × V) := (List.range n).map fun j => (.int .i64 (f j), g j)
theorem mapL_snoc (n : Nat) (f : Nat → Int) (g : Nat → V) : mapL (n + 1) f g = mapL n f g ++ [(.int .i64 (f n), g n)] := rangeM_snoc _ _
theorem mapL_none {n : Nat} {f : Nat → Int} {g : Nat → V} {a : Int} (h : ∀ j, j < n → (a == f j) = false) : findE (.int .i64 a) (mapL n f g) 0 = some none := by
 refine findE_none fun e he => ?_
 obtain ⟨j, hj, rfl⟩ := List.mem_map.1 he
 rw [keyEq_int, h j (List.mem_range.1 hj)]
theorem mapL_at {n : Nat} {f : Nat → Int} {g : Nat → V} {a : Int} {j : Nat} (hj : j < n) (h : (a == f j) = true) (hb : ∀ k, k < j → (a == f k) = false) : findE (.int .i64 a) (mapL n f g) 0 = some (some (j, g j)) := by
 have := findE_at (k := .int .i64 a) (es := mapL n f g) (i := 0) (j := j) (e := (.int .i64 (f j), g j)) (by simp [mapL, List.getElem?_range hj]) (by rw [keyEq_int, h]) fun p e' hp he => by
   simp only [mapL, List.getElem?_map, Option.map_eq_some_iff] at he
   obtain ⟨q, hq, rfl⟩ := he
   have : q = p := by
     have := List.getElem?_eq_some_iff.1 hq
     obtain ⟨_, h2⟩ := this
     simpa using h2.symm
   subst this
   rw [keyEq_int, hb q hp]
 simpa using this
theorem mp_eq {f : Store} {t : Nat} {x y : List (V × V)} {z : Bool} (h : f t = some ⟨.mp x, z⟩) (e : x = y) : f t = some ⟨.mp y, z⟩ := e ▸ h
end Go.Proofs.YtamjajacnfmgeaaGreat
namespace Go.Proofs.YtamjajacnfmgeaaGreat
open Go Go.RowKit
section
variable {P : Program} {T : Nat → Option TI} {all : Array Oper} {ov : Store → Store} {K : St → Prop} {n : Nat} {r : List (Nat × D)} {s : Store}
theorem sil_ixO {q t m : Nat} {x ix : Operand} {ty : TypeId} {pos : String} {af : Array Edge} {k eb sz tot off len : Nat} {ez z : List D} {e : Bool} {rows : List (List V)} {f : Bool} {kk : IntKind} {i : Int} (hd : (decide (q < n)) = true)
    (ht : T t = some ⟨.sl k eb ez, sz, z, e⟩) (hx : ev (lk r) x = some (.osl m k tot off len)) (hi : ev (lk r) ix = some (.v (.int kk i))) (hm : ∀ s, ov s m = some ⟨.sl k rows, f⟩) (hl : rows.length = tot) (h0 : 0 ≤ i) (h1 : i < len)
    (h : K ⟨n, lk ((q, .optr m tot ((off + i.toNat) * k)) :: r), s⟩) : SilW P T all ov ⟨n, lk r, s⟩ ⟨some q, .indexAddr t x ix, ty, pos, af, none⟩ K := by
 refine sil_op hd rfl (fun s => ?_) h
 have h2 : i.toNat < len := by omega
 simp only [opEval, ht, hx, hi, Option.bind_some, idx, if_pos h0, hm s, hl, h2, and_self, if_true]
theorem divmod {j k c : Nat} (hc : c < k) : (j * k + c) / k = j ∧ (j * k + c) % k = c := by
 refine ⟨?_, ?_⟩
 · rw [Nat.mul_comm, Nat.mul_add_div (by omega), Nat.div_eq_of_lt hc]; rfl
 · rw [Nat.mul_comm, Nat.mul_add_mod, Nat.mod_eq_of_lt hc]
theorem sil_ldO {q t m : Nat} {a : Operand} {ty : TypeId} {pos : String} {af : Array Edge} {ti : TI} {tot o j k c : Nat} {rows : List (List V)} {row : List V} {f : Bool} {x : V} (hd : (decide (q < n)) = true) (ht : T t = some ti)
    (ha : ev (lk r) a = some (.optr m tot o)) (hm : ∀ s, ov s m = some ⟨.sl k rows, f⟩) (hl : rows.length = tot) (ho : o = j * k + c) (hc : (decide (c < k) && decide (c + ti.size ≤ k)) = true) (hr : rows[j]? = some row) (hp : partV row c ti.size ti.d.agg = some x)
    (h : K ⟨n, lk ((q, .v x) :: r), s⟩) : SilW P T all ov ⟨n, lk r, s⟩ ⟨some q, .load t a, ty, pos, af, none⟩ K := by
 simp only [Bool.and_eq_true, decide_eq_true_eq] at hc
 obtain ⟨d1, d2⟩ := divmod (j := j) hc.1
 subst ho
 refine sil_op hd rfl (fun s => ?_) h
 have h0 : 0 < k := by omega
 simp only [opEval, ht, ha, loadD, hm s, hl, d1, d2, h0, hc.2, and_self, if_true, hr, hp, Option.map_some]
theorem step_stO {t m : Nat} {a y : Operand} {ty : TypeId} {pos : String} {af : Array Edge} {ti : TI} {tot o j k c : Nat} {rows : List (List V)} {row : List V} {x : V} (ht : T t = some ti)
    (ha : ev (lk r) a = some (.optr m tot o)) (hy : ev (lk r) y = some (.v x)) (hm : s m = some ⟨.sl k rows, false⟩) (hl : rows.length = tot) (ho : o = j * k + c) (hc : (decide (c < k) && decide (c + ti.size ≤ k)) = true) (hr : rows[j]? = some row) (hx : (x.cells.length == ti.size && x.cells.all V.one) = true)
    (h : K ⟨n, lk r, upd s m ⟨.sl k (rows.set j (splice row c x.cells)), false⟩⟩) : stepWp P T all ⟨n, lk r, s⟩ ⟨none, .store t a y, ty, pos, af, none⟩ K := by
 simp only [Bool.and_eq_true, decide_eq_true_eq, beq_iff_eq] at hc hx
 obtain ⟨d1, d2⟩ := divmod (j := j) hc.1
 subst ho
 refine step_do (d := .any) rfl ?_ h
 have h0 : 0 < k := by omega
 have h3 : x.cells.length = ti.size := hx.1
 simp only [opEval, ht, ha, hy, storeD, hm, hl, d1, d2, h0, hc.2, h3, hx.2, and_self, if_true, hr, Option.map_some]
end
theorem okO_body {P : Program} {T : Nat → Option TI} (hT : TabOk P T) {f : Nat} {fn : Func} {c : Code} {xs : List V} {m k : Nat} {rows : List (List V)} {pre post : List V} (n : Nat) (hf : P.funcs[f]? = some fn) (hb : fn.body = some c) (he : Enters P f) (h2 : 0 < pre.length + post.length) (hn : xs.length + (fn.ntmps - xs.length) = n)
    (h : Sat P c ⟨n, lk (initL 0 xs), lk []⟩ (EndsO T fn m k rows pre post)) : OkO P f xs k rows pre post := by
 subst hn
 exact okO_of_sat hT hf hb he h2 h
theorem okC_body {P : Program} {T : Nat → Option TI} (hT : TabOk P T) {f : Nat} {fn : Func} {c : Code} {k : Nat} {rows : List (List V)} {xs : List V} {r : V} (n : Nat) (hf : P.funcs[f]? = some fn) (hb : fn.body = some c) (he : Enters P f) (hn : xs.length + 1 + (fn.ntmps - (xs.length + 1)) = n)
    (h : Sat P c ⟨n, lk ((0, .osl 0 k rows.length 0 rows.length) :: initL 1 xs), lk [(0, ⟨.sl k rows, false⟩)]⟩ (Ends T fn r)) : OkC P f k rows xs r := by
 subst hn
 exact okC_of_sat hT hf hb he h
theorem endsO_of {T : Nat → Option TI} {fn : Func} {n k : Nat} {rows : List (List V)} {pre post : List V} {e : Exit} {σ : St} (h1 : match e with | .normal | .ret => True | _ => False) (h2 : optList (resD T σ) fn.results.toList = some (pre.map .v ++ slD n k rows :: post.map .v)) (h3 : σ.store n = slS k rows) (_ : True) : EndsO T fn n k rows pre post e σ := ⟨h1, h2, h3⟩
theorem OkO.ok {P : Program} {f : Nat} {xs : List V} {k : Nat} {rows : List (List V)} {pre post : List V} (h : OkO P f xs k rows pre post) : Ok P f xs (.tp (pre ++ .sl rows :: post)) := by
 obtain ⟨he, hc⟩ := h
 refine ⟨he, fun W ok vs h1 h2 h3 => (hc W ok vs h1 h2 h3).mono fun e W' ⟨us, sv, ws, he, hb, B, own, hB, hown, hus, hws, hrd, hent, hnil⟩ => ?_⟩
 refine ⟨_, he, hb, ?_⟩
 have hv : ∀ {x : V} {v : Value}, RV W' B x v → RV W' (fun b => ok b ∨ (W.heap.size ≤ b ∧ b < W'.heap.size)) x v := fun h => h.mono fun b hbB => ⟨hB b hbB, rfl⟩
 have hall : All2 (RV W' (fun b => ok b ∨ (W.heap.size ≤ b ∧ b < W'.heap.size))) (pre ++ .sl rows :: post) (us ++ sv :: ws) := by
   refine All2.append (hus.mono fun _ _ h => hv h) ⟨?_, hws.mono fun _ _ h => hv h⟩
   cases rows with
   | nil =>
     cases hrd with
     | nil => exact .slE _ _
   | cons row rest =>
     obtain ⟨i, rfl, hE⟩ := hent _ rfl
     obtain ⟨hfr, hnB⟩ := hown i rfl
     have hlt := hE.block_lt
     cases hE with
     | sl b _ cs _ _ us t hbk hl hk hn hcell =>
       cases hrd with
       | osl _ _ _ _ _ b' cs' cap h' ho hc' hlc =>
         simp only [env0, if_true, Option.some.injEq, Own.sl.injEq] at h'
         obtain ⟨rfl, _, _, rfl⟩ := h'
         have hget : ∀ i j (r : List V) (x : V), (row :: rest)[i]? = some r → r[j]? = some x → i * k + j < us.length := fun i j r x hr hx => by
           have h4 := (List.getElem?_eq_some_iff.1 hr).1
           have h5 := (List.getElem?_eq_some_iff.1 hx).1
           have h6 := hk r (List.mem_of_getElem? hr)
           have : (i + 1) * k ≤ (row :: rest).length * k := Nat.mul_le_mul_right _ h4
           rw [Nat.succ_mul] at this
           omega
         refine .sl (row :: rest) b (0 * k) k cap (.inr ⟨hfr, hlt⟩) hk hlc (fun i j => us.getD (i * k + j) undef) (fun i j r x hr hx => ?_) (fun i j r x hr hx => ?_)
         · rw [cell_of_heap hbk]
           have := hget i j r x hr hx
           simp [List.getD_eq_getElem?_getD, this]
         · have h7 := hget i j r x hr hx
           have h8 : us[i * k + j]? = some (us[i * k + j]'h7) := List.getElem?_eq_getElem h7
           have := hcell i j r x _ hr hx h8
           have e : us.getD (i * k + j) undef = us[i * k + j]'h7 := by simp [List.getD_eq_getElem?_getD, h7]
           rw [e]
           exact hv this
       | oslOld _ _ _ _ _ b' tot' cs' a l c h' ht =>
         simp only [env0, if_true, Option.some.injEq, Own.sl.injEq] at h'
         obtain ⟨_, _, h3, _⟩ := h'
         simp only [List.length_cons] at h3 ht
         omega
 exact .tp _ _ hall.len fun i x v hx hv => hall.at hx hv
end Go.Proofs.YtamjajacnfmgeaaGreat
namespace Go.Proofs.YtamjajacnfmgeaaGreat
open Go Go.RowKit
theorem pub_osl {s : Store} {m k tot off len : Nat} {rows : List (List V)} {f : Bool} (hm : s m = some ⟨.sl k rows, f⟩) (hl : rows.length = tot) : pub s pubD (.osl m k tot off len) = some (.sl ((rows.drop off).take len)) := by
 simp only [pubD, pub, hm, hl, and_self, if_true]
theorem pub_oslF {s : Store} {m k tot : Nat} {rows : List (List V)} {f : Bool} (hm : s m = some ⟨.sl k rows, f⟩) (hl : rows.length = tot) : pub s pubD (.osl m k tot 0 tot) = some (.sl rows) := by
 rw [pub_osl hm hl, ← hl, List.drop_zero, List.take_length]
theorem slD_congr {n k : Nat} {x y : List (List V)} (h : x.length = y.length) : slD n k x = slD n k y := by
 cases x <;> cases y <;> simp_all [slD]
section
variable {P : Program} {T : Nat → Option TI} {all : Array Oper} {ov : Store → Store} {K : St → Prop} {n : Nat} {r : List (Nat × D)} {s : Store}
theorem sil_lenO {q t m : Nat} {x : Operand} {ts : Array TypeId} {ty : TypeId} {pos : String} {af : Array Edge} {k k' eb sz tot off len : Nat} {ez z : List D} {e : Bool} {rows : List (List V)} {f : Bool} (hd : (decide (q < n)) = true)
    (hts : ts[0]? = some t) (ht : T t = some ⟨.sl k eb ez, sz, z, e⟩) (hx : ev (lk r) x = some (.osl m k' tot off len)) (hm : ∀ s, ov s m = some ⟨.sl k' rows, f⟩) (hl : rows.length = tot)
    (h : K ⟨n, lk ((q, .v (.int .i64 len)) :: r), s⟩) : SilW P T all ov ⟨n, lk r, s⟩ ⟨some q, .call ⟨.builtin .len, #[x], ts⟩, ty, pos, af, none⟩ K := by
 refine sil_op hd rfl (fun s => ?_) h
 have ho : optList (ev (lk r)) [x] = some [.osl m k' tot off len] := by simp [optList, hx]
 simp only [opEval, ho, builtinD, hts, lenOf, ht, hm s, hl, if_true]
theorem sil_lenS {q t m : Nat} {x : Operand} {ts : Array TypeId} {ty : TypeId} {pos : String} {af : Array Edge} {k k' eb sz : Nat} {ez z : List D} {e : Bool} {rows : List (List V)} (hd : (decide (q < n)) = true)
    (hts : ts[0]? = some t) (ht : T t = some ⟨.sl k eb ez, sz, z, e⟩) (hx : ev (lk r) x = some (slD m k' rows)) (hm : ∀ s, ov s m = slS k' rows)
    (h : K ⟨n, lk ((q, .v (.int .i64 rows.length)) :: r), s⟩) : SilW P T all ov ⟨n, lk r, s⟩ ⟨some q, .call ⟨.builtin .len, #[x], ts⟩, ty, pos, af, none⟩ K := by
 cases rows with
 | nil =>
   refine sil_op hd rfl (fun s => ?_) h
   have ho : optList (ev (lk r)) [x] = some [.nil] := by simp [optList, hx, slD]
   simp only [opEval, ho, builtinD, hts, lenOf, ht]
   rfl
 | cons row rest => exact sil_lenO hd hts ht hx hm rfl h
theorem RD.ag_v {W : World} {E : Env} {xs : List V} {v : Value} (h : RD W E (.ag (xs.map .v)) v) : RD W E (.v (.ag xs)) v := by
 cases h with
 | ag _ vs hl h =>
   refine .v _ _ (.ag xs vs (by simpa using hl) fun i x v hx hv => ?_)
   have := h i (.v x) v (by simp [hx]) hv
   cases this with
   | v _ _ h => exact h
theorem x_ldV {Q : St → Prop} {os : List Oper} {q t m : Nat} {a : Operand} {ty : TypeId} {pos : String} {af : Array Edge} {ti : TI} {xs : List V} {f : Bool} (hT : TabOk P T) (hd : (decide (q < n)) = true) (ht : T t = some ti) (ha : ev (lk r) a = some (.ptr m 0)) (hm : s m = some ⟨.cells (xs.map .v), f⟩)
    (hsz : (ti.d.agg && ti.size == xs.length) = true) (k : opsX P T all Q os ⟨n, lk ((q, .v (.ag xs)) :: r), s⟩) : opsX P T all Q (⟨some q, .load t a, ty, pos, af, none⟩ :: os) ⟨n, lk r, s⟩ := by
 simp only [Bool.and_eq_true, beq_iff_eq] at hsz
 refine x_did hd (fun Φ W E ρ hs hr => ?_) k
 have he : opEval T s (some q) (fun x => ev (lk r) x) (.load t a) = some (.ag (xs.map .v), s) := by
   simp only [opEval, ht, ha, loadD, hm, partD, hsz.1, if_true, hsz.2, List.length_map, Nat.zero_add, Nat.le_refl, List.drop_zero, Option.map_some]
   have : (xs.map D.v).take xs.length = xs.map D.v := by rw [List.take_of_length_le (by simp)]
   rw [this]
 obtain ⟨nx, v, W', E', h1, h2, h3, h4, h5⟩ := opEval_sound hT hs hr (o := ⟨some q, .load t a, ty, pos, af, none⟩) he
 exact ⟨nx, v, W', E', h1, h2, h3, h4, h5.ag_v⟩
end
theorem ends_osl {T : Nat → Option TI} {fn : Func} {r : V} {e : Exit} {σ : St} {m k tot off len : Nat} {rows : List (List V)} {f : Bool} (h1 : match e with | .normal | .ret => True | _ => False) (hr : optList (resD T σ) fn.results.toList = some [.osl m k tot off len])
    (hm : σ.store m = some ⟨.sl k rows, f⟩) (hl : rows.length = tot) (he : .sl ((rows.drop off).take len) = r) : Ends T fn r e σ := by
 refine ⟨h1, ?_⟩
 simp only [resV, hr, optList, pub_osl hm hl, he]
theorem set_mid {α : Type} {K l : List α} {c : α} (h : K.length < l.length) : (K ++ l.drop K.length).set K.length c = (K ++ [c]) ++ l.drop (K ++ [c]).length := by
 rw [List.set_append_right _ _ (Nat.le_refl _), Nat.sub_self, List.append_assoc]
 congr 1
 have e : (K ++ [c]).length = K.length + 1 := by simp
 rw [e, List.drop_eq_getElem_cons h, List.set_cons_zero]
 rfl
theorem get_mid {α : Type} {K l : List α} {n : Nat} (h : K.length ≤ n) : (K ++ l.drop K.length)[n]? = l[n]? := by
 rw [List.getElem?_append_right h, List.getElem?_drop]
 congr 1
 omega
end Go.Proofs.YtamjajacnfmgeaaGreat
namespace Go.Proofs.YtamjajacnfmgeaaGreat
open Go Go.RowKit
section
variable {P : Program} {T : Nat → Option TI} {all : Array Oper} {ov : Store → Store} {K : St → Prop} {n : Nat} {r : List (Nat × D)} {s : Store}
theorem sil_ixS {q t m : Nat} {x ix : Operand} {ty : TypeId} {pos : String} {af : Array Edge} {k eb sz : Nat} {ez z : List D} {e : Bool} {rows : List (List V)} {kk : IntKind} {i : Int} (hd : (decide (q < n)) = true)
    (ht : T t = some ⟨.sl k eb ez, sz, z, e⟩) (hx : ev (lk r) x = some (slD m k rows)) (hi : ev (lk r) ix = some (.v (.int kk i))) (hm : ∀ s, ov s m = slS k rows) (h0 : 0 ≤ i) (h1 : i < rows.length)
    (h : K ⟨n, lk ((q, .optr m rows.length (i.toNat * k)) :: r), s⟩) : SilW P T all ov ⟨n, lk r, s⟩ ⟨some q, .indexAddr t x ix, ty, pos, af, none⟩ K := by
 have hne : rows ≠ [] := by rintro rfl; simp at h1; omega
 rw [slD_of hne] at hx
 have hm' : ∀ s, ov s m = some ⟨.sl k rows, false⟩ := fun s => (hm s).trans (slS_of hne)
 refine sil_ixO hd ht hx hi hm' rfl h0 h1 ?_
 rwa [Nat.zero_add]
theorem sil_ldS {q t m : Nat} {a : Operand} {ty : TypeId} {pos : String} {af : Array Edge} {ti : TI} {tot o j k c : Nat} {rows : List (List V)} {row : List V} {x : V} (hd : (decide (q < n)) = true) (ht : T t = some ti)
    (ha : ev (lk r) a = some (.optr m tot o)) (hm : ∀ s, ov s m = slS k rows) (hl : rows.length = tot) (ho : o = j * k + c) (hc : (decide (c < k) && decide (c + ti.size ≤ k)) = true) (hr : rows[j]? = some row) (hp : partV row c ti.size ti.d.agg = some x)
    (h : K ⟨n, lk ((q, .v x) :: r), s⟩) : SilW P T all ov ⟨n, lk r, s⟩ ⟨some q, .load t a, ty, pos, af, none⟩ K := by
 have hne : rows ≠ [] := by rintro rfl; simp at hr
 exact sil_ldO hd ht ha (fun s => (hm s).trans (slS_of hne)) hl ho hc hr hp h
theorem step_stS {t m : Nat} {a y : Operand} {ty : TypeId} {pos : String} {af : Array Edge} {ti : TI} {tot o j k c : Nat} {rows : List (List V)} {row : List V} {x : V} (ht : T t = some ti)
    (ha : ev (lk r) a = some (.optr m tot o)) (hy : ev (lk r) y = some (.v x)) (hm : s m = slS k rows) (hl : rows.length = tot) (ho : o = j * k + c) (hc : (decide (c < k) && decide (c + ti.size ≤ k)) = true) (hr : rows[j]? = some row) (hx : (x.cells.length == ti.size && x.cells.all V.one) = true)
    (h : K ⟨n, lk r, upd s m ⟨.sl k (rows.set j (splice row c x.cells)), false⟩⟩) : stepWp P T all ⟨n, lk r, s⟩ ⟨none, .store t a y, ty, pos, af, none⟩ K := by
 have hne : rows ≠ [] := by rintro rfl; simp at hr
 exact step_stO ht ha hy (hm.trans (slS_of hne)) hl ho hc hr hx h
end
end Go.Proofs.YtamjajacnfmgeaaGreat
