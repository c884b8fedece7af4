/-
  Contracts of slices.Sort and slices.Compact on numbers: the library's own, read over plain data. Condition: none.
  Contracts: legs of laid bars in the program. Condition: valid in the reference.
-/
import Derived.Test.YtamjajacnfmgeaaGreatK28
import Derived.Shelf.Sort.Plain
import Derived.Shelf.Slices.In.SortNone
import Derived.Shelf.Slices.CompactI
set_option linter.all false
namespace Go.Proofs
open Go.Shelf
def Tryz.laysSort_ren : Ren := ⟨fun | 189 => 45 | 125 => 93 | 257 => 92 | 128 => 154 | 129 => 155 | 294 => 145 | 295 => 146 | 296 => 147 | 297 => 148 | 298 => 149 | 299 => 150 | 216 => 151 | 300 => 152 | 301 => 153 | 328 => 197 | 329 => 198 | 330 => 199 | 331 => 200 | 332 => 201 | 215 => 202 | 343 => 236 | n => n, fun | 28 => 53 | 3 => 3 | 46 => 166 | 0 => 0 | 51 => 229 | 53 => 231 | 4 => 4 | 183 => 221 | 182 => 220 | 131 => 226 | 5 => 5 | 9 => 9 | 218 => 271 | 222 => 275 | 228 => 302 | 229 => 176 | n => n, fun n => n⟩
theorem Tryz.laysSort : Lays.n189 Tryz.prog Tryz.laysSort_ren := { mixed := by kernel_rfl, f125 := Tryz.func93.trans (congrArg some (by kernel_rfl)), f128 := Tryz.func154.trans (congrArg some (by kernel_rfl)), f129 := Tryz.func155.trans (congrArg some (by kernel_rfl)), f189 := Tryz.func45.trans (congrArg some (by kernel_rfl)), f215 := Tryz.func202.trans (congrArg some (by kernel_rfl)), f216 := Tryz.func151.trans (congrArg some (by kernel_rfl)), f257 := Tryz.func92.trans (congrArg some (by kernel_rfl)), f294 := Tryz.func145.trans (congrArg some (by kernel_rfl)), f295 := Tryz.func146.trans (congrArg some (by kernel_rfl)), f296 := Tryz.func147.trans (congrArg some (by kernel_rfl)), f297 := Tryz.func148.trans (congrArg some (by kernel_rfl)), f298 := Tryz.func149.trans (congrArg some (by kernel_rfl)), f299 := Tryz.func150.trans (congrArg some (by kernel_rfl)), f300 := Tryz.func152.trans (congrArg some (by kernel_rfl)), f301 := Tryz.func153.trans (congrArg some (by kernel_rfl)), f328 := Tryz.func197.trans (congrArg some (by kernel_rfl)), f329 := Tryz.func198.trans (congrArg some (by kernel_rfl)), f330 := Tryz.func199.trans (congrArg some (by kernel_rfl)), f331 := Tryz.func200.trans (congrArg some (by kernel_rfl)), f332 := Tryz.func201.trans (congrArg some (by kernel_rfl)), f343 := Tryz.func236.trans (congrArg some (by kernel_rfl)), t0 := Tryz.underlying0, a0 := Tryz.isAgg0, z0 := Tryz.sizeOf0, v0 := Tryz.zeroValue0, t3 := Tryz.underlying3, a3 := Tryz.isAgg3, z3 := Tryz.sizeOf3, v3 := Tryz.zeroValue3, t4 := Tryz.underlying4, a4 := Tryz.isAgg4, z4 := Tryz.sizeOf4, v4 := Tryz.zeroValue4, t5 := Tryz.underlying5, a5 := Tryz.isAgg5, z5 := Tryz.sizeOf5, v5 := Tryz.zeroValue5, t9 := Tryz.underlying9, a9 := Tryz.isAgg9, z9 := Tryz.sizeOf9, v9 := Tryz.zeroValue9, t28 := Tryz.underlying53, a28 := Tryz.isAgg53, z28 := Tryz.sizeOf53, v28 := Tryz.zeroValue53, t46 := Tryz.underlying166, a46 := Tryz.isAgg166, z46 := Tryz.sizeOf166, v46 := Tryz.zeroValue166, t51 := Tryz.underlying229, a51 := Tryz.isAgg229, z51 := Tryz.sizeOf229, v51 := Tryz.zeroValue229, t53 := Tryz.underlying231, a53 := Tryz.isAgg231, z53 := Tryz.sizeOf231, v53 := Tryz.zeroValue231, t131 := Tryz.underlying226, a131 := Tryz.isAgg226, z131 := Tryz.sizeOf226, v131 := Tryz.zeroValue226, t182 := Tryz.underlying220, a182 := Tryz.isAgg220, z182 := Tryz.sizeOf220, v182 := Tryz.zeroValue220, t183 := Tryz.underlying221, a183 := Tryz.isAgg221, z183 := Tryz.sizeOf221, v183 := Tryz.zeroValue221, t218 := Tryz.underlying271, a218 := Tryz.isAgg271, z218 := Tryz.sizeOf271, v218 := Tryz.zeroValue271, t222 := Tryz.underlying275, a222 := Tryz.isAgg275, z222 := Tryz.sizeOf275, v222 := Tryz.zeroValue275, t228 := Tryz.underlying302, a228 := Tryz.isAgg302, z228 := Tryz.sizeOf302, v228 := Tryz.zeroValue302, t229 := Tryz.underlying176, a229 := Tryz.isAgg176, z229 := Tryz.sizeOf176, v229 := Tryz.zeroValue176 }
def Tryz.laysCompact_ren : Ren := ⟨fun | 20 => 106 | n => n, fun | 22 => 53 | 3 => 3 | 4 => 4 | 0 => 0 | n => n, fun n => n⟩
theorem Tryz.laysCompact : Lays2.n20 Tryz.prog Tryz.laysCompact_ren := { mixed := by kernel_rfl, f20 := Tryz.func106.trans (congrArg some (by kernel_rfl)), t0 := Tryz.underlying0, a0 := Tryz.isAgg0, z0 := Tryz.sizeOf0, v0 := Tryz.zeroValue0, t3 := Tryz.underlying3, a3 := Tryz.isAgg3, z3 := Tryz.sizeOf3, v3 := Tryz.zeroValue3, t4 := Tryz.underlying4, a4 := Tryz.isAgg4, z4 := Tryz.sizeOf4, v4 := Tryz.zeroValue4, t22 := Tryz.underlying53, a22 := Tryz.isAgg53, z22 := Tryz.sizeOf53, v22 := Tryz.zeroValue53, i3 := by kernel_rfl }
end Go.Proofs
namespace Go.Proofs.YtamjajacnfmgeaaGreat
open Go Go.RowKit Go.Shelf
def srt (l : List Int) : List Int := l.mergeSort fun x y => decide (x ≤ y)
theorem srt_len (l : List Int) : (srt l).length = l.length := List.length_mergeSort l
theorem srt_nil : srt [] = [] := by simp [srt]
theorem ic_entR {W : World} {E : Env} {b cs : Nat} {l : List Int} {f : Bool} (h : EntR W E (.sl b 1 l.length cs) ⟨.sl 1 (l.map ic), f⟩) :
    ∃ (vs : List Value) (t : TypeId), W.heap[b]? = some (.cells vs.toArray t (0, 0)) ∧ vs.length = cs ∧ l.length ≤ cs ∧ ∀ j, j < l.length → vs[j]? = some (.int .i64 (l.getD j 0)) := by
 generalize hrows : l.map ic = rows at h
 generalize hn : l.length = n at h
 cases h with
 | sl _ _ _ _ _ vs t hb hl hk hcs hc =>
   subst hrows
   refine ⟨vs, t, hb, hl, by simpa using hcs, fun j hj => ?_⟩
   have hj' : j < l.length := by simpa using hj
   have hcs' : l.length ≤ cs := by simpa using hcs
   have hv : vs[j]? = some (vs[j]'(by omega)) := List.getElem?_eq_getElem _
   have := hc j 0 (ic l[j]) (vi l[j]) _ (by simp [hj']) rfl (show vs[j * 1 + 0]? = some _ by rw [Nat.mul_one, Nat.add_zero]; exact hv)
   rw [hv]
   generalize vs[j]'(by omega) = u at this
   cases this
   simp [List.getD_eq_getElem?_getD, hj']
theorem holds_of {W : World} {b cs : Nat} {l : List Int} {vs : List Value} {t : TypeId} (hb : W.heap[b]? = some (.cells vs.toArray t (0, 0))) (hc : ∀ j, j < l.length → vs[j]? = some (.int .i64 (l.getD j 0))) : Go.Sort.Holds (Value.int .i64) W b 0 l.toArray := by
 intro j hj
 have hj' : j < l.length := by simpa using hj
 refine ⟨?_, frozen_of_heap hb _⟩
 rw [cell_of_heap hb, Nat.zero_add, hc j hj']
 simp [List.getD_eq_getElem?_getD, hj']
theorem putRow_block {W : World} {b : Nat} {vs : List Value} {t : TypeId} {d : Array Int} (hb : W.heap[b]? = some (.cells vs.toArray t (0, 0))) :
    (Go.Sort.putRow (Value.int .i64) W b 0 d).heap[b]? = some (.cells (Go.Sort.putCells (Value.int .i64) 0 d vs.toArray) t (0, 0)) := by
 simp [Go.Sort.putRow, Go.Sort.mapBlock, Array.getElem?_modify, hb, Go.Sort.onCells]
theorem putRow_other {W : World} {b c : Nat} {d : Array Int} (hc : c ≠ b) : (Go.Sort.putRow (Value.int .i64) W b 0 d).heap[c]? = W.heap[c]? := by
 simp [Go.Sort.putRow, Go.Sort.mapBlock, Array.getElem?_modify, Ne.symm hc]
theorem putRow_size {W : World} {b : Nat} {d : Array Int} : (Go.Sort.putRow (Value.int .i64) W b 0 d).heap.size = W.heap.size := by
 simp [Go.Sort.putRow, Go.Sort.mapBlock]
theorem enters45 : Enters Tryz.prog 45 := Tryz.call45
theorem enters106 : Enters Tryz.prog 106 := Tryz.call106
theorem RD.osl0 {W : World} {ok : Nat → Prop} {b k tot cs : Nat} {sv : Value} (h : RD W (env0 ok (some (.sl b k tot cs))) (.osl 0 k tot 0 tot) sv) : ∃ cap, sv = .slice (some ⟨b, 0, none⟩) tot cap ∧ cap * k ≤ cs ∧ tot ≤ cap := by
 cases h with
 | osl _ _ _ _ _ b' cs' cap h' ho hc hlc =>
   simp only [env0, if_true, Option.some.injEq, Own.sl.injEq] at h'
   obtain ⟨rfl, _, _, rfl⟩ := h'
   exact ⟨cap, by simp, by simpa using hc, hlc⟩
 | oslOld _ _ _ _ _ b' tot' cs' a l c h' ht =>
   simp only [env0, if_true, Option.some.injEq, Own.sl.injEq] at h'
   obtain ⟨_, _, h3, _⟩ := h'
   omega
theorem cells_after {vs : List Value} {d : List Int} {cs : Nat} (hl : vs.length = cs) (hd : d.length ≤ cs) (j : Nat) (u : Value) (hj : j < d.length) (hu : (Go.Sort.putCells (Value.int .i64) 0 d.toArray vs.toArray)[j]? = some u) : u = .int .i64 (d.getD j 0) := by
 simp only [Go.Sort.putCells, Array.getElem?_mapIdx, Option.map_eq_some_iff] at hu
 obtain ⟨x, hx, rfl⟩ := hu
 rw [if_pos ⟨Nat.zero_le _, by simpa using hj⟩]
 simp [List.getD_eq_getElem?_getD, hj]
theorem sortW (l : List Int) (hl : l.length < 4611686018427387904) : OkW Tryz.prog 45 1 (l.map ic) [] ((srt l).map ic) .unit := by
 refine ⟨enters45, fun W ok vs sv b cs hok hvs hsv hE => ?_⟩
 cases vs with
 | cons _ _ => exact hvs.elim
 | nil =>
 have hln : (l.map ic).length = l.length := by simp
 rw [hln] at hsv hE ⊢
 obtain ⟨cap, rfl, hcap, hlc⟩ := hsv.osl0
 obtain ⟨us, t, hb, hul, hle, hcell⟩ := ic_entR hE
 have hblt : b < W.heap.size := (Array.getElem?_eq_some_iff.1 hb).1
 have hS := Any.slices_Sort_int Tryz.laysSort b 0 cap l W (holds_of (cs := cs) hb hcell) hblt hl
 refine hS.mono fun e W' ⟨he, n, os, hW'⟩ => ?_
 subst hW'
 have hlt : ∀ c, c < W.heap.size → (Go.Sort.grow (Go.Sort.putRow (Value.int .i64) (Go.Sort.ahead W n) b 0 (srt l).toArray) os).heap[c]? = (Go.Sort.putRow (Value.int .i64) (Go.Sort.ahead W n) b 0 (srt l).toArray).heap[c]? := fun c hc => by
   simp only [Go.Sort.grow]
   rw [Array.getElem?_append_left (by rw [putRow_size]; exact hc)]
 refine ⟨_, he, ⟨rfl, rfl, rfl, by simp [Go.Sort.grow, putRow_size, Go.Sort.ahead], fun c hc hne => ?_⟩, ok, fun c hc => ⟨.inl hc, (hok c hc).2⟩, .v _ _ (.tp [] [] rfl fun i x v hx => by simp at hx), ?_⟩
 · exact (hlt c hc).trans (putRow_other hne)
 · have hrl : (srt l).length = l.length := srt_len l
   have hh : (Go.Sort.grow (Go.Sort.putRow (Value.int .i64) (Go.Sort.ahead W n) b 0 (srt l).toArray) os).heap[b]? = some (.cells (Go.Sort.putCells (Value.int .i64) 0 (srt l).toArray us.toArray).toList.toArray t (0, 0)) := by
     rw [hlt b hblt, putRow_block (W := Go.Sort.ahead W n) hb]
   have hent := EntR.sl (W := Go.Sort.grow (Go.Sort.putRow (Value.int .i64) (Go.Sort.ahead W n) b 0 (srt l).toArray) os) (E := env0 ok (some (.sl b 1 l.length cs))) b 1 cs ((srt l).map ic) false (Go.Sort.putCells (Value.int .i64) 0 (srt l).toArray us.toArray).toList t hh
     (by simp [Go.Sort.putCells, hul]) (fun row hr => by obtain ⟨x, _, rfl⟩ := List.mem_map.1 hr; rfl) (by simpa [hrl] using hle) ?_
   · rwa [List.length_map, hrl] at hent
   · intro i j row x v hr hx hv
     rw [List.getElem?_map, Option.map_eq_some_iff] at hr
     obtain ⟨z, hz, rfl⟩ := hr
     have hil : i < (srt l).length := (List.getElem?_eq_some_iff.1 hz).1
     have hj0 : j = 0 := by have := (List.getElem?_eq_some_iff.1 hx).1; simp [ic] at this; exact this
     subst hj0
     have : x = vi z := by simpa [ic] using hx.symm
     subst this
     have hv' : (Go.Sort.putCells (Value.int .i64) 0 (srt l).toArray us.toArray)[i]? = some v := by simpa using hv
     have := cells_after hul (by omega) i v hil hv'
     rw [this]
     have : (srt l).getD i 0 = z := by simp [List.getD_eq_getElem?_getD, hz]
     rw [this]
     exact .int _ _
theorem ok45_nil : Ok Tryz.prog 45 [.sl []] (.tp []) := by
 refine ⟨enters45, fun W ok vs hok hl hv => ?_⟩
 obtain ⟨v, rfl⟩ := List.length_eq_one_iff.1 (by simpa using hl)
 have hr := hv 0 (.sl []) v rfl rfl
 have fin : ∀ (a : Option Addr) (cap : Nat), Calls Tryz.prog 45 #[.slice a 0 cap] W fun e W' => ∃ v, e = .returned v ∧ Below W.heap.size W W' ∧ RV W' (fun b => ok b ∨ (W.heap.size ≤ b ∧ b < W'.heap.size)) (.tp []) v := fun a cap => by
   refine (Any.slices_Sort_int_none Tryz.laysSort a cap W).mono fun e W' ⟨he, hw⟩ => ?_
   subst hw
   exact ⟨_, he, Below.refl _ _, .tp [] [] rfl fun i x v hx => by simp at hx⟩
 cases hr with
 | slE a cap => exact fin a cap
 | sl _ b o k cap => exact fin _ cap
theorem sort_do (m : Nat) (l : List Int) {s : Store} (hl : l.length < 4611686018427387904) (hm : s m = slS 1 (l.map ic)) : CallDo Tryz.prog 45 [slD m 1 (l.map ic)] s (updO s m (slS 1 ((srt l).map ic))) (.v (.tp [])) := by
 cases l with
 | nil =>
   rw [srt_nil]
   have : updO s m (slS 1 (([] : List Int).map ic)) = s := updO_none hm
   rw [this]
   exact call_lend ok45_nil rfl rfl
 | cons a l =>
   have h := call_write (ds := []) (s := s) (m := m) (sortW (a :: l) hl) rfl hm (by simp)
   have e1 : slD m 1 ((a :: l).map ic) = .osl m 1 ((a :: l).map ic).length 0 ((a :: l).map ic).length := slD_of (by simp)
   have hne : (srt (a :: l)).map ic ≠ [] := by
     intro h0
     have := congrArg List.length h0
     rw [List.length_map, srt_len] at this
     simp at this
   rw [e1, slS_of hne, updO_some]
   rw [show ([] : List D).flatMap (pubN s pubD) = [] from rfl, frz_nil] at h
   exact h
def cpt (l : List Int) : List Int := Lib.compact l
theorem cpt_le (l : List Int) : (cpt l).length ≤ l.length := by
 unfold cpt Lib.compact Lib.compactUpTo
 have := List.length_filter_le (Lib.keeps l.toArray) (List.range l.length)
 simpa using this
theorem compactC (l : List Int) (hl : l.length < 4611686018427387904) : OkC Tryz.prog 106 1 (l.map ic) [] (.sl ((cpt l).map ic)) := by
 refine ⟨enters106, fun W ok vs sv b cs hok hvs hsv hE => ?_⟩
 cases vs with
 | cons _ _ => exact hvs.elim
 | nil =>
 have hln : (l.map ic).length = l.length := by simp
 rw [hln] at hsv hE
 obtain ⟨cap, rfl, hcap, hlc⟩ := hsv.osl0
 obtain ⟨us, t, hb, hul, hle, hcell⟩ := ic_entR hE
 have hblt : b < W.heap.size := (Array.getElem?_eq_some_iff.1 hb).1
 have hS := Any.slices_Compact_int Tryz.laysCompact b 0 cap l W (holds_of (cs := cs) hb hcell) (by omega) hlc
 refine hS.mono fun e W' ⟨he, q, hW'⟩ => ?_
 subst hW'
 have hcl := cpt_le l
 refine ⟨_, he, ⟨rfl, rfl, rfl, by simp [putRow_size, Go.Sort.ahead], fun c hc hne => putRow_other hne⟩, ?_⟩
 have hh := putRow_block (W := Go.Sort.ahead W q) (b := b) (d := (cpt l ++ List.replicate (l.length - (cpt l).length) 0).toArray) hb
 have hlen : (cpt l ++ List.replicate (l.length - (cpt l).length) (0 : Int)).length = l.length := by simp; omega
 have hcells : ∀ i, i < (cpt l).length → (Go.Sort.putRow (Value.int .i64) (Go.Sort.ahead W q) b 0 (cpt l ++ List.replicate (l.length - (cpt l).length) 0).toArray).cell? ⟨b, 0 + (i * 1 + 0), none⟩ = some (.int .i64 ((cpt l).getD i 0)) := by
   intro i hi
   have hlt : i < (Go.Sort.putCells (Value.int .i64) 0 (cpt l ++ List.replicate (l.length - (cpt l).length) 0).toArray us.toArray).size := by simp [Go.Sort.putCells, hul]; omega
   have hv : (Go.Sort.putCells (Value.int .i64) 0 (cpt l ++ List.replicate (l.length - (cpt l).length) 0).toArray us.toArray)[i]? = some _ := Array.getElem?_eq_getElem hlt
   have := cells_after hul (by omega) i _ (by omega) hv
   rw [this] at hv
   have e2 : (cpt l ++ List.replicate (l.length - (cpt l).length) (0 : Int)).getD i 0 = (cpt l).getD i 0 := by simp [List.getD_eq_getElem?_getD, List.getElem?_append, hi]
   rw [e2] at hv
   simp only [World.cell?, hh]
   simpa using hv
 have := RV.sl (W := Go.Sort.putRow (Value.int .i64) (Go.Sort.ahead W q) b 0 (cpt l ++ List.replicate (l.length - (cpt l).length) 0).toArray) (ok := fun c => ok c ∨ (W.heap.size ≤ c ∧ c < (Go.Sort.putRow (Value.int .i64) (Go.Sort.ahead W q) b 0 (cpt l ++ List.replicate (l.length - (cpt l).length) 0).toArray).heap.size) ∨ c = b) ((cpt l).map ic) b 0 1 cap (.inr (.inr rfl)) (fun row hr => by obtain ⟨x, _, rfl⟩ := List.mem_map.1 hr; rfl) (by simp; omega)
   (fun i _ => .int .i64 ((cpt l).getD i 0)) ?_ ?_
 · rw [List.length_map] at this; exact this
 · intro i j row x hr hx
   rw [List.getElem?_map, Option.map_eq_some_iff] at hr
   obtain ⟨z, hz, rfl⟩ := hr
   have hil : i < (cpt l).length := (List.getElem?_eq_some_iff.1 hz).1
   have hj0 : j = 0 := by have := (List.getElem?_eq_some_iff.1 hx).1; simp [ic] at this; exact this
   subst hj0
   exact hcells i hil
 · intro i j row x hr hx
   rw [List.getElem?_map, Option.map_eq_some_iff] at hr
   obtain ⟨z, hz, rfl⟩ := hr
   have hj0 : j = 0 := by have := (List.getElem?_eq_some_iff.1 hx).1; simp [ic] at this; exact this
   subst hj0
   have : x = vi z := by simpa [ic] using hx.symm
   subst this
   have : (cpt l).getD i 0 = z := by simp [List.getD_eq_getElem?_getD, hz]
   rw [this]
   exact .int _ _
theorem ok106_nil : Ok Tryz.prog 106 [.sl []] (.sl []) := by
 refine ⟨enters106, fun W ok vs hok hl hv => ?_⟩
 obtain ⟨v, rfl⟩ := List.length_eq_one_iff.1 (by simpa using hl)
 have hr := hv 0 (.sl []) v rfl rfl
 have fin : ∀ (a : Option Addr) (cap : Nat), Calls Tryz.prog 106 #[.slice a 0 cap] W fun e W' => ∃ v, e = .returned v ∧ Below W.heap.size W W' ∧ RV W' (fun b => ok b ∨ (W.heap.size ≤ b ∧ b < W'.heap.size)) (.sl []) v := fun a cap => by
   refine (Any.slices_Compact_int_empty Tryz.laysCompact a cap W).mono fun e W' ⟨he, hw⟩ => ?_
   subst hw
   exact ⟨_, he, Below.refl _ _, .slE _ _⟩
 cases hr with
 | slE a cap => exact fin a cap
 | sl _ b o k cap => exact fin _ cap
theorem cpt_nil : cpt [] = [] := rfl
end Go.Proofs.YtamjajacnfmgeaaGreat
namespace Go.Proofs.YtamjajacnfmgeaaGreat
open Go Go.RowKit
set_option maxHeartbeats 1000000
theorem lin_in {x s k K B : Int} (h0 : 0 ≤ k) (hk : k ≤ K) (h1 : -B ≤ x ∧ x ≤ B) (h2 : -B ≤ x + s * K ∧ x + s * K ≤ B) : -B ≤ x + s * k ∧ x + s * k ≤ B := by
 rcases Int.le_total 0 s with hs | hs
 · have e1 := Int.mul_le_mul_of_nonneg_left hk hs
   have e2 := Int.mul_nonneg hs h0
   omega
 · have e1 := Int.mul_le_mul_of_nonneg_left hk (show 0 ≤ -s by omega)
   have e2 := Int.mul_nonneg (show 0 ≤ -s by omega) h0
   rw [Int.neg_mul] at e1 e2
   rw [Int.neg_mul] at e1
   omega
theorem near_mid {bars : List Bar} {r : Run} (hr : runOk bars r = true) {k : Int} (h0 : 0 ≤ k) (hk : k < r.count) {i : Nat} (hi : i < (movesOf (barOf bars r)).length + 1) : (ptOf (barOf bars r) r k i).In 1048576 := by
 have hn := runOk_near hr
 have ha := near_pts hn.1 hi
 rcases Int.lt_or_eq_of_le h0 with hp | rfl
 · have hb := near_pts hn.2 hi
   rw [← plus_step (barOf bars r) r (k := r.count - 1) (by omega)] at hb
   rw [← plus_step (barOf bars r) r hp]
   obtain ⟨a1, a2, a3⟩ := ha
   obtain ⟨b1, b2, b3⟩ := hb
   simp only [plusP] at b1 b2 b3
   rw [Int.mul_comm] at b1 b2 b3
   refine ⟨?_, ?_, ?_⟩ <;> simp only [plusP] <;> rw [Int.mul_comm]
   · exact lin_in h0 (by omega) a1 b1
   · exact lin_in h0 (by omega) a2 b2
   · exact lin_in h0 (by omega) a3 b3
 · exact ha
theorem pts_near {bars : List Bar} {runs : List Run} (h : runsOk bars runs = true) {n : Int} (h0 : 0 ≤ n) (hn : n < total runs) : ∀ i : Nat, i < (ptsAt bars runs n).length → (gt (ptsAt bars runs n) i).In 1048576 := by
 intro i hi
 obtain ⟨g1, g2, g3, g4⟩ := place_spec (runsP h) h0 hn
 have hi' : i < (movesOf (barAt bars runs n)).length + 1 := by simpa [ptsAt, ptsOf] using hi
 unfold ptsAt
 rw [pts_gt hi']
 exact near_mid ((runsOk_parts h).2 _ g1) g2 g3 hi'
theorem boxOk_of {b : Bx} (hx : (-1048576 ≤ b.lx ∧ b.hx ≤ 1048576) ∧ b.lx ≤ b.hx) (hy : (-1048576 ≤ b.ly ∧ b.hy ≤ 1048576) ∧ b.ly ≤ b.hy) (hz : (-1048576 ≤ b.lz ∧ b.hz ≤ 1048576) ∧ b.lz ≤ b.hz) : boxOk b = true := by
 refine allN_iff.2 fun i hi => ?_
 have : i = 0 ∨ i = 1 ∨ i = 2 := by omega
 rcases this with rfl | rfl | rfl <;> simp [axOk, ax3, isLen] <;> omega
theorem boxOk_hull2 {p q : Pt} (hp : p.In 1048576) (hq : q.In 1048576) : boxOk (hull2 p q) = true := by
 obtain ⟨a1, a2, a3⟩ := hp
 obtain ⟨b1, b2, b3⟩ := hq
 have x1 := mn_le p.x q.x
 have x2 := le_mx p.x q.x
 have y1 := mn_le p.y q.y
 have y2 := le_mx p.y q.y
 have z1 := mn_le p.z q.z
 have z2 := le_mx p.z q.z
 apply boxOk_of <;> simp only [hull2] <;> omega
theorem boxOk_pt {p : Pt} (hp : p.In 1048576) : boxOk (ptBx p) = true := by
 obtain ⟨a1, a2, a3⟩ := hp
 apply boxOk_of <;> simp only [ptBx] <;> omega
theorem mn_self (a : Int) : mn a a = a := by unfold mn; split <;> rfl
theorem mx_self (a : Int) : mx a a = a := by unfold mx; split <;> rfl
theorem hull_two (p q : Pt) : hullI (ptBxs [p, q]) (ptBxs [p, q]).length = hull2 p q := by
 change joinB (joinB (ptBx p) (ptBx p)) (ptBx q) = hull2 p q
 simp only [joinB, ptBx, mn_self, mx_self, hull2]
theorem ok162p (p q : Pt) (hp : p.In 1048576) (hq : q.In 1048576) : Ok Tryz.prog 162 [.sl ((ptBxs [p, q]).map Bx.c)] (.tp [.ag (hull2 p q).c, vi 0]) := by
 have := ok162 (ptBxs [p, q]) (by simp [ptBxs]) (by simp [ptBxs]) fun i hi => by
   have : i = 0 ∨ i = 1 := by simp [ptBxs] at hi; omega
   rcases this with rfl | rfl
   · exact boxOk_pt hp
   · exact boxOk_pt hq
 rwa [hull_two] at this
theorem ok96 (bars : List Bar) (runs : List Run) (h : runsOk bars runs = true) (n : Int) (h0 : 0 ≤ n) (hn : n < total runs) : Ok Tryz.prog 96 [.sl (bars.map Bar.c), .sl (runs.map Run.c), vi n] (.tp [.sl ((legsAt bars runs n).map Bx.c), vi 0]) := by
 have hlen : (ptsAt bars runs n).length = (movesOf (barAt bars runs n)).length + 1 := by simp [ptsAt, ptsOf]
 have hmv := moves_len (barAt bars runs n)
 have hnr := pts_near h h0 hn
 have h161 := ok161 bars runs h n h0 hn
 unfold legsAt
 generalize ptsAt bars runs n = l at *
 refine zz 49 Tryz.func96 rfl Tryz.call96 rfl (zR (zo rfl (zo rfl (zw (zR (zo rfl (zo rfl (zo rfl (zc rfl h161 ?_)))))))))
 refine zo rfl (zo rfl (zo rfl (zo rfl (zo rfl (zw (zq (zR (zo rfl (zo rfl ?_)))))))))
 refine zw (zn rfl (rfl) (zk (zR (zo rfl (zw (zq (zR (zo rfl (zw (Sat.loop' (fun _ => True) (fun i => ⟨49, lk [(8, .v (.sl (l.map Pt.c))), (10, slD 47 6 ((List.range i).map fun j => (legAt l j).c)), (11, .v (vi (i + 1)))], lkO [(47, slS 6 ((List.range i).map fun j => (legAt l j).c))]⟩) (l.length - 1) ?_ (trivial) (fun i hi hI => ?_) (fun hI => ?_)))))))))))
 exact zV ⟨rfl, rfl, rfl, trivial⟩ ⟨soS rfl, trivial⟩
 have e1 : (i : Int) + 1 - 1 = i := by omega
 refine zq (zR (zo rfl (zo rfl (zo rfl (zo rfl (zw (zy rfl (by simp; omega) (zk (zq (zb rfl ?_))))))))))
 refine zR (zo rfl (zo rfl (zs rfl (zo rfl (za rfl (step_sil (sil_slice2 rfl rfl rfl rfl rfl (by omega) (by omega) (by omega) (fun _ => rfl) ?_)))))))
 refine zc rfl (ok163 _ (by simp)) (zc rfl (ok162p _ _ (by rw [e1]; exact hnr _ (by omega)) (by rw [e1]; exact hnr (i + 1) (by omega))) (zo rfl (zo rfl (zo rfl (zo rfl (zd rfl rfl (zo rfl (zw (zq (zR (zo rfl ?_)))))))))))
 refine zo rfl (zw (zn rfl (rfl) (zk (zr (zo rfl (zo rfl (zo rfl ?_)))))))
 first | (refine step_app1 rfl (by first | exact .inl rfl | (right; simp)) rfl rfl rfl rfl rfl rfl (by simp; omega) rfl ?_) | (refine step_op rfl rfl rfl ?_)
 exact zo rfl (wn (nb (nq (zr (zo rfl (za rfl (zo rfl (wn (ns trivial (zV ⟨rfl, slD_eq rfl (by rw [rangeM_snoc, e1]; rfl), rfl, trivial⟩ ⟨soA rfl (by rw [rangeM_snoc, e1]; rfl), trivial⟩))))))))))
 refine zq (zR (zo rfl (zo rfl (zo rfl (zo rfl (zw (zn rfl (by simp; omega) (Sat.exit (xq ?_)))))))))
 exact xe (nq (Sat.pubS 10 rfl rfl (zR (zo rfl (zo rfl (zo rfl (zw (Sat.ret (ze rfl (by simp only [legsOf, List.map_map]; rfl))))))))))
end Go.Proofs.YtamjajacnfmgeaaGreat
