/-
  Data of the program as plain data, and contracts of small functions of the references. No condition.
-/
import Derived.Test.YtamjajacnfmgeaaGreatK16
set_option linter.all false
namespace Go.Proofs.YtamjajacnfmgeaaGreat
open Go Go.RowKit
set_option maxHeartbeats 1000000
theorem mixed : Tryz.prog.follows .mixedOrders = true := by kernel_rfl
abbrev vi (n : Int) : V := .int .i64 n
abbrev vu (n : Int) : V := .int .u8 n
def beqB (a b : ByteArray) : Bool := a.toList == b.toList
structure Bar where
  mark : ByteArray
  size : Int
  count : Int
  code : Int
  dims : List Int
  deriving Inhabited
def ic (n : Int) : List V := [vi n]
def Bar.c (b : Bar) : List V := [.str b.mark, vi b.size, vi b.count, vi b.code, .sl (b.dims.map ic)]
structure Run where
  mark : ByteArray
  tx : Int
  ty : Int
  ax : Int
  ay : Int
  az : Int
  sx : Int
  sy : Int
  sz : Int
  count : Int
  deriving Inhabited
def Run.c (r : Run) : List V := [.str r.mark, vi r.tx, vi r.ty, vi r.ax, vi r.ay, vi r.az, vi r.sx, vi r.sy, vi r.sz, vi r.count]
structure Pt where
  x : Int
  y : Int
  z : Int
  deriving Inhabited, DecidableEq
def Pt.c (p : Pt) : List V := [vi p.x, vi p.y, vi p.z]
structure Bx where
  lx : Int
  ly : Int
  lz : Int
  hx : Int
  hy : Int
  hz : Int
  deriving Inhabited, DecidableEq
def Bx.c (b : Bx) : List V := [vi b.lx, vi b.ly, vi b.lz, vi b.hx, vi b.hy, vi b.hz]
structure Stp where
  fr : Int
  va : Int
  deriving Inhabited, DecidableEq
def Stp.c (s : Stp) : List V := [vi s.fr, vi s.va]
structure Dem where
  name : ByteArray
  zone : Bx
  steps : List Stp
  deriving Inhabited
def Dem.c (d : Dem) : List V := [.str d.name, vi d.zone.lx, vi d.zone.ly, vi d.zone.lz, vi d.zone.hx, vi d.zone.hy, vi d.zone.hz, .sl (d.steps.map Stp.c)]
structure Jnt where
  a : Int
  b : Int
  deriving Inhabited, DecidableEq
def Jnt.c (j : Jnt) : List V := [vi j.a, vi j.b]
structure Rul where
  num : Int
  den : Int
  pn : Int
  pd : Int
  bn : Int
  bd : Int
  ln : Int
  ld : Int
  least : Int
  deriving Inhabited
def Rul.c (r : Rul) : List V := [vi r.num, vi r.den, vi r.pn, vi r.pd, vi r.bn, vi r.bd, vi r.ln, vi r.ld, vi r.least]
structure Mem where
  name : ByteArray
  boxes : List Bx
  holes : List Bx
  cover : Int
  agg : Int
  poker : Int
  deriving Inhabited
def Mem.c (m : Mem) : List V := [.str m.name, .sl (m.boxes.map Bx.c), .sl (m.holes.map Bx.c), vi m.cover, vi m.agg, vi m.poker]
structure Det where
  mem : Mem
  bars : List Bar
  runs : List Run
  laps : List Jnt
  dems : List Dem
  rule : Rul
  deriving Inhabited
def Det.c (x : Det) : List V := [.str x.mem.name, .sl (x.mem.boxes.map Bx.c), .sl (x.mem.holes.map Bx.c), vi x.mem.cover, vi x.mem.agg, vi x.mem.poker,
  .sl (x.bars.map Bar.c), .sl (x.runs.map Run.c), .sl (x.laps.map Jnt.c), .sl (x.dems.map Dem.c),
  vi x.rule.num, vi x.rule.den, vi x.rule.pn, vi x.rule.pd, vi x.rule.bn, vi x.rule.bd, vi x.rule.ln, vi x.rule.ld, vi x.rule.least]
theorem ok86 (n lo hi : Int) : Ok Tryz.prog 86 [vi n, vi lo, vi hi] (.bool (decide (n ≥ lo) && decide (n ≤ hi))) := by
 refine zz 15 Tryz.func86 rfl Tryz.call86 rfl (zR (zo rfl (zw (zR (zo rfl (zo rfl (zo rfl (zo rfl (zT rfl (fun h1 => ?_) (fun h1 => ?_))))))))))
 exact zO (fun _ => rfl) (zh rfl h1 rfl (zh rfl h1 rfl (zp rfl h1 rfl (zo rfl (zw (Sat.ret (zg rfl)))))))
 exact zt rfl h1 (zt rfl h1 (zP rfl h1 rfl (zo rfl (zw (Sat.ret (zg rfl))))))
def isLen (n : Int) : Bool := decide (n ≥ -1048576) && decide (n ≤ 1048576)
theorem ok85 (n : Int) : Ok Tryz.prog 85 [vi n] (.bool (isLen n)) := by
 refine zz 5 Tryz.func85 rfl Tryz.call85 rfl (zR (zo rfl (zw (zR (zo rfl (zc rfl (ok86 _ _ _) (zo rfl (zw (Sat.ret ?_)))))))))
 exact zg rfl
theorem ok132 (n : Int) : Ok Tryz.prog 132 [vi n] (.bool (isLen n)) := by
 unfold isLen
 refine zz 9 Tryz.func132 rfl Tryz.call132 rfl (zR (zo rfl (zw (zR (zo rfl (zo rfl (zo rfl (zT rfl (fun h1 => ?_) (fun h1 => ?_)))))))))
 exact zO (fun _ => rfl) (zh rfl h1 rfl (zp rfl h1 rfl (zo rfl (zw (Sat.ret (zg rfl))))))
 exact zt rfl h1 (zP rfl h1 rfl (zo rfl (zw (Sat.ret (zg rfl)))))
theorem ok83 (n : Int) : Ok Tryz.prog 83 [vi n] (.bool (isLen n)) := by
 unfold isLen
 refine zz 9 Tryz.func83 rfl Tryz.call83 rfl (zR (zo rfl (zw (zR (zo rfl (zo rfl (zo rfl (zT rfl (fun h1 => ?_) (fun h1 => ?_)))))))))
 exact zO (fun _ => rfl) (zh rfl h1 rfl (zp rfl h1 rfl (zo rfl (zw (Sat.ret (zg rfl))))))
 exact zt rfl h1 (zP rfl h1 rfl (zo rfl (zw (Sat.ret (zg rfl)))))
def isAxis (n : Int) : Bool := decide (n ≥ -3) && decide (n ≤ 3) && n != 0
theorem ok131 (n : Int) : Ok Tryz.prog 131 [vi n] (.bool (isAxis n)) := by
 unfold isAxis
 refine zz 13 Tryz.func131 rfl Tryz.call131 rfl (zR (zo rfl (zw (zR (zo rfl (zo rfl (zo rfl (zT rfl (fun h1 => ?_) (fun h1 => ?_)))))))))
 refine zO (fun _ => rfl) (zh rfl h1 rfl (zp rfl h1 rfl (zo rfl (zT rfl (fun h2 => ?_) (fun h2 => ?_)))))
 exact zO (fun _ => rfl) (zh rfl h2 rfl (zp rfl h2 rfl (zo rfl (zw (Sat.ret (zg rfl))))))
 exact zt rfl h2 (zP rfl h2 rfl (zo rfl (zw (Sat.ret (zg rfl)))))
 exact zt rfl h1 (zP rfl h1 rfl (zo rfl (zt rfl rfl (zt rfl rfl (zP rfl rfl rfl (zo rfl (zw (Sat.ret (zg rfl)))))))))
def isLetter (c : Int) : Bool := (decide (c ≥ 97) && decide (c ≤ 122)) || (decide (c ≥ 65) && decide (c ≤ 90))
def isDigit (c : Int) : Bool := decide (c ≥ 48) && decide (c ≤ 57)
theorem ok73 (c : Int) : Ok Tryz.prog 73 [vu c] (.bool (isLetter c)) := by
 unfold isLetter
 refine zz 17 Tryz.func73 rfl Tryz.call73 rfl (zR (zo rfl (zw (zR (zo rfl (zo rfl (zo rfl (zT rfl (fun h1 => ?_) (fun h1 => ?_)))))))))
 refine zO (fun _ => rfl) (zh rfl h1 rfl (zp rfl h1 rfl (zo rfl (zF rfl (fun h2 => ?_) (fun h2 => ?_)))))
 refine zO (fun _ => rfl) (zh rfl h2 rfl (zh rfl h2 rfl (zT rfl (fun h3 => ?_) (fun h3 => ?_))))
 refine zO (fun _ => rfl) (zh rfl h3 rfl (step_sil (sil_on rfl h2 (sil_pick (want := true) rfl rfl h3 rfl ?_))))
 exact zP rfl h2 rfl (zo rfl (zw (Sat.ret (zg rfl))))
 refine zt rfl h3 (step_sil (sil_on rfl h2 (sil_pick (want := false) rfl rfl h3 rfl ?_)))
 exact zP rfl h2 rfl (zo rfl (zw (Sat.ret (zg rfl))))
 exact zf rfl h2 (zf rfl h2 (zu rfl (zu rfl (zf rfl h2 (zp rfl h2 rfl (zo rfl (zw (Sat.ret (zg rfl)))))))))
 refine zt rfl h1 (zP rfl h1 rfl (zo rfl (zh rfl rfl rfl (zh rfl rfl rfl (zh rfl rfl rfl (zT rfl (fun h4 => ?_) (fun h4 => ?_)))))))
 refine zO (fun _ => rfl) (zh rfl h4 rfl (step_sil (sil_on rfl rfl (sil_pick (want := true) rfl rfl h4 rfl ?_))))
 exact zP rfl rfl rfl (zo rfl (zw (Sat.ret (zg rfl))))
 refine zt rfl h4 (step_sil (sil_on rfl rfl (sil_pick (want := false) rfl rfl h4 rfl ?_)))
 exact zP rfl rfl rfl (zo rfl (zw (Sat.ret (zg rfl))))
theorem ok128 (c : Int) : Ok Tryz.prog 128 [vu c] (.bool (isDigit c)) := by
 unfold isDigit
 refine zz 9 Tryz.func128 rfl Tryz.call128 rfl (zR (zo rfl (zw (zR (zo rfl (zo rfl (zo rfl (zT rfl (fun h1 => ?_) (fun h1 => ?_)))))))))
 exact zO (fun _ => rfl) (zh rfl h1 rfl (zp rfl h1 rfl (zo rfl (zw (Sat.ret (zg rfl))))))
 exact zt rfl h1 (zP rfl h1 rfl (zo rfl (zw (Sat.ret (zg rfl)))))
def num1000 (n : Int) : Bool := decide (n ≥ 1) && decide (n ≤ 1000)
theorem ok39 (n : Int) : Ok Tryz.prog 39 [vi n] (.bool (num1000 n)) := by
 unfold num1000
 refine zz 9 Tryz.func39 rfl Tryz.call39 rfl (zR (zo rfl (zw (zR (zo rfl (zo rfl (zo rfl (zT rfl (fun h1 => ?_) (fun h1 => ?_)))))))))
 exact zO (fun _ => rfl) (zh rfl h1 rfl (zp rfl h1 rfl (zo rfl (zw (Sat.ret (zg rfl))))))
 exact zt rfl h1 (zP rfl h1 rfl (zo rfl (zw (Sat.ret (zg rfl)))))
theorem ok84 (x y z : Int) (k : Int) : Ok Tryz.prog 84 [.ag [vi x, vi y, vi z], vi k] (vi (if k = 0 then x else if k = 1 then y else z)) := by
 refine zz 16 Tryz.func84 rfl Tryz.call84 rfl (zR (zo rfl (zo rfl (zw (zq (zR (zo rfl (zw (zb rfl ?_)))))))))
 refine zR (zo rfl (zo rfl (zw (zC rfl (fun h1 => ?_) (fun h1 => ?_)))))
 exact zR (zo rfl (zo rfl (zo rfl (zw (Sat.ret (rb (rq (zg rfl))))))))
 refine zR (zo rfl (zo rfl (zw (zC rfl (fun h2 => ?_) (fun h2 => ?_)))))
 exact zR (zo rfl (zo rfl (zo rfl (zw (Sat.ret (rb (rq (zg rfl))))))))
 exact Sat.skip (nb (nq (zR (zo rfl (zo rfl (zo rfl (zw (Sat.ret (zg rfl)))))))))
def near3 (x y z : Int) : Bool := isLen x && isLen y && isLen z
theorem ok79 (x y z : Int) : Ok Tryz.prog 79 [.ag [vi x, vi y, vi z]] (.bool (near3 x y z)) := by
 unfold near3
 refine zz 16 Tryz.func79 rfl Tryz.call79 rfl (zR (zo rfl (zo rfl (zw (zR (zo rfl (zo rfl (zc rfl (ok132 _) (zo rfl ?_)))))))))
 refine zT rfl (fun h1 => ?_) (fun h1 => ?_)
 refine zO (fun _ => rfl) (zh rfl h1 rfl (step_sil (sil_on rfl h1 (sil_call rfl rfl (fun _ => rfl) (fun _ => rfl) (ok132 _) ?_))))
 refine zp rfl h1 rfl (zo rfl (zT rfl (fun h2 => ?_) (fun h2 => ?_)))
 refine zO (fun _ => rfl) (zh rfl h2 rfl (step_sil (sil_on rfl h2 (sil_call rfl rfl (fun _ => rfl) (fun _ => rfl) (ok132 _) ?_))))
 exact zp rfl h2 rfl (zo rfl (zw (Sat.ret (zg rfl))))
 exact zt rfl h2 (zt rfl h2 (zP rfl h2 rfl (zo rfl (zw (Sat.ret (zg rfl))))))
 refine zt rfl h1 (zt rfl h1 (zP rfl h1 rfl (zo rfl (zt rfl rfl (zt rfl rfl (zt rfl rfl (zP rfl rfl rfl (zo rfl (zw (Sat.ret ?_))))))))))
 exact zg rfl
def isLen2 (n : Int) : Bool := decide (n ≥ -2097152) && decide (n ≤ 2097152)
def twice3 (x y z : Int) : Bool := isLen2 x && isLen2 y && isLen2 z
theorem ok80 (x y z : Int) : Ok Tryz.prog 80 [.ag [vi x, vi y, vi z]] (.bool (twice3 x y z)) := by
 unfold twice3 isLen2
 refine zz 31 Tryz.func80 rfl Tryz.call80 rfl (zR (zo rfl (zo rfl (zw (zR (zo rfl (zo rfl (zo rfl (zo rfl ?_)))))))))
 refine zT rfl (fun h1 => ?_) (fun h1 => ?_)
 refine zO (fun _ => rfl) (zh rfl h1 rfl (zh rfl h1 rfl (zp rfl h1 rfl (zo rfl (zT rfl (fun h2 => ?_) (fun h2 => ?_))))))
 refine zO (fun _ => rfl) (zh rfl h2 rfl (zh rfl h2 rfl (zp rfl h2 rfl (zo rfl (zT rfl (fun h3 => ?_) (fun h3 => ?_))))))
 refine zO (fun _ => rfl) (zh rfl h3 rfl (zh rfl h3 rfl (zp rfl h3 rfl (zo rfl (zT rfl (fun h4 => ?_) (fun h4 => ?_))))))
 refine zO (fun _ => rfl) (zh rfl h4 rfl (zh rfl h4 rfl (zp rfl h4 rfl (zo rfl (zT rfl (fun h5 => ?_) (fun h5 => ?_))))))
 exact zO (fun _ => rfl) (zh rfl h5 rfl (zh rfl h5 rfl (zp rfl h5 rfl (zo rfl (zw (Sat.ret (zg rfl)))))))
 exact zt rfl h5 (zt rfl h5 (zP rfl h5 rfl (zo rfl (zw (Sat.ret (zg rfl))))))
 refine zt rfl h4 (zt rfl h4 (zP rfl h4 rfl (zo rfl (zt rfl rfl (zt rfl rfl (zt rfl rfl (zP rfl rfl rfl (zo rfl (zw (Sat.ret ?_))))))))))
 exact zg rfl
 refine zt rfl h3 (zt rfl h3 (zP rfl h3 rfl (zo rfl (zt rfl rfl (zt rfl rfl (zt rfl rfl (zP rfl rfl rfl (zo rfl (zt rfl rfl ?_)))))))))
 exact zt rfl rfl (zt rfl rfl (zP rfl rfl rfl (zo rfl (zw (Sat.ret (zg rfl))))))
 refine zt rfl h2 (zt rfl h2 (zP rfl h2 rfl (zo rfl (zt rfl rfl (zt rfl rfl (zt rfl rfl (zP rfl rfl rfl (zo rfl (zt rfl rfl ?_)))))))))
 refine zt rfl rfl (zt rfl rfl (zP rfl rfl rfl (zo rfl (zt rfl rfl (zt rfl rfl (zt rfl rfl (zP rfl rfl rfl (zo rfl (zw (Sat.ret ?_))))))))))
 exact zg rfl
 refine zt rfl h1 (zt rfl h1 (zP rfl h1 rfl (zo rfl (zt rfl rfl (zt rfl rfl (zt rfl rfl (zP rfl rfl rfl (zo rfl (zt rfl rfl ?_)))))))))
 refine zt rfl rfl (zt rfl rfl (zP rfl rfl rfl (zo rfl (zt rfl rfl (zt rfl rfl (zt rfl rfl (zP rfl rfl rfl (zo rfl (zt rfl rfl ?_)))))))))
 exact zt rfl rfl (zt rfl rfl (zP rfl rfl rfl (zo rfl (zw (Sat.ret (zg rfl))))))
def turnOk (x y : Int) : Bool := isAxis x && isAxis y && x != y && x != -y
theorem axis_le {n : Int} (h : isAxis n = true) : -3 ≤ n ∧ n ≤ 3 := by
 simp only [isAxis, Bool.and_eq_true, decide_eq_true_eq] at h
 omega
theorem ok78 (x y : Int) : Ok Tryz.prog 78 [.ag [vi x, vi y]] (.bool (turnOk x y)) := by
 unfold turnOk
 refine zz 26 Tryz.func78 rfl Tryz.call78 rfl (zR (zo rfl (zo rfl (zw (zR (zo rfl (zo rfl (zc rfl (ok131 _) (zo rfl ?_)))))))))
 refine zT rfl (fun h1 => ?_) (fun h1 => ?_)
 refine zO (fun _ => rfl) (zh rfl h1 rfl (step_sil (sil_on rfl h1 (sil_call rfl rfl (fun _ => rfl) (fun _ => rfl) (ok131 _) ?_))))
 refine zp rfl h1 rfl (zo rfl (zT rfl (fun h2 => ?_) (fun h2 => ?_)))
 refine zO (fun _ => rfl) (zh rfl h2 rfl (zh rfl h2 rfl (zh rfl h2 rfl (zh rfl h2 rfl (zp rfl h2 rfl (zo rfl (zT rfl (fun h3 => ?_) (fun h3 => ?_))))))))
 refine zO (fun _ => rfl) (zh rfl h3 rfl (zh rfl h3 rfl (zh rfl h3 rfl (step_sil (sil_on rfl h3 (sil_sub rfl rfl rfl (by have := axis_le (n := y) (by assumption); constructor <;> omega) ?_))))))
 exact zh rfl h3 rfl (zp rfl h3 rfl (zo rfl (zw (Sat.ret (zg rfl)))))
 exact zt rfl h3 (zt rfl h3 (zt rfl h3 (zt rfl h3 (zt rfl h3 (zP rfl h3 rfl (zo rfl (zw (Sat.ret (zg rfl)))))))))
 refine zt rfl h2 (zt rfl h2 (zt rfl h2 (zt rfl h2 (zP rfl h2 rfl (zo rfl (zt rfl rfl (zt rfl rfl (zt rfl rfl (zt rfl rfl ?_)))))))))
 exact zt rfl rfl (zt rfl rfl (zP rfl rfl rfl (zo rfl (zw (Sat.ret (zg rfl))))))
 refine zt rfl h1 (zt rfl h1 (zP rfl h1 rfl (zo rfl (zt rfl rfl (zt rfl rfl (zt rfl rfl (zt rfl rfl (zt rfl rfl (zP rfl rfl rfl ?_)))))))))
 refine zo rfl (zt rfl rfl (zt rfl rfl (zt rfl rfl (zt rfl rfl (zt rfl rfl (zt rfl rfl (zP rfl rfl rfl (zo rfl (zw (Sat.ret ?_))))))))))
 exact zg rfl
end Go.Proofs.YtamjajacnfmgeaaGreat
