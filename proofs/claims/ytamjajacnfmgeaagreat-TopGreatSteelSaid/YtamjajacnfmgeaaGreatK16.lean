/-
  The table of the types that the program's operations name, as the abstract machine reads them: made by a program of this session out of the translation. No condition.
  Short names for the steps of the scripts. No condition.
-/
import Derived.Test.YtamjajacnfmgeaaGreatK15
import Derived.Test.YtamjajacnfmgeaaGreatChecked
import Derived.KernelRfl
set_option linter.all false
namespace Go.Proofs.YtamjajacnfmgeaaGreat
open Go Go.RowKit
def ti3 : TI := ⟨.int .i64, 1, [.v (.int .i64 0)], false⟩
def ti4 : TI := ⟨.bo, 1, [.v (.bool false)], false⟩
def ti5 : TI := ⟨.int .u8, 1, [.v (.int .u8 0)], false⟩
def ti9 : TI := ⟨.str, 1, [.v (.str ⟨#[]⟩)], false⟩
def ti21 : TI := ⟨.int .i32, 1, [.v (.int .i32 0)], false⟩
def ti22 : TI := ⟨.sl 6 48 [.v (.int .i64 0), .v (.int .i64 0), .v (.int .i64 0), .v (.int .i64 0), .v (.int .i64 0), .v (.int .i64 0)], 1, [.nil], false⟩
def ti24 : TI := ⟨.st [(0, 1, false), (1, 1, false)], 2, [.nil, .nil], false⟩
def ti26 : TI := ⟨.st [(0, 1, false), (1, 2, true), (3, 1, false), (4, 1, false), (5, 1, false)], 6, [.v (.str ⟨#[]⟩), .nil, .nil, .v (.int .i64 0), .v (.int .i64 0), .v (.int .i64 0)], false⟩
def ti27 : TI := ⟨.sl 5 64 [.v (.str ⟨#[]⟩), .v (.int .i64 0), .v (.int .i64 0), .v (.int .i64 0), .nil], 1, [.nil], false⟩
def ti28 : TI := ⟨.sl 10 88 [.v (.str ⟨#[]⟩), .v (.int .i64 0), .v (.int .i64 0), .v (.int .i64 0), .v (.int .i64 0), .v (.int .i64 0), .v (.int .i64 0), .v (.int .i64 0), .v (.int .i64 0), .v (.int .i64 0)], 1, [.nil], false⟩
def ti29 : TI := ⟨.sl 2 16 [.v (.int .i64 0), .v (.int .i64 0)], 1, [.nil], false⟩
def ti30 : TI := ⟨.sl 8 88 [.v (.str ⟨#[]⟩), .v (.int .i64 0), .v (.int .i64 0), .v (.int .i64 0), .v (.int .i64 0), .v (.int .i64 0), .v (.int .i64 0), .nil], 1, [.nil], false⟩
def ti32 : TI := ⟨.st [(0, 1, false), (1, 1, false), (2, 1, false), (3, 1, false), (4, 1, false), (5, 1, false), (6, 1, false), (7, 1, false), (8, 1, false)], 9, [.v (.int .i64 0), .v (.int .i64 0), .v (.int .i64 0), .v (.int .i64 0), .v (.int .i64 0), .v (.int .i64 0), .v (.int .i64 0), .v (.int .i64 0), .v (.int .i64 0)], false⟩
def ti34 : TI := ⟨.st [(0, 6, true), (6, 1, false), (7, 1, false), (8, 1, false), (9, 1, false), (10, 9, true)], 19, [.v (.str ⟨#[]⟩), .nil, .nil, .v (.int .i64 0), .v (.int .i64 0), .v (.int .i64 0), .nil, .nil, .nil, .nil, .v (.int .i64 0), .v (.int .i64 0), .v (.int .i64 0), .v (.int .i64 0), .v (.int .i64 0), .v (.int .i64 0), .v (.int .i64 0), .v (.int .i64 0), .v (.int .i64 0)], false⟩
def ti35 : TI := ⟨.sc, 1, [.any], false⟩
def ti38 : TI := ⟨.st [(0, 1, false), (1, 1, false), (2, 1, false)], 3, [.v (.int .i64 0), .v (.int .i64 0), .v (.int .i64 0)], true⟩
def ti40 : TI := ⟨.st [(0, 3, true), (3, 3, true)], 6, [.v (.int .i64 0), .v (.int .i64 0), .v (.int .i64 0), .v (.int .i64 0), .v (.int .i64 0), .v (.int .i64 0)], false⟩
def ti41 : TI := ⟨.sl 2 16 [.v (.int .i64 0), .v (.int .i64 0)], 1, [.nil], false⟩
def ti43 : TI := ⟨.st [(0, 1, false), (1, 6, true), (7, 1, false)], 8, [.v (.str ⟨#[]⟩), .v (.int .i64 0), .v (.int .i64 0), .v (.int .i64 0), .v (.int .i64 0), .v (.int .i64 0), .v (.int .i64 0), .nil], false⟩
def ti46 : TI := ⟨.int .i64, 1, [.v (.int .i64 0)], false⟩
def ti53 : TI := ⟨.sl 1 8 [.v (.int .i64 0)], 1, [.nil], false⟩
def ti55 : TI := ⟨.st [(0, 1, false), (1, 1, false), (2, 1, false), (3, 1, false), (4, 1, false)], 5, [.v (.str ⟨#[]⟩), .v (.int .i64 0), .v (.int .i64 0), .v (.int .i64 0), .nil], false⟩
def ti57 : TI := ⟨.st [(0, 1, false), (1, 1, false)], 2, [.v (.int .i64 0), .v (.int .i64 0)], false⟩
def ti59 : TI := ⟨.st [(0, 1, false), (1, 2, true), (3, 3, true), (6, 3, true), (9, 1, false)], 10, [.v (.str ⟨#[]⟩), .v (.int .i64 0), .v (.int .i64 0), .v (.int .i64 0), .v (.int .i64 0), .v (.int .i64 0), .v (.int .i64 0), .v (.int .i64 0), .v (.int .i64 0), .v (.int .i64 0)], false⟩
def ti66 : TI := ⟨.st [(0, 1, false), (1, 1, false)], 2, [.v (.int .i64 0), .v (.int .i64 0)], false⟩
def ti74 : TI := ⟨.sl 2 16 [.v (.int .i64 0), .v (.int .i64 0)], 1, [.nil], false⟩
def ti78 : TI := ⟨.st [(0, 1, false), (1, 1, false)], 2, [.v (.int .i64 0), .v (.int .i64 0)], false⟩
def ti79 : TI := ⟨.sl 1 24 [.nil], 1, [.nil], false⟩
def ti81 : TI := ⟨.st [(0, 1, false), (1, 1, false), (2, 1, false), (3, 1, false)], 4, [.nil, .v (.int .i64 0), .v (.int .i64 0), .v (.int .i64 0)], false⟩
def ti86 : TI := ⟨.sl 2 24 [.v (.int .i64 0), .v (.str ⟨#[]⟩)], 1, [.nil], false⟩
def ti90 : TI := ⟨.st [(0, 1, false), (1, 1, false)], 2, [.v (.int .i64 0), .v (.int .i64 0)], true⟩
def ti91 : TI := ⟨.sl 7 96 [.v (.str ⟨#[]⟩), .v (.int .i64 0), .v (.int .i64 0), .v (.int .i64 0), .nil, .nil, .v (.int .i64 0)], 1, [.nil], false⟩
def ti92 : TI := ⟨.sl 5 56 [.nil, .v (.int .i64 0), .v (.int .i64 0), .v (.bool false), .v (.int .i64 0)], 1, [.nil], false⟩
def ti111 : TI := ⟨.st [(0, 1, false), (1, 2, true), (3, 1, false), (4, 1, false)], 5, [.nil, .v (.int .i64 0), .v (.int .i64 0), .v (.bool false), .v (.int .i64 0)], false⟩
def ti113 : TI := ⟨.st [(0, 5, true), (5, 1, false), (6, 1, false)], 7, [.v (.str ⟨#[]⟩), .v (.int .i64 0), .v (.int .i64 0), .v (.int .i64 0), .nil, .nil, .v (.int .i64 0)], false⟩
def ti119 : TI := ⟨.sl 4 32 [.v (.int .i64 0), .v (.int .i64 0), .v (.int .i64 0), .v (.int .i64 0)], 1, [.nil], false⟩
def ti123 : TI := ⟨.st [(0, 2, true), (2, 1, false), (3, 1, false)], 4, [.v (.int .i64 0), .v (.int .i64 0), .v (.int .i64 0), .v (.int .i64 0)], false⟩
def ti127 : TI := ⟨.st [(0, 1, false), (1, 1, false), (2, 3, true), (5, 3, true)], 8, [.v (.int .i64 0), .v (.int .i64 0), .v (.int .i64 0), .v (.int .i64 0), .v (.int .i64 0), .v (.int .i64 0), .v (.int .i64 0), .v (.int .i64 0)], false⟩
def ti130 : TI := ⟨.sl 1 8 [.any], 1, [.nil], false⟩
def ti140 : TI := ⟨.st [(0, 1, false), (1, 1, false)], 2, [.v (.int .i64 0), .v (.str ⟨#[]⟩)], false⟩
def ti146 : TI := ⟨.st [(0, 1, false), (1, 1, false)], 2, [.nil, .v (.int .i64 0)], false⟩
def ti157 : TI := ⟨.sl 3 24 [.v (.int .i64 0), .v (.int .i64 0), .v (.int .i64 0)], 1, [.nil], false⟩
def ti166 : TI := ⟨.int .u64, 1, [.v (.int .u64 0)], false⟩
def ti167 : TI := ⟨.sl 9 80 [.v (.int .i64 0), .v (.int .i64 0), .v (.int .i64 0), .v (.int .i64 0), .v (.int .i64 0), .v (.int .i64 0), .v (.bool false), .v (.int .i64 0), .v (.str ⟨#[]⟩)], 1, [.nil], false⟩
def ti185 : TI := ⟨.sl 1 24 [.nil], 1, [.nil], false⟩
def ti187 : TI := ⟨.st [(0, 1, false), (1, 1, false)], 2, [.nil, .nil], false⟩
def ti200 : TI := ⟨.mp true (.v (.int .i64 0)), 1, [.any], false⟩
def ti205 : TI := ⟨.st [(0, 6, true), (6, 1, false), (7, 1, false), (8, 1, false)], 9, [.v (.int .i64 0), .v (.int .i64 0), .v (.int .i64 0), .v (.int .i64 0), .v (.int .i64 0), .v (.int .i64 0), .v (.bool false), .v (.int .i64 0), .v (.str ⟨#[]⟩)], false⟩
def ti229 : TI := ⟨.int .u32, 1, [.v (.int .u32 0)], false⟩
def ti231 : TI := ⟨.int .u64, 1, [.v (.int .u64 0)], false⟩
def ti233 : TI := ⟨.mp false (.v (.bool false)), 1, [.any], false⟩
def ti239 : TI := ⟨.ar 3 1 false, 3, [.v (.int .i64 0), .v (.int .i64 0), .v (.int .i64 0)], false⟩
def ti247 : TI := ⟨.sl 1 24 [.nil], 1, [.nil], false⟩
def ti255 : TI := ⟨.sl 2 16 [.v (.int .i64 0), .v (.int .u8 0)], 1, [.nil], false⟩
def ti258 : TI := ⟨.st [(0, 1, false), (1, 1, false)], 2, [.v (.int .i64 0), .v (.int .u8 0)], false⟩
def ti271 : TI := ⟨.int .u64, 1, [.v (.int .u64 0)], false⟩
def ti292 : TI := ⟨.st [(0, 3, true), (3, 1, false)], 4, [.v (.int .i64 0), .v (.int .i64 0), .v (.int .i64 0), .v (.bool false)], false⟩
def ti293 : TI := ⟨.ar 2 4 true, 8, [.v (.int .i64 0), .v (.int .i64 0), .v (.int .i64 0), .v (.bool false), .v (.int .i64 0), .v (.int .i64 0), .v (.int .i64 0), .v (.bool false)], false⟩
def ti299 : TI := ⟨.sc, 1, [.any], false⟩
def ti308 : TI := ⟨.mp false (.v (.int .i64 0)), 1, [.any], false⟩
def ti315 : TI := ⟨.ar 3 3 true, 9, [.v (.int .i64 0), .v (.int .i64 0), .v (.int .i64 0), .v (.int .i64 0), .v (.int .i64 0), .v (.int .i64 0), .v (.int .i64 0), .v (.int .i64 0), .v (.int .i64 0)], false⟩
def ti320 : TI := ⟨.sl 2 16 [.v (.int .i64 0), .v (.int .i64 0)], 1, [.nil], false⟩
def ti322 : TI := ⟨.ar 2 1 false, 2, [.v (.int .i64 0), .v (.int .i64 0)], false⟩
def tyTab : List (Nat × TI) := [(3, ti3), (4, ti4), (5, ti5), (9, ti9), (21, ti21), (22, ti22), (24, ti24), (26, ti26), (27, ti27), (28, ti28), (29, ti29), (30, ti30), (32, ti32), (34, ti34), (35, ti35), (38, ti38), (40, ti40), (41, ti41), (43, ti43), (46, ti46), (53, ti53), (55, ti55), (57, ti57), (59, ti59), (66, ti66), (74, ti74), (78, ti78), (79, ti79), (81, ti81), (86, ti86), (90, ti90), (91, ti91), (92, ti92), (111, ti111), (113, ti113), (119, ti119), (123, ti123), (127, ti127), (130, ti130), (140, ti140), (146, ti146), (157, ti157), (166, ti166), (167, ti167), (185, ti185), (187, ti187), (200, ti200), (205, ti205), (229, ti229), (231, ti231), (233, ti233), (239, ti239), (247, ti247), (255, ti255), (258, ti258), (271, ti271), (292, ti292), (293, ti293), (299, ti299), (308, ti308), (315, ti315), (320, ti320), (322, ti322)]
def T : Nat → Option TI := lk tyTab
theorem T3 : T 3 = some ti3 := rfl
theorem T4 : T 4 = some ti4 := rfl
theorem T5 : T 5 = some ti5 := rfl
theorem T9 : T 9 = some ti9 := rfl
theorem T21 : T 21 = some ti21 := rfl
theorem T22 : T 22 = some ti22 := rfl
theorem T24 : T 24 = some ti24 := rfl
theorem T26 : T 26 = some ti26 := rfl
theorem T27 : T 27 = some ti27 := rfl
theorem T28 : T 28 = some ti28 := rfl
theorem T29 : T 29 = some ti29 := rfl
theorem T30 : T 30 = some ti30 := rfl
theorem T32 : T 32 = some ti32 := rfl
theorem T34 : T 34 = some ti34 := rfl
theorem T35 : T 35 = some ti35 := rfl
theorem T38 : T 38 = some ti38 := rfl
theorem T40 : T 40 = some ti40 := rfl
theorem T41 : T 41 = some ti41 := rfl
theorem T43 : T 43 = some ti43 := rfl
theorem T46 : T 46 = some ti46 := rfl
theorem T53 : T 53 = some ti53 := rfl
theorem T55 : T 55 = some ti55 := rfl
theorem T57 : T 57 = some ti57 := rfl
theorem T59 : T 59 = some ti59 := rfl
theorem T66 : T 66 = some ti66 := rfl
theorem T74 : T 74 = some ti74 := rfl
theorem T78 : T 78 = some ti78 := rfl
theorem T79 : T 79 = some ti79 := rfl
theorem T81 : T 81 = some ti81 := rfl
theorem T86 : T 86 = some ti86 := rfl
theorem T90 : T 90 = some ti90 := rfl
theorem T91 : T 91 = some ti91 := rfl
theorem T92 : T 92 = some ti92 := rfl
theorem T111 : T 111 = some ti111 := rfl
theorem T113 : T 113 = some ti113 := rfl
theorem T119 : T 119 = some ti119 := rfl
theorem T123 : T 123 = some ti123 := rfl
theorem T127 : T 127 = some ti127 := rfl
theorem T130 : T 130 = some ti130 := rfl
theorem T140 : T 140 = some ti140 := rfl
theorem T146 : T 146 = some ti146 := rfl
theorem T157 : T 157 = some ti157 := rfl
theorem T166 : T 166 = some ti166 := rfl
theorem T167 : T 167 = some ti167 := rfl
theorem T185 : T 185 = some ti185 := rfl
theorem T187 : T 187 = some ti187 := rfl
theorem T200 : T 200 = some ti200 := rfl
theorem T205 : T 205 = some ti205 := rfl
theorem T229 : T 229 = some ti229 := rfl
theorem T231 : T 231 = some ti231 := rfl
theorem T233 : T 233 = some ti233 := rfl
theorem T239 : T 239 = some ti239 := rfl
theorem T247 : T 247 = some ti247 := rfl
theorem T255 : T 255 = some ti255 := rfl
theorem T258 : T 258 = some ti258 := rfl
theorem T271 : T 271 = some ti271 := rfl
theorem T292 : T 292 = some ti292 := rfl
theorem T293 : T 293 = some ti293 := rfl
theorem T299 : T 299 = some ti299 := rfl
theorem T308 : T 308 = some ti308 := rfl
theorem T315 : T 315 = some ti315 := rfl
theorem T320 : T 320 = some ti320 := rfl
theorem T322 : T 322 = some ti322 := rfl
def AllTab (Q : Nat × TI → Prop) : List (Nat × TI) → Prop
  | [] => True
  | p :: r => Q p ∧ AllTab Q r
theorem allTab_lk {Q : Nat × TI → Prop} : ∀ {l : List (Nat × TI)} {t : Nat} {ti : TI}, AllTab Q l → lk l t = some ti → Q (t, ti)
  | [], t, ti, _, h => by cases h
  | (a, x) :: r, t, ti, hq, h => by
    simp only [lk] at h
    split at h
    · rename_i ht; cases h; subst ht; exact hq.1
    · exact allTab_lk hq.2 h
theorem io3 : infoOf Tryz.prog 3 = some (.int .i64, 1, [.v (.int .i64 0)]) := by kernel_rfl
theorem io4 : infoOf Tryz.prog 4 = some (.bo, 1, [.v (.bool false)]) := by kernel_rfl
theorem io5 : infoOf Tryz.prog 5 = some (.int .u8, 1, [.v (.int .u8 0)]) := by kernel_rfl
theorem io9 : infoOf Tryz.prog 9 = some (.str, 1, [.v (.str ⟨#[]⟩)]) := by kernel_rfl
theorem io21 : infoOf Tryz.prog 21 = some (.int .i32, 1, [.v (.int .i32 0)]) := by kernel_rfl
theorem io22 : infoOf Tryz.prog 22 = some (.sl 6 48 [.v (.int .i64 0), .v (.int .i64 0), .v (.int .i64 0), .v (.int .i64 0), .v (.int .i64 0), .v (.int .i64 0)], 1, [.nil]) := by kernel_rfl
theorem io24 : infoOf Tryz.prog 24 = some (.st [(0, 1, false), (1, 1, false)], 2, [.nil, .nil]) := by kernel_rfl
theorem io26 : infoOf Tryz.prog 26 = some (.st [(0, 1, false), (1, 2, true), (3, 1, false), (4, 1, false), (5, 1, false)], 6, [.v (.str ⟨#[]⟩), .nil, .nil, .v (.int .i64 0), .v (.int .i64 0), .v (.int .i64 0)]) := by kernel_rfl
theorem io27 : infoOf Tryz.prog 27 = some (.sl 5 64 [.v (.str ⟨#[]⟩), .v (.int .i64 0), .v (.int .i64 0), .v (.int .i64 0), .nil], 1, [.nil]) := by kernel_rfl
theorem io28 : infoOf Tryz.prog 28 = some (.sl 10 88 [.v (.str ⟨#[]⟩), .v (.int .i64 0), .v (.int .i64 0), .v (.int .i64 0), .v (.int .i64 0), .v (.int .i64 0), .v (.int .i64 0), .v (.int .i64 0), .v (.int .i64 0), .v (.int .i64 0)], 1, [.nil]) := by kernel_rfl
theorem io29 : infoOf Tryz.prog 29 = some (.sl 2 16 [.v (.int .i64 0), .v (.int .i64 0)], 1, [.nil]) := by kernel_rfl
theorem io30 : infoOf Tryz.prog 30 = some (.sl 8 88 [.v (.str ⟨#[]⟩), .v (.int .i64 0), .v (.int .i64 0), .v (.int .i64 0), .v (.int .i64 0), .v (.int .i64 0), .v (.int .i64 0), .nil], 1, [.nil]) := by kernel_rfl
theorem io32 : infoOf Tryz.prog 32 = some (.st [(0, 1, false), (1, 1, false), (2, 1, false), (3, 1, false), (4, 1, false), (5, 1, false), (6, 1, false), (7, 1, false), (8, 1, false)], 9, [.v (.int .i64 0), .v (.int .i64 0), .v (.int .i64 0), .v (.int .i64 0), .v (.int .i64 0), .v (.int .i64 0), .v (.int .i64 0), .v (.int .i64 0), .v (.int .i64 0)]) := by kernel_rfl
theorem io34 : infoOf Tryz.prog 34 = some (.st [(0, 6, true), (6, 1, false), (7, 1, false), (8, 1, false), (9, 1, false), (10, 9, true)], 19, [.v (.str ⟨#[]⟩), .nil, .nil, .v (.int .i64 0), .v (.int .i64 0), .v (.int .i64 0), .nil, .nil, .nil, .nil, .v (.int .i64 0), .v (.int .i64 0), .v (.int .i64 0), .v (.int .i64 0), .v (.int .i64 0), .v (.int .i64 0), .v (.int .i64 0), .v (.int .i64 0), .v (.int .i64 0)]) := by kernel_rfl
theorem io35 : infoOf Tryz.prog 35 = some (.sc, 1, [.any]) := by kernel_rfl
theorem io38 : infoOf Tryz.prog 38 = some (.st [(0, 1, false), (1, 1, false), (2, 1, false)], 3, [.v (.int .i64 0), .v (.int .i64 0), .v (.int .i64 0)]) := by kernel_rfl
theorem eq38 : eqOkB Tryz.prog 38 3 = true := by kernel_rfl
theorem io40 : infoOf Tryz.prog 40 = some (.st [(0, 3, true), (3, 3, true)], 6, [.v (.int .i64 0), .v (.int .i64 0), .v (.int .i64 0), .v (.int .i64 0), .v (.int .i64 0), .v (.int .i64 0)]) := by kernel_rfl
theorem io41 : infoOf Tryz.prog 41 = some (.sl 2 16 [.v (.int .i64 0), .v (.int .i64 0)], 1, [.nil]) := by kernel_rfl
theorem io43 : infoOf Tryz.prog 43 = some (.st [(0, 1, false), (1, 6, true), (7, 1, false)], 8, [.v (.str ⟨#[]⟩), .v (.int .i64 0), .v (.int .i64 0), .v (.int .i64 0), .v (.int .i64 0), .v (.int .i64 0), .v (.int .i64 0), .nil]) := by kernel_rfl
theorem io46 : infoOf Tryz.prog 46 = some (.int .i64, 1, [.v (.int .i64 0)]) := by kernel_rfl
theorem io53 : infoOf Tryz.prog 53 = some (.sl 1 8 [.v (.int .i64 0)], 1, [.nil]) := by kernel_rfl
theorem io55 : infoOf Tryz.prog 55 = some (.st [(0, 1, false), (1, 1, false), (2, 1, false), (3, 1, false), (4, 1, false)], 5, [.v (.str ⟨#[]⟩), .v (.int .i64 0), .v (.int .i64 0), .v (.int .i64 0), .nil]) := by kernel_rfl
theorem io57 : infoOf Tryz.prog 57 = some (.st [(0, 1, false), (1, 1, false)], 2, [.v (.int .i64 0), .v (.int .i64 0)]) := by kernel_rfl
theorem io59 : infoOf Tryz.prog 59 = some (.st [(0, 1, false), (1, 2, true), (3, 3, true), (6, 3, true), (9, 1, false)], 10, [.v (.str ⟨#[]⟩), .v (.int .i64 0), .v (.int .i64 0), .v (.int .i64 0), .v (.int .i64 0), .v (.int .i64 0), .v (.int .i64 0), .v (.int .i64 0), .v (.int .i64 0), .v (.int .i64 0)]) := by kernel_rfl
theorem io66 : infoOf Tryz.prog 66 = some (.st [(0, 1, false), (1, 1, false)], 2, [.v (.int .i64 0), .v (.int .i64 0)]) := by kernel_rfl
theorem io74 : infoOf Tryz.prog 74 = some (.sl 2 16 [.v (.int .i64 0), .v (.int .i64 0)], 1, [.nil]) := by kernel_rfl
theorem io78 : infoOf Tryz.prog 78 = some (.st [(0, 1, false), (1, 1, false)], 2, [.v (.int .i64 0), .v (.int .i64 0)]) := by kernel_rfl
theorem io79 : infoOf Tryz.prog 79 = some (.sl 1 24 [.nil], 1, [.nil]) := by kernel_rfl
theorem io81 : infoOf Tryz.prog 81 = some (.st [(0, 1, false), (1, 1, false), (2, 1, false), (3, 1, false)], 4, [.nil, .v (.int .i64 0), .v (.int .i64 0), .v (.int .i64 0)]) := by kernel_rfl
theorem io86 : infoOf Tryz.prog 86 = some (.sl 2 24 [.v (.int .i64 0), .v (.str ⟨#[]⟩)], 1, [.nil]) := by kernel_rfl
theorem io90 : infoOf Tryz.prog 90 = some (.st [(0, 1, false), (1, 1, false)], 2, [.v (.int .i64 0), .v (.int .i64 0)]) := by kernel_rfl
theorem eq90 : eqOkB Tryz.prog 90 2 = true := by kernel_rfl
theorem io91 : infoOf Tryz.prog 91 = some (.sl 7 96 [.v (.str ⟨#[]⟩), .v (.int .i64 0), .v (.int .i64 0), .v (.int .i64 0), .nil, .nil, .v (.int .i64 0)], 1, [.nil]) := by kernel_rfl
theorem io92 : infoOf Tryz.prog 92 = some (.sl 5 56 [.nil, .v (.int .i64 0), .v (.int .i64 0), .v (.bool false), .v (.int .i64 0)], 1, [.nil]) := by kernel_rfl
theorem io111 : infoOf Tryz.prog 111 = some (.st [(0, 1, false), (1, 2, true), (3, 1, false), (4, 1, false)], 5, [.nil, .v (.int .i64 0), .v (.int .i64 0), .v (.bool false), .v (.int .i64 0)]) := by kernel_rfl
theorem io113 : infoOf Tryz.prog 113 = some (.st [(0, 5, true), (5, 1, false), (6, 1, false)], 7, [.v (.str ⟨#[]⟩), .v (.int .i64 0), .v (.int .i64 0), .v (.int .i64 0), .nil, .nil, .v (.int .i64 0)]) := by kernel_rfl
theorem io119 : infoOf Tryz.prog 119 = some (.sl 4 32 [.v (.int .i64 0), .v (.int .i64 0), .v (.int .i64 0), .v (.int .i64 0)], 1, [.nil]) := by kernel_rfl
theorem io123 : infoOf Tryz.prog 123 = some (.st [(0, 2, true), (2, 1, false), (3, 1, false)], 4, [.v (.int .i64 0), .v (.int .i64 0), .v (.int .i64 0), .v (.int .i64 0)]) := by kernel_rfl
theorem io127 : infoOf Tryz.prog 127 = some (.st [(0, 1, false), (1, 1, false), (2, 3, true), (5, 3, true)], 8, [.v (.int .i64 0), .v (.int .i64 0), .v (.int .i64 0), .v (.int .i64 0), .v (.int .i64 0), .v (.int .i64 0), .v (.int .i64 0), .v (.int .i64 0)]) := by kernel_rfl
theorem io130 : infoOf Tryz.prog 130 = some (.sl 1 8 [.any], 1, [.nil]) := by kernel_rfl
theorem io140 : infoOf Tryz.prog 140 = some (.st [(0, 1, false), (1, 1, false)], 2, [.v (.int .i64 0), .v (.str ⟨#[]⟩)]) := by kernel_rfl
theorem io146 : infoOf Tryz.prog 146 = some (.st [(0, 1, false), (1, 1, false)], 2, [.nil, .v (.int .i64 0)]) := by kernel_rfl
theorem io157 : infoOf Tryz.prog 157 = some (.sl 3 24 [.v (.int .i64 0), .v (.int .i64 0), .v (.int .i64 0)], 1, [.nil]) := by kernel_rfl
theorem io166 : infoOf Tryz.prog 166 = some (.int .u64, 1, [.v (.int .u64 0)]) := by kernel_rfl
theorem io167 : infoOf Tryz.prog 167 = some (.sl 9 80 [.v (.int .i64 0), .v (.int .i64 0), .v (.int .i64 0), .v (.int .i64 0), .v (.int .i64 0), .v (.int .i64 0), .v (.bool false), .v (.int .i64 0), .v (.str ⟨#[]⟩)], 1, [.nil]) := by kernel_rfl
theorem io185 : infoOf Tryz.prog 185 = some (.sl 1 24 [.nil], 1, [.nil]) := by kernel_rfl
theorem io187 : infoOf Tryz.prog 187 = some (.st [(0, 1, false), (1, 1, false)], 2, [.nil, .nil]) := by kernel_rfl
theorem io200 : infoOf Tryz.prog 200 = some (.mp true (.v (.int .i64 0)), 1, [.any]) := by kernel_rfl
theorem io205 : infoOf Tryz.prog 205 = some (.st [(0, 6, true), (6, 1, false), (7, 1, false), (8, 1, false)], 9, [.v (.int .i64 0), .v (.int .i64 0), .v (.int .i64 0), .v (.int .i64 0), .v (.int .i64 0), .v (.int .i64 0), .v (.bool false), .v (.int .i64 0), .v (.str ⟨#[]⟩)]) := by kernel_rfl
theorem io229 : infoOf Tryz.prog 229 = some (.int .u32, 1, [.v (.int .u32 0)]) := by kernel_rfl
theorem io231 : infoOf Tryz.prog 231 = some (.int .u64, 1, [.v (.int .u64 0)]) := by kernel_rfl
theorem io233 : infoOf Tryz.prog 233 = some (.mp false (.v (.bool false)), 1, [.any]) := by kernel_rfl
theorem io239 : infoOf Tryz.prog 239 = some (.ar 3 1 false, 3, [.v (.int .i64 0), .v (.int .i64 0), .v (.int .i64 0)]) := by kernel_rfl
theorem io247 : infoOf Tryz.prog 247 = some (.sl 1 24 [.nil], 1, [.nil]) := by kernel_rfl
theorem io255 : infoOf Tryz.prog 255 = some (.sl 2 16 [.v (.int .i64 0), .v (.int .u8 0)], 1, [.nil]) := by kernel_rfl
theorem io258 : infoOf Tryz.prog 258 = some (.st [(0, 1, false), (1, 1, false)], 2, [.v (.int .i64 0), .v (.int .u8 0)]) := by kernel_rfl
theorem io271 : infoOf Tryz.prog 271 = some (.int .u64, 1, [.v (.int .u64 0)]) := by kernel_rfl
theorem io292 : infoOf Tryz.prog 292 = some (.st [(0, 3, true), (3, 1, false)], 4, [.v (.int .i64 0), .v (.int .i64 0), .v (.int .i64 0), .v (.bool false)]) := by kernel_rfl
theorem io293 : infoOf Tryz.prog 293 = some (.ar 2 4 true, 8, [.v (.int .i64 0), .v (.int .i64 0), .v (.int .i64 0), .v (.bool false), .v (.int .i64 0), .v (.int .i64 0), .v (.int .i64 0), .v (.bool false)]) := by kernel_rfl
theorem io299 : infoOf Tryz.prog 299 = some (.sc, 1, [.any]) := by kernel_rfl
theorem io308 : infoOf Tryz.prog 308 = some (.mp false (.v (.int .i64 0)), 1, [.any]) := by kernel_rfl
theorem io315 : infoOf Tryz.prog 315 = some (.ar 3 3 true, 9, [.v (.int .i64 0), .v (.int .i64 0), .v (.int .i64 0), .v (.int .i64 0), .v (.int .i64 0), .v (.int .i64 0), .v (.int .i64 0), .v (.int .i64 0), .v (.int .i64 0)]) := by kernel_rfl
theorem io320 : infoOf Tryz.prog 320 = some (.sl 2 16 [.v (.int .i64 0), .v (.int .i64 0)], 1, [.nil]) := by kernel_rfl
theorem io322 : infoOf Tryz.prog 322 = some (.ar 2 1 false, 2, [.v (.int .i64 0), .v (.int .i64 0)]) := by kernel_rfl
theorem tabOk : TabOk Tryz.prog T := by
 intro t ti h
 refine allTab_lk (Q := fun p => infoOf Tryz.prog p.1 = some (p.2.d, p.2.size, p.2.zero) ∧ (p.2.eq = true → eqOkB Tryz.prog p.1 p.2.size = true)) (l := tyTab) ?_ h
 exact ⟨⟨io3, fun h => by cases h⟩, ⟨io4, fun h => by cases h⟩, ⟨io5, fun h => by cases h⟩, ⟨io9, fun h => by cases h⟩, ⟨io21, fun h => by cases h⟩, ⟨io22, fun h => by cases h⟩, ⟨io24, fun h => by cases h⟩, ⟨io26, fun h => by cases h⟩, ⟨io27, fun h => by cases h⟩, ⟨io28, fun h => by cases h⟩, ⟨io29, fun h => by cases h⟩, ⟨io30, fun h => by cases h⟩, ⟨io32, fun h => by cases h⟩, ⟨io34, fun h => by cases h⟩, ⟨io35, fun h => by cases h⟩, ⟨io38, fun _ => eq38⟩, ⟨io40, fun h => by cases h⟩, ⟨io41, fun h => by cases h⟩, ⟨io43, fun h => by cases h⟩, ⟨io46, fun h => by cases h⟩, ⟨io53, fun h => by cases h⟩, ⟨io55, fun h => by cases h⟩, ⟨io57, fun h => by cases h⟩, ⟨io59, fun h => by cases h⟩, ⟨io66, fun h => by cases h⟩, ⟨io74, fun h => by cases h⟩, ⟨io78, fun h => by cases h⟩, ⟨io79, fun h => by cases h⟩, ⟨io81, fun h => by cases h⟩, ⟨io86, fun h => by cases h⟩, ⟨io90, fun _ => eq90⟩, ⟨io91, fun h => by cases h⟩, ⟨io92, fun h => by cases h⟩, ⟨io111, fun h => by cases h⟩, ⟨io113, fun h => by cases h⟩, ⟨io119, fun h => by cases h⟩, ⟨io123, fun h => by cases h⟩, ⟨io127, fun h => by cases h⟩, ⟨io130, fun h => by cases h⟩, ⟨io140, fun h => by cases h⟩, ⟨io146, fun h => by cases h⟩, ⟨io157, fun h => by cases h⟩, ⟨io166, fun h => by cases h⟩, ⟨io167, fun h => by cases h⟩, ⟨io185, fun h => by cases h⟩, ⟨io187, fun h => by cases h⟩, ⟨io200, fun h => by cases h⟩, ⟨io205, fun h => by cases h⟩, ⟨io229, fun h => by cases h⟩, ⟨io231, fun h => by cases h⟩, ⟨io233, fun h => by cases h⟩, ⟨io239, fun h => by cases h⟩, ⟨io247, fun h => by cases h⟩, ⟨io255, fun h => by cases h⟩, ⟨io258, fun h => by cases h⟩, ⟨io271, fun h => by cases h⟩, ⟨io292, fun h => by cases h⟩, ⟨io293, fun h => by cases h⟩, ⟨io299, fun h => by cases h⟩, ⟨io308, fun h => by cases h⟩, ⟨io315, fun h => by cases h⟩, ⟨io320, fun h => by cases h⟩, ⟨io322, fun h => by cases h⟩, trivial⟩
end Go.Proofs.YtamjajacnfmgeaaGreat
namespace Go.Proofs.YtamjajacnfmgeaaGreat
open Go Go.RowKit
section
variable {P : Program} {T : Nat → Option TI} {all : Array Oper} {K : St → Prop} {n t j : Nat} {r : List (Nat × D)} {s s' : Store} {ov : Store → Store} {op : Op} {ty ty2 ty3 : TypeId} {pos : String} {af : Array Edge} {d : D} {b want : Bool} {x y c : Operand}
def opE (T : Nat → Option TI) (n t : Nat) (r : List (Nat × D)) (s : Store) (op : Op) : Option (D × Store) := match decide (t < n), callOf (lk r) op with
  | true, none => opEval T s (some t) (ev (lk r)) op
  | _, _ => none
theorem opE_iff {z : D × Store} (h : opE T n t r s op = some z) : decide (t < n) = true ∧ callOf (lk r) op = none ∧ opEval T s (some t) (ev (lk r)) op = some z := by
 unfold opE at h
 split at h
 · exact ⟨‹_›, ‹_›, h⟩
 · cases h
def gvE (all : Array Oper) (n t : Nat) (r : List (Nat × D)) (j : Nat) : Option D := match decide (t < n) with
  | true => gv all (lk r) j
  | false => none
theorem gvE_iff {z : D} (h : gvE all n t r j = some z) : decide (t < n) = true ∧ gv all (lk r) j = some z := by
 unfold gvE at h
 split at h
 · exact ⟨‹_›, h⟩
 · cases h
def evE (n t : Nat) (r : List (Nat × D)) (c : Operand) : Option D := match decide (t < n) with
  | true => ev (lk r) c
  | false => none
theorem evE_iff {z : D} (h : evE n t r c = some z) : decide (t < n) = true ∧ ev (lk r) c = some z := by
 unfold evE at h
 split at h
 · exact ⟨‹_›, h⟩
 · cases h
theorem zo (e : opE T n t r s op = some (d, s')) (h : K ⟨n, lk ((t, d) :: r), s'⟩) : stepWp P T all ⟨n, lk r, s⟩ ⟨some t, op, ty, pos, af, none⟩ K := by
 obtain ⟨h1, h2, h3⟩ := opE_iff e
 exact step_op h1 h2 h3 h
theorem zO (e : ∀ q, opE T n t r (ov q) op = some (d, ov q)) (h : K ⟨n, lk ((t, d) :: r), s⟩) : SilW P T all ov ⟨n, lk r, s⟩ ⟨some t, op, ty, pos, af, none⟩ K :=
  sil_op (opE_iff (e s)).1 (opE_iff (e s)).2.1 (fun q => (opE_iff (e q)).2.2) h
theorem zh (g : gv all (lk r) j = some (.v (.bool b))) (hb : b = want) (e : opE T n t r s op = some (d, s)) (h : K ⟨n, lk ((t, d) :: r), s⟩) : stepWp P T all ⟨n, lk r, s⟩ ⟨some t, op, ty, pos, af, some (j, want)⟩ K :=
  step_sil (sil_on g hb (zO (fun _ => e) h))
theorem zt (g : gvE all n t r j = some (.v (.bool b))) (hb : b = false) (h : K ⟨n, lk ((t, .v (.tp [])) :: r), s⟩) : stepWp P T all ⟨n, lk r, s⟩ ⟨some t, op, ty, pos, af, some (j, true)⟩ K :=
  step_sil (sil_off (gvE_iff g).1 (gvE_iff g).2 hb h)
theorem zf (g : gvE all n t r j = some (.v (.bool b))) (hb : b = true) (h : K ⟨n, lk ((t, .v (.tp [])) :: r), s⟩) : stepWp P T all ⟨n, lk r, s⟩ ⟨some t, op, ty, pos, af, some (j, false)⟩ K :=
  step_sil (sil_off (gvE_iff g).1 (gvE_iff g).2 hb h)
theorem zu (g : gvE all n t r j = some (.v (.tp []))) (h : K ⟨n, lk ((t, .v (.tp [])) :: r), s⟩) : stepWp P T all ⟨n, lk r, s⟩ ⟨some t, op, ty, pos, af, some (j, want)⟩ K :=
  step_sil (sil_offu (gvE_iff g).1 (gvE_iff g).2 h)
theorem zp (g : evE n t r c = some (.v (.bool b))) (hb : b = true) (e : ev (lk r) x = some d) (h : K ⟨n, lk ((t, d) :: r), s⟩) : stepWp P T all ⟨n, lk r, s⟩ ⟨some t, .pick c x y, ty, pos, af, none⟩ K :=
  step_sil (sil_pick (want := true) (evE_iff g).1 (evE_iff g).2 hb e h)
theorem zP (g : evE n t r c = some (.v (.bool b))) (hb : b = false) (e : ev (lk r) y = some d) (h : K ⟨n, lk ((t, d) :: r), s⟩) : stepWp P T all ⟨n, lk r, s⟩ ⟨some t, .pick c x y, ty, pos, af, none⟩ K :=
  step_sil (sil_pick (want := false) (evE_iff g).1 (evE_iff g).2 hb e h)
def arE (n t : Nat) (r : List (Nat × D)) (x y : Operand) : Option (Int × Int) := match decide (t < n), ev (lk r) x, ev (lk r) y with
  | true, some (.v (.int .i64 a)), some (.v (.int .i64 b)) => some (a, b)
  | _, _, _ => none
theorem arE_iff {a b : Int} (h : arE n t r x y = some (a, b)) : decide (t < n) = true ∧ ev (lk r) x = some (.v (.int .i64 a)) ∧ ev (lk r) y = some (.v (.int .i64 b)) := by
 unfold arE at h
 split at h
 · rename_i h1 h2 h3; cases h; exact ⟨h1, h2, h3⟩
 · cases h
theorem zA {a b : Int} (g : arE n t r x y = some (a, b)) (hb : i64R (a + b)) (h : K ⟨n, lk ((t, .v (.int .i64 (a + b))) :: r), s⟩) : stepWp P T all ⟨n, lk r, s⟩ ⟨some t, .binOp .add ty x y ty3, ty2, pos, af, none⟩ K :=
  step_sil (sil_add (arE_iff g).1 (arE_iff g).2.1 (arE_iff g).2.2 hb h)
theorem zS {a b : Int} (g : arE n t r x y = some (a, b)) (hb : i64R (a - b)) (h : K ⟨n, lk ((t, .v (.int .i64 (a - b))) :: r), s⟩) : stepWp P T all ⟨n, lk r, s⟩ ⟨some t, .binOp .sub ty x y ty3, ty2, pos, af, none⟩ K :=
  step_sil (sil_sub (arE_iff g).1 (arE_iff g).2.1 (arE_iff g).2.2 hb h)
theorem zM {a b : Int} (g : arE n t r x y = some (a, b)) (hb : i64R (a * b)) (h : K ⟨n, lk ((t, .v (.int .i64 (a * b))) :: r), s⟩) : stepWp P T all ⟨n, lk r, s⟩ ⟨some t, .binOp .mul ty x y ty3, ty2, pos, af, none⟩ K :=
  step_sil (sil_mul (arE_iff g).1 (arE_iff g).2.1 (arE_iff g).2.2 hb h)
theorem za {a b : Int} (g : arE n t r x y = some (a, b)) (h : K ⟨n, lk ((t, .v (.int .i64 (a + b))) :: r), s⟩) (hb : i64R (a + b) := by first | (constructor <;> omega) | (simp only [decide_eq_true_eq, decide_eq_false_iff_not, Bool.not_eq_true', Bool.not_eq_false', beq_eq_false_iff_ne, beq_iff_eq, ne_eq] at *; constructor <;> omega)) : stepWp P T all ⟨n, lk r, s⟩ ⟨some t, .binOp .add ty x y ty3, ty2, pos, af, none⟩ K :=
  zA g hb h
theorem zs {a b : Int} (g : arE n t r x y = some (a, b)) (h : K ⟨n, lk ((t, .v (.int .i64 (a - b))) :: r), s⟩) (hb : i64R (a - b) := by first | (constructor <;> omega) | (simp only [decide_eq_true_eq, decide_eq_false_iff_not, Bool.not_eq_true', Bool.not_eq_false', beq_eq_false_iff_ne, beq_iff_eq, ne_eq] at *; constructor <;> omega)) : stepWp P T all ⟨n, lk r, s⟩ ⟨some t, .binOp .sub ty x y ty3, ty2, pos, af, none⟩ K :=
  zS g hb h
theorem zm {a b : Int} (g : arE n t r x y = some (a, b)) (h : K ⟨n, lk ((t, .v (.int .i64 (a * b))) :: r), s⟩) (hb : i64R (a * b) := by first | (constructor <;> omega) | (simp only [decide_eq_true_eq, decide_eq_false_iff_not, Bool.not_eq_true', Bool.not_eq_false', beq_eq_false_iff_ne, beq_iff_eq, ne_eq] at *; constructor <;> omega)) : stepWp P T all ⟨n, lk r, s⟩ ⟨some t, .binOp .mul ty x y ty3, ty2, pos, af, none⟩ K :=
  zM g hb h
def clE (n t : Nat) (r : List (Nat × D)) (s : Store) (op : Op) : Option (Nat × List V × List Nat) := match decide (t < n), callOf (lk r) op with
  | true, some (g, ds) => match optList (pub s pubD) ds with
    | some xs => some (g, xs, ds.flatMap (pubN s pubD))
    | none => none
  | _, _ => none
theorem zc {g : Nat} {xs : List V} {v : V} (e : clE n t r s op = some (g, xs, [])) (k : Ok P g xs v) (h : K ⟨n, lk ((t, .v v) :: r), s⟩) : stepWp P T all ⟨n, lk r, s⟩ ⟨some t, op, ty, pos, af, none⟩ K := by
 unfold clE at e
 split at e
 · rename_i g' ds h1 h2
   split at e
   · rename_i xs' h3
     simp only [Option.some.injEq, Prod.mk.injEq] at e
     obtain ⟨rfl, rfl, e⟩ := e
     exact step_sil (sil_call h1 h2 (fun _ => h3) (fun _ => e) k h)
   · cases e
 · cases e
theorem zd {d : D} (hc : callOf (lk r) op = none) (he : opEval T s none (ev (lk r)) op = some (d, s')) (h : K ⟨n, lk r, s'⟩) : stepWp P T all ⟨n, lk r, s⟩ ⟨none, op, ty, pos, af, none⟩ K := step_do hc he h
theorem zT (g : gvE all n t r j = some (.v (.bool b))) (h1 : b = true → SilW P T all (fun _ => s) ⟨n, lk r, s⟩ ⟨some t, op, ty, pos, af, none⟩ K) (h2 : b = false → K ⟨n, lk ((t, .v (.tp [])) :: r), s⟩) : stepWp P T all ⟨n, lk r, s⟩ ⟨some t, op, ty, pos, af, some (j, true)⟩ K :=
  step_sil (sil_splitT (gvE_iff g).1 (gvE_iff g).2 h1 h2)
theorem zF (g : gvE all n t r j = some (.v (.bool b))) (h1 : b = false → SilW P T all (fun _ => s) ⟨n, lk r, s⟩ ⟨some t, op, ty, pos, af, none⟩ K) (h2 : b = true → K ⟨n, lk ((t, .v (.tp [])) :: r), s⟩) : stepWp P T all ⟨n, lk r, s⟩ ⟨some t, op, ty, pos, af, some (j, false)⟩ K :=
  step_sil (sil_splitF (gvE_iff g).1 (gvE_iff g).2 h1 h2)
theorem zi {α : Type} [Inhabited α] {f : α → List V} {l : List α} {q t es eb sz : Nat} {ix : Operand} {ez z : List D} {e : Bool} {k : IntKind} {i : Int} (hd : (decide (q < n)) = true) (ht : T t = some ⟨.sl es eb ez, sz, z, e⟩) (hx : ev (lk r) x = some (.v (.sl (l.map f)))) (hi : ev (lk r) ix = some (.v (.int k i))) (hl : (f (gt l i)).length = es)
    (h : K ⟨n, lk ((q, .v (.cp (f (gt l i)) 0)) :: r), s⟩) (h0 : 0 ≤ i := by omega) (h1 : i < l.length := by omega) : stepWp P T all ⟨n, lk r, s⟩ ⟨some q, .indexAddr t x ix, ty, pos, af, none⟩ K :=
  step_sil (sil_index hd ht hx hi h0 (gt_idx h0 h1) hl h)
end
section
variable {P : Program} {all : Array Oper} {σ : St} {Q : Exit → St → Prop} {k : St → Prop} {x y : Code} {id : Nat} {ops : Array Oper} {c : Operand} {b : Bool}
theorem zR (h : opsWp Tryz.prog T ops (fun σ' => thenQ (fun σ'' => Sat Tryz.prog y σ'' Q) Q .normal σ') ops.toList σ) : Sat Tryz.prog (.seq (.region id ops false) y) σ Q := Sat.seq (Sat.region tabOk h)
theorem zr (h : opsWp Tryz.prog T ops (fun σ' => Q .normal σ') ops.toList σ) : Sat Tryz.prog (.region id ops false) σ Q := Sat.region tabOk h
theorem zw {T' : Nat → Option TI} (h : k σ) : opsWp P T' all (fun σ' => thenQ k Q .normal σ') [] σ := h
theorem zk (h : k σ) : Sat P .skip σ (thenQ k Q) := Sat.skip h
theorem zq (h : Sat P x σ (thenQ (fun σ' => Sat P y σ' Q) Q)) : Sat P (.seq x y) σ Q := Sat.seq h
theorem zb (hn : noLoop x = true) (h : Sat P x σ (blockQ id Q)) : Sat P (.block id x) σ Q := Sat.blk hn h
theorem zC (hc : ev σ.regs c = some (.v (.bool b))) (ht : b = true → Sat P x σ Q) (hf : b = false → Sat P y σ Q) : Sat P (.cond c x y) σ Q := Sat.cond hc ht hf
theorem zy (hc : ev σ.regs c = some (.v (.bool b))) (ht : b = true) (h : Sat P x σ Q) : Sat P (.cond c x y) σ Q := Sat.condT hc ht h
theorem zn (hc : ev σ.regs c = some (.v (.bool b))) (ht : b = false) (h : Sat P y σ Q) : Sat P (.cond c x y) σ Q := Sat.condF hc ht h
theorem ze {T : Nat → Option TI} {fn : Func} {r r' : V} {e : Exit} (h : resV T σ fn.results.toList = some r') (hr : r' = r) (he : (match e with | .normal | .ret => True | _ => False) := by exact trivial) : Ends T fn r e σ := ⟨he, hr ▸ h⟩
theorem zg {T : Nat → Option TI} {fn : Func} {r r' : V} {e : Exit} (h : resV T σ fn.results.toList = some r') (hr : r' = r := by first | rfl | (simp_all; done) | (simp_all; omega) | grind) (he : (match e with | .normal | .ret => True | _ => False) := by exact trivial) : Ends T fn r e σ := ⟨he, hr ▸ h⟩
theorem zz {f : Nat} {fn : Func} {c : Code} {xs : List V} {r : V} (n : Nat) (hf : Tryz.prog.funcs[f]? = some fn) (hb : fn.body = some c) (he : Enters Tryz.prog f) (hn : xs.length + (fn.ntmps - xs.length) = n) (h : Sat Tryz.prog c ⟨n, lk (initL 0 xs), lk []⟩ (Ends T fn r)) : Ok Tryz.prog f xs r := ok_body tabOk n hf hb he hn h
end
theorem sub_map {α : Type} {f : Nat → Option α} : ∀ {rl : List (Nat × α)}, rl.map (fun p => f p.1) = rl.map (fun p => some p.2) → Sub f rl
  | [], _ => trivial
  | (t, x) :: r, h => by
    simp only [List.map_cons, List.cons.injEq] at h
    exact ⟨h.1, sub_map h.2⟩
section
variable {n : Nat} {f : Nat → Option D} {g : Store} {rl : List (Nat × D)} {sl : List (Nat × Ent)} {ol : List (Nat × Option Ent)} {b i : Nat} {I : Nat → Prop} {S : Nat → St} {Q : Exit → St → Prop}
theorem zv (h1 : rl.map (fun p => f p.1) = rl.map (fun p => some p.2)) (h2 : sl.map (fun p => g p.1) = sl.map (fun p => some p.2)) (h3 : (rl.all fun p => mentOk (hasL sl) pubD p.2) = true) (h4 : (sl.all fun p => p.2.mentOk (hasL sl) pubD) = true) : Weak ⟨n, f, g⟩ ⟨n, lk rl, lk sl⟩ := weak_of (sub_map h1) (sub_map h2) h3 h4
theorem zV (h1 : Sub f rl) (h2 : SubO g ol) (h3 : MentL (hasO ol) rl := by repeat' (first | exact trivial | exact rfl | exact slD_ment rfl | exact moS | exact mo rfl | exact moD2 rfl rfl | refine ⟨?_, ?_⟩)) (h4 : MentO (hasO ol) ol := by repeat' (first | exact trivial | exact rfl | exact slD_ment rfl | exact moS | exact mo rfl | exact moD2 rfl rfl | refine ⟨?_, ?_⟩)) : Weak ⟨n, f, g⟩ ⟨n, lk rl, lkO ol⟩ := weakO h1 h2 h3 h4
end
end Go.Proofs.YtamjajacnfmgeaaGreat
