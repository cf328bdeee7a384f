/-
  NARROWER THAN 'FOR EVERY INPUT', by the rows' own cells (each row's printed sentence says how): ModesApart: laid · ModesPlay: laid · ModesNone: laid · PenBack: laid · PenColours: laid · PenFlags: laid · PenParts: laid · PenStays: laid · ParamsStays: laid · ParamsBack: laid · MouseQuiet: laid · MousePlace: laid · ParseCuts: laid · ParseGround: laid · ParseText: laid · ParseFew: laid · ParseCsi: laid · MouseTells: laid.
  DERIVED. THE GIVEN ROWS OF THIS SEAT. 18 by the template 'for every input the law returns true; each argument reads behind the call as it read before'; 0 by the template 'total and deterministic' (their statements: YtcempbgbdlmjfaaDoorTotals.lean).
  GIVEN WITH THE SEED: the statements are not yours to turn. If you find one false, say at which input.
  Laid BY PROGRAM, IN A SANDBOX (cutbox-rows.mjs): the forced cells as the released guide's own fill.sh prints them over the translation 3e839bb8a69521ba… (all of the seat's roots in one cut). By AI agents, Wed Nov 11 2026. No macro, syntax, notation, axiom, sorry.
-/
import Derived.Test.YtcempbgbdlmjfaaDoorChecked
import GoSem.Claim
import GoSem.ClaimJoined
import GoSem.ClaimMapViews
import Derived.JoinedTies
import Derived.KernelRfl
namespace Go.Proofs.YtcempbgbdlmjfaaDoor
/- THE CELL 'sum', in the pinned program and in every row, IS THE sha256 OF THE DUMP (.gsa) THAT YtcempbgbdlmjfaaDoorProg.lean LOADS. Nothing in Lean hashes anything: it is a label: what it is worth is what the hold of that sum in a sandbox is worth. -/
noncomputable def Tryd.pinned : Pinned := { name := "ytcempbgbdlmjfaadoor", sum := "3e839bb8a69521ba872e4a16a50702f5846a76e47ba8cbd9242c45c926d21925", checked := Tryd.checked }
namespace Rows
def none {H : Type} : Left H := { results := [], args := [] }

/- WHAT THE LISTED PACKAGE-LEVEL VARIABLES READ AS WHEN THE CALL BEGINS. Each datum BY PROGRAM (the guide's laid-datum.mjs) off the statement by which the dump's own 'gosem.cut.vars' lays the variable. In a bare row this is a premise. The card (YtcempbgbdlmjfaaDoorCards.lean) ties it to the program's text. -/
def laid_lapwing_modes_table {H : Type} : DataW H := .agg [.agg [.lit (.bool false), .lit (.int .i64 4)], .agg [.lit (.bool false), .lit (.int .i64 8)], .agg [.lit (.bool false), .lit (.int .i64 20)], .agg [.lit (.bool true), .lit (.int .i64 1)], .agg [.lit (.bool true), .lit (.int .i64 5)], .agg [.lit (.bool true), .lit (.int .i64 6)], .agg [.lit (.bool true), .lit (.int .i64 7)], .agg [.lit (.bool true), .lit (.int .i64 9)], .agg [.lit (.bool true), .lit (.int .i64 25)], .agg [.lit (.bool true), .lit (.int .i64 45)], .agg [.lit (.bool true), .lit (.int .i64 47)], .agg [.lit (.bool true), .lit (.int .i64 66)], .agg [.lit (.bool true), .lit (.int .i64 1000)], .agg [.lit (.bool true), .lit (.int .i64 1002)], .agg [.lit (.bool true), .lit (.int .i64 1003)], .agg [.lit (.bool true), .lit (.int .i64 1004)], .agg [.lit (.bool true), .lit (.int .i64 1006)], .agg [.lit (.bool true), .lit (.int .i64 1015)], .agg [.lit (.bool true), .lit (.int .i64 1047)], .agg [.lit (.bool true), .lit (.int .i64 1048)], .agg [.lit (.bool true), .lit (.int .i64 1049)], .agg [.lit (.bool true), .lit (.int .i64 2004)], .agg [.lit (.bool true), .lit (.int .i64 2500)], .agg [.lit (.bool true), .lit (.int .i64 2501)]]
def laid_lapwing_pen_switched {H : Type} : DataW H := .agg [.lit (.int .i64 0), .lit (.int .i64 1), .lit (.int .i64 2), .lit (.int .i64 4), .lit (.int .i64 8), .lit (.int .i64 16), .lit (.int .i64 0), .lit (.int .i64 32), .lit (.int .i64 64), .lit (.int .i64 128)]
def laid_lapwing_pen_unswitched {H : Type} : DataW H := .agg [.lit (.int .i64 3), .lit (.int .i64 4), .lit (.int .i64 264), .lit (.int .i64 16), .lit (.int .i64 0), .lit (.int .i64 32), .lit (.int .i64 64), .lit (.int .i64 128)]
def laid_lapwing_pen_codes {H : Type} : DataW H := .agg [.lit (.int .i64 1), .lit (.int .i64 2), .lit (.int .i64 3), .lit (.int .i64 4), .lit (.int .i64 5), .lit (.int .i64 7), .lit (.int .i64 8), .lit (.int .i64 9), .lit (.int .i64 21)]
def laid_math_bits_deBruijn32tab {H : Type} : DataW H := .agg [.lit (.int .u8 0), .lit (.int .u8 1), .lit (.int .u8 28), .lit (.int .u8 2), .lit (.int .u8 29), .lit (.int .u8 14), .lit (.int .u8 24), .lit (.int .u8 3), .lit (.int .u8 30), .lit (.int .u8 22), .lit (.int .u8 20), .lit (.int .u8 15), .lit (.int .u8 25), .lit (.int .u8 17), .lit (.int .u8 4), .lit (.int .u8 8), .lit (.int .u8 31), .lit (.int .u8 27), .lit (.int .u8 13), .lit (.int .u8 23), .lit (.int .u8 21), .lit (.int .u8 19), .lit (.int .u8 16), .lit (.int .u8 7), .lit (.int .u8 26), .lit (.int .u8 12), .lit (.int .u8 18), .lit (.int .u8 6), .lit (.int .u8 11), .lit (.int .u8 5), .lit (.int .u8 10), .lit (.int .u8 9)]
def laid_math_bits_deBruijn64tab {H : Type} : DataW H := .agg [.lit (.int .u8 0), .lit (.int .u8 1), .lit (.int .u8 56), .lit (.int .u8 2), .lit (.int .u8 57), .lit (.int .u8 49), .lit (.int .u8 28), .lit (.int .u8 3), .lit (.int .u8 61), .lit (.int .u8 58), .lit (.int .u8 42), .lit (.int .u8 50), .lit (.int .u8 38), .lit (.int .u8 29), .lit (.int .u8 17), .lit (.int .u8 4), .lit (.int .u8 62), .lit (.int .u8 47), .lit (.int .u8 59), .lit (.int .u8 36), .lit (.int .u8 45), .lit (.int .u8 43), .lit (.int .u8 51), .lit (.int .u8 22), .lit (.int .u8 53), .lit (.int .u8 39), .lit (.int .u8 33), .lit (.int .u8 30), .lit (.int .u8 24), .lit (.int .u8 18), .lit (.int .u8 12), .lit (.int .u8 5), .lit (.int .u8 63), .lit (.int .u8 55), .lit (.int .u8 48), .lit (.int .u8 27), .lit (.int .u8 60), .lit (.int .u8 41), .lit (.int .u8 37), .lit (.int .u8 16), .lit (.int .u8 46), .lit (.int .u8 35), .lit (.int .u8 44), .lit (.int .u8 21), .lit (.int .u8 52), .lit (.int .u8 32), .lit (.int .u8 23), .lit (.int .u8 11), .lit (.int .u8 54), .lit (.int .u8 26), .lit (.int .u8 40), .lit (.int .u8 15), .lit (.int .u8 34), .lit (.int .u8 20), .lit (.int .u8 31), .lit (.int .u8 10), .lit (.int .u8 25), .lit (.int .u8 14), .lit (.int .u8 19), .lit (.int .u8 9), .lit (.int .u8 13), .lit (.int .u8 8), .lit (.int .u8 7), .lit (.int .u8 6)]
def laid_internal_strconv_uint64pow10 {H : Type} : DataW H := .agg [.lit (.int .u64 1), .lit (.int .u64 10), .lit (.int .u64 100), .lit (.int .u64 1000), .lit (.int .u64 10000), .lit (.int .u64 100000), .lit (.int .u64 1000000), .lit (.int .u64 10000000), .lit (.int .u64 100000000), .lit (.int .u64 1000000000), .lit (.int .u64 10000000000), .lit (.int .u64 100000000000), .lit (.int .u64 1000000000000), .lit (.int .u64 10000000000000), .lit (.int .u64 100000000000000), .lit (.int .u64 1000000000000000), .lit (.int .u64 10000000000000000), .lit (.int .u64 100000000000000000), .lit (.int .u64 1000000000000000000), .lit (.int .u64 10000000000000000000)]

/-- 'lapwinglaw13.ModesApart': WHATEVER THE INPUT: true; the input reads as it did. -/
def modesApartSpec : ChangeSpec := { name := "modesApart", fn := fun _ => fun
  | [d1, d2, d3, d4, d5, d6] => { results := [.lit (.bool true)], args := [d1, d2, d3, d4, d5, d6] }
  | _ => none }
def modesApartRow : OpenClaim := { program := "ytcempbgbdlmjfaadoor", sum := "3e839bb8a69521ba872e4a16a50702f5846a76e47ba8cbd9242c45c926d21925", func := "lapwing/lapwinglaw13.ModesApart", spec := "modesApart", named := ["lapwing/modes.table"], apart := false, laid := [("lapwing/modes.table", laid_lapwing_modes_table)] }
def ModesApartSaid : Prop := modesApartRow.holds Tryd.pinned (OpenSpec.ofChange modesApartSpec)

/-- ITS FALSE NEIGHBOUR: 'it returns false'. Refute it at one input. -/
def modesApartWrong : ChangeSpec := { name := "modesApart", fn := fun _ => fun
  | [d1, d2, d3, d4, d5, d6] => { results := [.lit (.bool false)], args := [d1, d2, d3, d4, d5, d6] }
  | _ => none }
def ModesApartWrongFalsely : Prop := modesApartRow.holds Tryd.pinned (OpenSpec.ofChange modesApartWrong)

/-- 'lapwinglaw13.ModesPlay': WHATEVER THE INPUT: true; the input reads as it did. -/
def modesPlaySpec : ChangeSpec := { name := "modesPlay", fn := fun _ => fun
  | [d] => { results := [.lit (.bool true)], args := [d] }
  | _ => none }
def modesPlayRow : OpenClaim := { program := "ytcempbgbdlmjfaadoor", sum := "3e839bb8a69521ba872e4a16a50702f5846a76e47ba8cbd9242c45c926d21925", func := "lapwing/lapwinglaw13.ModesPlay", spec := "modesPlay", named := ["lapwing/modes.table"], apart := false, laid := [("lapwing/modes.table", laid_lapwing_modes_table)] }
def ModesPlaySaid : Prop := modesPlayRow.holds Tryd.pinned (OpenSpec.ofChange modesPlaySpec)

/-- ITS FALSE NEIGHBOUR: 'it returns false'. Refute it at one input. -/
def modesPlayWrong : ChangeSpec := { name := "modesPlay", fn := fun _ => fun
  | [d] => { results := [.lit (.bool false)], args := [d] }
  | _ => none }
def ModesPlayWrongFalsely : Prop := modesPlayRow.holds Tryd.pinned (OpenSpec.ofChange modesPlayWrong)

/-- 'lapwinglaw13.ModesNone': WHATEVER THE INPUT: true; the input reads as it did. -/
def modesNoneSpec : ChangeSpec := { name := "modesNone", fn := fun _ => fun
  | [d1, d2, d3, d4, d5] => { results := [.lit (.bool true)], args := [d1, d2, d3, d4, d5] }
  | _ => none }
def modesNoneRow : OpenClaim := { program := "ytcempbgbdlmjfaadoor", sum := "3e839bb8a69521ba872e4a16a50702f5846a76e47ba8cbd9242c45c926d21925", func := "lapwing/lapwinglaw13.ModesNone", spec := "modesNone", named := ["lapwing/modes.table"], apart := false, laid := [("lapwing/modes.table", laid_lapwing_modes_table)] }
def ModesNoneSaid : Prop := modesNoneRow.holds Tryd.pinned (OpenSpec.ofChange modesNoneSpec)

/-- ITS FALSE NEIGHBOUR: 'it returns false'. Refute it at one input. -/
def modesNoneWrong : ChangeSpec := { name := "modesNone", fn := fun _ => fun
  | [d1, d2, d3, d4, d5] => { results := [.lit (.bool false)], args := [d1, d2, d3, d4, d5] }
  | _ => none }
def ModesNoneWrongFalsely : Prop := modesNoneRow.holds Tryd.pinned (OpenSpec.ofChange modesNoneWrong)

/-- 'lapwinglaw07.PenBack': WHATEVER THE INPUT: true; the input reads as it did. -/
def penBackSpec : ChangeSpec := { name := "penBack", fn := fun _ => fun
  | [d1, d2] => { results := [.lit (.bool true)], args := [d1, d2] }
  | _ => none }
def penBackRow : OpenClaim := { program := "ytcempbgbdlmjfaadoor", sum := "3e839bb8a69521ba872e4a16a50702f5846a76e47ba8cbd9242c45c926d21925", func := "lapwing/lapwinglaw07.PenBack", spec := "penBack", unfollowed := true, recurses := true, named := ["lapwing/pen.switched", "lapwing/pen.unswitched", "lapwing/pen.codes"], apart := false, laid := [("lapwing/pen.switched", laid_lapwing_pen_switched), ("lapwing/pen.unswitched", laid_lapwing_pen_unswitched), ("lapwing/pen.codes", laid_lapwing_pen_codes)] }
def PenBackSaid : Prop := penBackRow.holds Tryd.pinned (OpenSpec.ofChange penBackSpec)

/-- ITS FALSE NEIGHBOUR: 'it returns false'. Refute it at one input. -/
def penBackWrong : ChangeSpec := { name := "penBack", fn := fun _ => fun
  | [d1, d2] => { results := [.lit (.bool false)], args := [d1, d2] }
  | _ => none }
def PenBackWrongFalsely : Prop := penBackRow.holds Tryd.pinned (OpenSpec.ofChange penBackWrong)

/-- 'lapwinglaw07.PenColours': WHATEVER THE INPUT: true; the input reads as it did. -/
def penColoursSpec : ChangeSpec := { name := "penColours", fn := fun _ => fun
  | [d1, d2, d3, d4, d5] => { results := [.lit (.bool true)], args := [d1, d2, d3, d4, d5] }
  | _ => none }
def penColoursRow : OpenClaim := { program := "ytcempbgbdlmjfaadoor", sum := "3e839bb8a69521ba872e4a16a50702f5846a76e47ba8cbd9242c45c926d21925", func := "lapwing/lapwinglaw07.PenColours", spec := "penColours", unfollowed := true, recurses := true, named := ["lapwing/pen.switched", "lapwing/pen.unswitched", "lapwing/pen.codes"], apart := false, laid := [("lapwing/pen.switched", laid_lapwing_pen_switched), ("lapwing/pen.unswitched", laid_lapwing_pen_unswitched), ("lapwing/pen.codes", laid_lapwing_pen_codes)] }
def PenColoursSaid : Prop := penColoursRow.holds Tryd.pinned (OpenSpec.ofChange penColoursSpec)

/-- ITS FALSE NEIGHBOUR: 'it returns false'. Refute it at one input. -/
def penColoursWrong : ChangeSpec := { name := "penColours", fn := fun _ => fun
  | [d1, d2, d3, d4, d5] => { results := [.lit (.bool false)], args := [d1, d2, d3, d4, d5] }
  | _ => none }
def PenColoursWrongFalsely : Prop := penColoursRow.holds Tryd.pinned (OpenSpec.ofChange penColoursWrong)

/-- 'lapwinglaw07.PenFlags': WHATEVER THE INPUT: true; the input reads as it did. -/
def penFlagsSpec : ChangeSpec := { name := "penFlags", fn := fun _ => fun
  | [d1, d2] => { results := [.lit (.bool true)], args := [d1, d2] }
  | _ => none }
def penFlagsRow : OpenClaim := { program := "ytcempbgbdlmjfaadoor", sum := "3e839bb8a69521ba872e4a16a50702f5846a76e47ba8cbd9242c45c926d21925", func := "lapwing/lapwinglaw07.PenFlags", spec := "penFlags", unfollowed := true, recurses := true, named := ["lapwing/pen.switched", "lapwing/pen.unswitched", "lapwing/pen.codes"], apart := false, laid := [("lapwing/pen.switched", laid_lapwing_pen_switched), ("lapwing/pen.unswitched", laid_lapwing_pen_unswitched), ("lapwing/pen.codes", laid_lapwing_pen_codes)] }
def PenFlagsSaid : Prop := penFlagsRow.holds Tryd.pinned (OpenSpec.ofChange penFlagsSpec)

/-- ITS FALSE NEIGHBOUR: 'it returns false'. Refute it at one input. -/
def penFlagsWrong : ChangeSpec := { name := "penFlags", fn := fun _ => fun
  | [d1, d2] => { results := [.lit (.bool false)], args := [d1, d2] }
  | _ => none }
def PenFlagsWrongFalsely : Prop := penFlagsRow.holds Tryd.pinned (OpenSpec.ofChange penFlagsWrong)

/-- 'lapwinglaw07.PenParts': WHATEVER THE INPUT: true; the input reads as it did. -/
def penPartsSpec : ChangeSpec := { name := "penParts", fn := fun _ => fun
  | [d] => { results := [.lit (.bool true)], args := [d] }
  | _ => none }
def penPartsRow : OpenClaim := { program := "ytcempbgbdlmjfaadoor", sum := "3e839bb8a69521ba872e4a16a50702f5846a76e47ba8cbd9242c45c926d21925", func := "lapwing/lapwinglaw07.PenParts", spec := "penParts", unfollowed := true, recurses := true, named := ["lapwing/pen.switched", "lapwing/pen.unswitched", "lapwing/pen.codes"], apart := false, laid := [("lapwing/pen.switched", laid_lapwing_pen_switched), ("lapwing/pen.unswitched", laid_lapwing_pen_unswitched), ("lapwing/pen.codes", laid_lapwing_pen_codes)] }
def PenPartsSaid : Prop := penPartsRow.holds Tryd.pinned (OpenSpec.ofChange penPartsSpec)

/-- ITS FALSE NEIGHBOUR: 'it returns false'. Refute it at one input. -/
def penPartsWrong : ChangeSpec := { name := "penParts", fn := fun _ => fun
  | [d] => { results := [.lit (.bool false)], args := [d] }
  | _ => none }
def PenPartsWrongFalsely : Prop := penPartsRow.holds Tryd.pinned (OpenSpec.ofChange penPartsWrong)

/-- 'lapwinglaw07.PenStays': WHATEVER THE INPUT: true; the input reads as it did. -/
def penStaysSpec : ChangeSpec := { name := "penStays", fn := fun _ => fun
  | [d1, d2, d3] => { results := [.lit (.bool true)], args := [d1, d2, d3] }
  | _ => none }
def penStaysRow : OpenClaim := { program := "ytcempbgbdlmjfaadoor", sum := "3e839bb8a69521ba872e4a16a50702f5846a76e47ba8cbd9242c45c926d21925", func := "lapwing/lapwinglaw07.PenStays", spec := "penStays", unfollowed := true, recurses := true, named := ["lapwing/pen.switched", "lapwing/pen.unswitched", "lapwing/pen.codes"], apart := false, laid := [("lapwing/pen.switched", laid_lapwing_pen_switched), ("lapwing/pen.unswitched", laid_lapwing_pen_unswitched), ("lapwing/pen.codes", laid_lapwing_pen_codes)] }
def PenStaysSaid : Prop := penStaysRow.holds Tryd.pinned (OpenSpec.ofChange penStaysSpec)

/-- ITS FALSE NEIGHBOUR: 'it returns false'. Refute it at one input. -/
def penStaysWrong : ChangeSpec := { name := "penStays", fn := fun _ => fun
  | [d1, d2, d3] => { results := [.lit (.bool false)], args := [d1, d2, d3] }
  | _ => none }
def PenStaysWrongFalsely : Prop := penStaysRow.holds Tryd.pinned (OpenSpec.ofChange penStaysWrong)

/-- 'lapwinglaw05.ParamsStays': WHATEVER THE INPUT: true; the input reads as it did. -/
def paramsStaysSpec : ChangeSpec := { name := "paramsStays", fn := fun _ => fun
  | [d1, d2] => { results := [.lit (.bool true)], args := [d1, d2] }
  | _ => none }
def paramsStaysRow : OpenClaim := { program := "ytcempbgbdlmjfaadoor", sum := "3e839bb8a69521ba872e4a16a50702f5846a76e47ba8cbd9242c45c926d21925", func := "lapwing/lapwinglaw05.ParamsStays", spec := "paramsStays", unfollowed := true, recurses := true, named := ["internal/strconv.uint64pow10", "math/bits.deBruijn32tab", "math/bits.deBruijn64tab"], apart := false, laid := [("math/bits.deBruijn32tab", laid_math_bits_deBruijn32tab), ("math/bits.deBruijn64tab", laid_math_bits_deBruijn64tab), ("internal/strconv.uint64pow10", laid_internal_strconv_uint64pow10)] }
def ParamsStaysSaid : Prop := paramsStaysRow.holds Tryd.pinned (OpenSpec.ofChange paramsStaysSpec)

/-- ITS FALSE NEIGHBOUR: 'it returns false'. Refute it at one input. -/
def paramsStaysWrong : ChangeSpec := { name := "paramsStays", fn := fun _ => fun
  | [d1, d2] => { results := [.lit (.bool false)], args := [d1, d2] }
  | _ => none }
def ParamsStaysWrongFalsely : Prop := paramsStaysRow.holds Tryd.pinned (OpenSpec.ofChange paramsStaysWrong)

/-- 'lapwinglaw05.ParamsBack': WHATEVER THE INPUT: true; the input reads as it did. -/
def paramsBackSpec : ChangeSpec := { name := "paramsBack", fn := fun _ => fun
  | [d] => { results := [.lit (.bool true)], args := [d] }
  | _ => none }
def paramsBackRow : OpenClaim := { program := "ytcempbgbdlmjfaadoor", sum := "3e839bb8a69521ba872e4a16a50702f5846a76e47ba8cbd9242c45c926d21925", func := "lapwing/lapwinglaw05.ParamsBack", spec := "paramsBack", inPlace := ["internal/abi.NoEscape"], unfollowed := true, recurses := true, named := ["internal/strconv.uint64pow10", "math/bits.deBruijn32tab", "math/bits.deBruijn64tab"], apart := false, laid := [("math/bits.deBruijn32tab", laid_math_bits_deBruijn32tab), ("math/bits.deBruijn64tab", laid_math_bits_deBruijn64tab), ("internal/strconv.uint64pow10", laid_internal_strconv_uint64pow10)] }
def ParamsBackSaid : Prop := paramsBackRow.holds Tryd.pinned (OpenSpec.ofChange paramsBackSpec)

/-- ITS FALSE NEIGHBOUR: 'it returns false'. Refute it at one input. -/
def paramsBackWrong : ChangeSpec := { name := "paramsBack", fn := fun _ => fun
  | [d] => { results := [.lit (.bool false)], args := [d] }
  | _ => none }
def ParamsBackWrongFalsely : Prop := paramsBackRow.holds Tryd.pinned (OpenSpec.ofChange paramsBackWrong)

/-- 'lapwinglaw22.MouseQuiet': WHATEVER THE INPUT: true; the input reads as it did. -/
def mouseQuietSpec : ChangeSpec := { name := "mouseQuiet", fn := fun _ => fun
  | [d1, d2, d3, d4] => { results := [.lit (.bool true)], args := [d1, d2, d3, d4] }
  | _ => none }
def mouseQuietRow : OpenClaim := { program := "ytcempbgbdlmjfaadoor", sum := "3e839bb8a69521ba872e4a16a50702f5846a76e47ba8cbd9242c45c926d21925", func := "lapwing/lapwinglaw22.MouseQuiet", spec := "mouseQuiet", inPlace := ["math.Float64frombits"], named := ["lapwing/modes.table", "internal/strconv.uint64pow10", "math/bits.deBruijn32tab", "math/bits.deBruijn64tab"], apart := false, laid := [("lapwing/modes.table", laid_lapwing_modes_table), ("math/bits.deBruijn32tab", laid_math_bits_deBruijn32tab), ("math/bits.deBruijn64tab", laid_math_bits_deBruijn64tab), ("internal/strconv.uint64pow10", laid_internal_strconv_uint64pow10)] }
def MouseQuietSaid : Prop := mouseQuietRow.holds Tryd.pinned (OpenSpec.ofChange mouseQuietSpec)

/-- ITS FALSE NEIGHBOUR: 'it returns false'. Refute it at one input. -/
def mouseQuietWrong : ChangeSpec := { name := "mouseQuiet", fn := fun _ => fun
  | [d1, d2, d3, d4] => { results := [.lit (.bool false)], args := [d1, d2, d3, d4] }
  | _ => none }
def MouseQuietWrongFalsely : Prop := mouseQuietRow.holds Tryd.pinned (OpenSpec.ofChange mouseQuietWrong)

/-- 'lapwinglaw22.MousePlace': WHATEVER THE INPUT: true; the input reads as it did. -/
def mousePlaceSpec : ChangeSpec := { name := "mousePlace", fn := fun _ => fun
  | [d1, d2] => { results := [.lit (.bool true)], args := [d1, d2] }
  | _ => none }
def mousePlaceRow : OpenClaim := { program := "ytcempbgbdlmjfaadoor", sum := "3e839bb8a69521ba872e4a16a50702f5846a76e47ba8cbd9242c45c926d21925", func := "lapwing/lapwinglaw22.MousePlace", spec := "mousePlace", inPlace := ["math.Float64frombits"], named := ["lapwing/modes.table", "internal/strconv.uint64pow10", "math/bits.deBruijn32tab", "math/bits.deBruijn64tab"], apart := false, laid := [("lapwing/modes.table", laid_lapwing_modes_table), ("math/bits.deBruijn32tab", laid_math_bits_deBruijn32tab), ("math/bits.deBruijn64tab", laid_math_bits_deBruijn64tab), ("internal/strconv.uint64pow10", laid_internal_strconv_uint64pow10)] }
def MousePlaceSaid : Prop := mousePlaceRow.holds Tryd.pinned (OpenSpec.ofChange mousePlaceSpec)

/-- ITS FALSE NEIGHBOUR: 'it returns false'. Refute it at one input. -/
def mousePlaceWrong : ChangeSpec := { name := "mousePlace", fn := fun _ => fun
  | [d1, d2] => { results := [.lit (.bool false)], args := [d1, d2] }
  | _ => none }
def MousePlaceWrongFalsely : Prop := mousePlaceRow.holds Tryd.pinned (OpenSpec.ofChange mousePlaceWrong)

/-- 'lapwinglaw06.ParseCuts': WHATEVER THE INPUT: true; the input reads as it did. -/
def parseCutsSpec : ChangeSpec := { name := "parseCuts", fn := fun _ => fun
  | [d1, d2] => { results := [.lit (.bool true)], args := [d1, d2] }
  | _ => none }
def parseCutsRow : OpenClaim := { program := "ytcempbgbdlmjfaadoor", sum := "3e839bb8a69521ba872e4a16a50702f5846a76e47ba8cbd9242c45c926d21925", func := "lapwing/lapwinglaw06.ParseCuts", spec := "parseCuts", inPlace := ["internal/abi.NoEscape"], named := ["internal/strconv.uint64pow10", "math/bits.deBruijn32tab", "math/bits.deBruijn64tab"], apart := false, laid := [("math/bits.deBruijn32tab", laid_math_bits_deBruijn32tab), ("math/bits.deBruijn64tab", laid_math_bits_deBruijn64tab), ("internal/strconv.uint64pow10", laid_internal_strconv_uint64pow10)] }
def ParseCutsSaid : Prop := parseCutsRow.holds Tryd.pinned (OpenSpec.ofChange parseCutsSpec)

/-- ITS FALSE NEIGHBOUR: 'it returns false'. Refute it at one input. -/
def parseCutsWrong : ChangeSpec := { name := "parseCuts", fn := fun _ => fun
  | [d1, d2] => { results := [.lit (.bool false)], args := [d1, d2] }
  | _ => none }
def ParseCutsWrongFalsely : Prop := parseCutsRow.holds Tryd.pinned (OpenSpec.ofChange parseCutsWrong)

/-- 'lapwinglaw06.ParseGround': WHATEVER THE INPUT: true; the input reads as it did. -/
def parseGroundSpec : ChangeSpec := { name := "parseGround", fn := fun _ => fun
  | [d1, d2] => { results := [.lit (.bool true)], args := [d1, d2] }
  | _ => none }
def parseGroundRow : OpenClaim := { program := "ytcempbgbdlmjfaadoor", sum := "3e839bb8a69521ba872e4a16a50702f5846a76e47ba8cbd9242c45c926d21925", func := "lapwing/lapwinglaw06.ParseGround", spec := "parseGround", inPlace := ["internal/abi.NoEscape"], named := ["internal/strconv.uint64pow10", "math/bits.deBruijn32tab", "math/bits.deBruijn64tab"], apart := false, laid := [("math/bits.deBruijn32tab", laid_math_bits_deBruijn32tab), ("math/bits.deBruijn64tab", laid_math_bits_deBruijn64tab), ("internal/strconv.uint64pow10", laid_internal_strconv_uint64pow10)] }
def ParseGroundSaid : Prop := parseGroundRow.holds Tryd.pinned (OpenSpec.ofChange parseGroundSpec)

/-- ITS FALSE NEIGHBOUR: 'it returns false'. Refute it at one input. -/
def parseGroundWrong : ChangeSpec := { name := "parseGround", fn := fun _ => fun
  | [d1, d2] => { results := [.lit (.bool false)], args := [d1, d2] }
  | _ => none }
def ParseGroundWrongFalsely : Prop := parseGroundRow.holds Tryd.pinned (OpenSpec.ofChange parseGroundWrong)

/-- 'lapwinglaw06.ParseText': WHATEVER THE INPUT: true; the input reads as it did. -/
def parseTextSpec : ChangeSpec := { name := "parseText", fn := fun _ => fun
  | [d1, d2] => { results := [.lit (.bool true)], args := [d1, d2] }
  | _ => none }
def parseTextRow : OpenClaim := { program := "ytcempbgbdlmjfaadoor", sum := "3e839bb8a69521ba872e4a16a50702f5846a76e47ba8cbd9242c45c926d21925", func := "lapwing/lapwinglaw06.ParseText", spec := "parseText", inPlace := ["internal/abi.NoEscape"], named := ["internal/strconv.uint64pow10", "math/bits.deBruijn32tab", "math/bits.deBruijn64tab"], apart := false, laid := [("math/bits.deBruijn32tab", laid_math_bits_deBruijn32tab), ("math/bits.deBruijn64tab", laid_math_bits_deBruijn64tab), ("internal/strconv.uint64pow10", laid_internal_strconv_uint64pow10)] }
def ParseTextSaid : Prop := parseTextRow.holds Tryd.pinned (OpenSpec.ofChange parseTextSpec)

/-- ITS FALSE NEIGHBOUR: 'it returns false'. Refute it at one input. -/
def parseTextWrong : ChangeSpec := { name := "parseText", fn := fun _ => fun
  | [d1, d2] => { results := [.lit (.bool false)], args := [d1, d2] }
  | _ => none }
def ParseTextWrongFalsely : Prop := parseTextRow.holds Tryd.pinned (OpenSpec.ofChange parseTextWrong)

/-- 'lapwinglaw06.ParseFew': WHATEVER THE INPUT: true; the input reads as it did. -/
def parseFewSpec : ChangeSpec := { name := "parseFew", fn := fun _ => fun
  | [d] => { results := [.lit (.bool true)], args := [d] }
  | _ => none }
def parseFewRow : OpenClaim := { program := "ytcempbgbdlmjfaadoor", sum := "3e839bb8a69521ba872e4a16a50702f5846a76e47ba8cbd9242c45c926d21925", func := "lapwing/lapwinglaw06.ParseFew", spec := "parseFew", inPlace := ["internal/abi.NoEscape"], named := ["internal/strconv.uint64pow10", "math/bits.deBruijn32tab", "math/bits.deBruijn64tab"], apart := false, laid := [("math/bits.deBruijn32tab", laid_math_bits_deBruijn32tab), ("math/bits.deBruijn64tab", laid_math_bits_deBruijn64tab), ("internal/strconv.uint64pow10", laid_internal_strconv_uint64pow10)] }
def ParseFewSaid : Prop := parseFewRow.holds Tryd.pinned (OpenSpec.ofChange parseFewSpec)

/-- ITS FALSE NEIGHBOUR: 'it returns false'. Refute it at one input. -/
def parseFewWrong : ChangeSpec := { name := "parseFew", fn := fun _ => fun
  | [d] => { results := [.lit (.bool false)], args := [d] }
  | _ => none }
def ParseFewWrongFalsely : Prop := parseFewRow.holds Tryd.pinned (OpenSpec.ofChange parseFewWrong)

/-- 'lapwinglaw06.ParseCsi': WHATEVER THE INPUT: true; the input reads as it did. -/
def parseCsiSpec : ChangeSpec := { name := "parseCsi", fn := fun _ => fun
  | [d1, d2, d3, d4] => { results := [.lit (.bool true)], args := [d1, d2, d3, d4] }
  | _ => none }
def parseCsiRow : OpenClaim := { program := "ytcempbgbdlmjfaadoor", sum := "3e839bb8a69521ba872e4a16a50702f5846a76e47ba8cbd9242c45c926d21925", func := "lapwing/lapwinglaw06.ParseCsi", spec := "parseCsi", inPlace := ["internal/abi.NoEscape"], unfollowed := true, recurses := true, named := ["internal/strconv.uint64pow10", "math/bits.deBruijn32tab", "math/bits.deBruijn64tab"], apart := false, laid := [("math/bits.deBruijn32tab", laid_math_bits_deBruijn32tab), ("math/bits.deBruijn64tab", laid_math_bits_deBruijn64tab), ("internal/strconv.uint64pow10", laid_internal_strconv_uint64pow10)] }
def ParseCsiSaid : Prop := parseCsiRow.holds Tryd.pinned (OpenSpec.ofChange parseCsiSpec)

/-- ITS FALSE NEIGHBOUR: 'it returns false'. Refute it at one input. -/
def parseCsiWrong : ChangeSpec := { name := "parseCsi", fn := fun _ => fun
  | [d1, d2, d3, d4] => { results := [.lit (.bool false)], args := [d1, d2, d3, d4] }
  | _ => none }
def ParseCsiWrongFalsely : Prop := parseCsiRow.holds Tryd.pinned (OpenSpec.ofChange parseCsiWrong)

/-- 'lapwinglaw22.MouseTells': WHATEVER THE INPUT: true; the input reads as it did. -/
def mouseTellsSpec : ChangeSpec := { name := "mouseTells", fn := fun _ => fun
  | [d1, d2, d3, d4] => { results := [.lit (.bool true)], args := [d1, d2, d3, d4] }
  | _ => none }
def mouseTellsRow : OpenClaim := { program := "ytcempbgbdlmjfaadoor", sum := "3e839bb8a69521ba872e4a16a50702f5846a76e47ba8cbd9242c45c926d21925", func := "lapwing/lapwinglaw22.MouseTells", spec := "mouseTells", inPlace := ["math.Float64frombits"], named := ["lapwing/modes.table", "internal/strconv.uint64pow10", "math/bits.deBruijn32tab", "math/bits.deBruijn64tab"], apart := false, laid := [("lapwing/modes.table", laid_lapwing_modes_table), ("math/bits.deBruijn32tab", laid_math_bits_deBruijn32tab), ("math/bits.deBruijn64tab", laid_math_bits_deBruijn64tab), ("internal/strconv.uint64pow10", laid_internal_strconv_uint64pow10)] }
def MouseTellsSaid : Prop := mouseTellsRow.holds Tryd.pinned (OpenSpec.ofChange mouseTellsSpec)

/-- ITS FALSE NEIGHBOUR: 'it returns false'. Refute it at one input. -/
def mouseTellsWrong : ChangeSpec := { name := "mouseTells", fn := fun _ => fun
  | [d1, d2, d3, d4] => { results := [.lit (.bool false)], args := [d1, d2, d3, d4] }
  | _ => none }
def MouseTellsWrongFalsely : Prop := mouseTellsRow.holds Tryd.pinned (OpenSpec.ofChange mouseTellsWrong)

/- THE SECOND FORM. 'bulk': how many values and letters a reading holds, each counted each time it is reached (what is shared counts as often as it is met; a slice's spare places count too). A statement '..UptoSaid' is the law's where the arguments, and the package variables that the reading takes, are together of bulk at most 1048576: NARROWER than '..Said'. Prove '..Said' where nothing that the law and all that it calls make is longer than what came in: it says more and counts as full. Else prove '..UptoSaid'. A law counts once. -/
mutual
def uptoBulk {H : Type} : DataW H → Nat
  | .lit (.string bytes) => bytes.length + 1
  | .lit _ => 1
  | .nil => 1
  | .ptr d => uptoBulk d + 1
  | .slice elems spare => uptoBulkAll elems + uptoBulkAll spare + 1
  | .agg parts => uptoBulkAll parts + 1
  | .iface _ d => uptoBulk d + 1
  | .map entries => uptoBulkEntries entries + 1
  | .held _ => 1
def uptoBulkAll {H : Type} : List (DataW H) → Nat
  | [] => 0
  | d :: r => uptoBulk d + uptoBulkAll r
def uptoBulkEntries {H : Type} : List (Lit × DataW H) → Nat
  | [] => 0
  | x :: r => uptoBulkEntry x + uptoBulkEntries r
def uptoBulkEntry {H : Type} : Lit × DataW H → Nat
  | (.string bytes, d) => bytes.length + uptoBulk d + 1
  | (_, d) => uptoBulk d + 1
 end
def uptoSmall : (H : Type) → List (DataW H) → Bool := fun _ ds => decide (uptoBulkAll ds ≤ 1048576)
def OpenSpec.upto (s : _root_.Go.ChangeSpec) : _root_.Go.OpenSpec := { _root_.Go.OpenSpec.ofChange s with cond := some uptoSmall }

/-- 'lapwinglaw13.ModesApart', WHERE WHAT IT READS IS OF BULK AT MOST 1048576: true; the input reads as it did. -/
def modesApartUptoRow : OpenClaim := { program := "ytcempbgbdlmjfaadoor", sum := "3e839bb8a69521ba872e4a16a50702f5846a76e47ba8cbd9242c45c926d21925", func := "lapwing/lapwinglaw13.ModesApart", spec := "modesApart", named := ["lapwing/modes.table"], apart := false, laid := [("lapwing/modes.table", laid_lapwing_modes_table)], narrowed := true }
def ModesApartUptoSaid : Prop := modesApartUptoRow.holds Tryd.pinned (OpenSpec.upto modesApartSpec)

/-- 'lapwinglaw13.ModesPlay', WHERE WHAT IT READS IS OF BULK AT MOST 1048576: true; the input reads as it did. -/
def modesPlayUptoRow : OpenClaim := { program := "ytcempbgbdlmjfaadoor", sum := "3e839bb8a69521ba872e4a16a50702f5846a76e47ba8cbd9242c45c926d21925", func := "lapwing/lapwinglaw13.ModesPlay", spec := "modesPlay", named := ["lapwing/modes.table"], apart := false, laid := [("lapwing/modes.table", laid_lapwing_modes_table)], narrowed := true }
def ModesPlayUptoSaid : Prop := modesPlayUptoRow.holds Tryd.pinned (OpenSpec.upto modesPlaySpec)

/-- 'lapwinglaw13.ModesNone', WHERE WHAT IT READS IS OF BULK AT MOST 1048576: true; the input reads as it did. -/
def modesNoneUptoRow : OpenClaim := { program := "ytcempbgbdlmjfaadoor", sum := "3e839bb8a69521ba872e4a16a50702f5846a76e47ba8cbd9242c45c926d21925", func := "lapwing/lapwinglaw13.ModesNone", spec := "modesNone", named := ["lapwing/modes.table"], apart := false, laid := [("lapwing/modes.table", laid_lapwing_modes_table)], narrowed := true }
def ModesNoneUptoSaid : Prop := modesNoneUptoRow.holds Tryd.pinned (OpenSpec.upto modesNoneSpec)

/-- 'lapwinglaw07.PenBack', WHERE WHAT IT READS IS OF BULK AT MOST 1048576: true; the input reads as it did. -/
def penBackUptoRow : OpenClaim := { program := "ytcempbgbdlmjfaadoor", sum := "3e839bb8a69521ba872e4a16a50702f5846a76e47ba8cbd9242c45c926d21925", func := "lapwing/lapwinglaw07.PenBack", spec := "penBack", unfollowed := true, recurses := true, named := ["lapwing/pen.switched", "lapwing/pen.unswitched", "lapwing/pen.codes"], apart := false, laid := [("lapwing/pen.switched", laid_lapwing_pen_switched), ("lapwing/pen.unswitched", laid_lapwing_pen_unswitched), ("lapwing/pen.codes", laid_lapwing_pen_codes)], narrowed := true }
def PenBackUptoSaid : Prop := penBackUptoRow.holds Tryd.pinned (OpenSpec.upto penBackSpec)

/-- 'lapwinglaw07.PenColours', WHERE WHAT IT READS IS OF BULK AT MOST 1048576: true; the input reads as it did. -/
def penColoursUptoRow : OpenClaim := { program := "ytcempbgbdlmjfaadoor", sum := "3e839bb8a69521ba872e4a16a50702f5846a76e47ba8cbd9242c45c926d21925", func := "lapwing/lapwinglaw07.PenColours", spec := "penColours", unfollowed := true, recurses := true, named := ["lapwing/pen.switched", "lapwing/pen.unswitched", "lapwing/pen.codes"], apart := false, laid := [("lapwing/pen.switched", laid_lapwing_pen_switched), ("lapwing/pen.unswitched", laid_lapwing_pen_unswitched), ("lapwing/pen.codes", laid_lapwing_pen_codes)], narrowed := true }
def PenColoursUptoSaid : Prop := penColoursUptoRow.holds Tryd.pinned (OpenSpec.upto penColoursSpec)

/-- 'lapwinglaw07.PenFlags', WHERE WHAT IT READS IS OF BULK AT MOST 1048576: true; the input reads as it did. -/
def penFlagsUptoRow : OpenClaim := { program := "ytcempbgbdlmjfaadoor", sum := "3e839bb8a69521ba872e4a16a50702f5846a76e47ba8cbd9242c45c926d21925", func := "lapwing/lapwinglaw07.PenFlags", spec := "penFlags", unfollowed := true, recurses := true, named := ["lapwing/pen.switched", "lapwing/pen.unswitched", "lapwing/pen.codes"], apart := false, laid := [("lapwing/pen.switched", laid_lapwing_pen_switched), ("lapwing/pen.unswitched", laid_lapwing_pen_unswitched), ("lapwing/pen.codes", laid_lapwing_pen_codes)], narrowed := true }
def PenFlagsUptoSaid : Prop := penFlagsUptoRow.holds Tryd.pinned (OpenSpec.upto penFlagsSpec)

/-- 'lapwinglaw07.PenParts', WHERE WHAT IT READS IS OF BULK AT MOST 1048576: true; the input reads as it did. -/
def penPartsUptoRow : OpenClaim := { program := "ytcempbgbdlmjfaadoor", sum := "3e839bb8a69521ba872e4a16a50702f5846a76e47ba8cbd9242c45c926d21925", func := "lapwing/lapwinglaw07.PenParts", spec := "penParts", unfollowed := true, recurses := true, named := ["lapwing/pen.switched", "lapwing/pen.unswitched", "lapwing/pen.codes"], apart := false, laid := [("lapwing/pen.switched", laid_lapwing_pen_switched), ("lapwing/pen.unswitched", laid_lapwing_pen_unswitched), ("lapwing/pen.codes", laid_lapwing_pen_codes)], narrowed := true }
def PenPartsUptoSaid : Prop := penPartsUptoRow.holds Tryd.pinned (OpenSpec.upto penPartsSpec)

/-- 'lapwinglaw07.PenStays', WHERE WHAT IT READS IS OF BULK AT MOST 1048576: true; the input reads as it did. -/
def penStaysUptoRow : OpenClaim := { program := "ytcempbgbdlmjfaadoor", sum := "3e839bb8a69521ba872e4a16a50702f5846a76e47ba8cbd9242c45c926d21925", func := "lapwing/lapwinglaw07.PenStays", spec := "penStays", unfollowed := true, recurses := true, named := ["lapwing/pen.switched", "lapwing/pen.unswitched", "lapwing/pen.codes"], apart := false, laid := [("lapwing/pen.switched", laid_lapwing_pen_switched), ("lapwing/pen.unswitched", laid_lapwing_pen_unswitched), ("lapwing/pen.codes", laid_lapwing_pen_codes)], narrowed := true }
def PenStaysUptoSaid : Prop := penStaysUptoRow.holds Tryd.pinned (OpenSpec.upto penStaysSpec)

/-- 'lapwinglaw05.ParamsStays', WHERE WHAT IT READS IS OF BULK AT MOST 1048576: true; the input reads as it did. -/
def paramsStaysUptoRow : OpenClaim := { program := "ytcempbgbdlmjfaadoor", sum := "3e839bb8a69521ba872e4a16a50702f5846a76e47ba8cbd9242c45c926d21925", func := "lapwing/lapwinglaw05.ParamsStays", spec := "paramsStays", unfollowed := true, recurses := true, named := ["internal/strconv.uint64pow10", "math/bits.deBruijn32tab", "math/bits.deBruijn64tab"], apart := false, laid := [("math/bits.deBruijn32tab", laid_math_bits_deBruijn32tab), ("math/bits.deBruijn64tab", laid_math_bits_deBruijn64tab), ("internal/strconv.uint64pow10", laid_internal_strconv_uint64pow10)], narrowed := true }
def ParamsStaysUptoSaid : Prop := paramsStaysUptoRow.holds Tryd.pinned (OpenSpec.upto paramsStaysSpec)

/-- 'lapwinglaw05.ParamsBack', WHERE WHAT IT READS IS OF BULK AT MOST 1048576: true; the input reads as it did. -/
def paramsBackUptoRow : OpenClaim := { program := "ytcempbgbdlmjfaadoor", sum := "3e839bb8a69521ba872e4a16a50702f5846a76e47ba8cbd9242c45c926d21925", func := "lapwing/lapwinglaw05.ParamsBack", spec := "paramsBack", inPlace := ["internal/abi.NoEscape"], unfollowed := true, recurses := true, named := ["internal/strconv.uint64pow10", "math/bits.deBruijn32tab", "math/bits.deBruijn64tab"], apart := false, laid := [("math/bits.deBruijn32tab", laid_math_bits_deBruijn32tab), ("math/bits.deBruijn64tab", laid_math_bits_deBruijn64tab), ("internal/strconv.uint64pow10", laid_internal_strconv_uint64pow10)], narrowed := true }
def ParamsBackUptoSaid : Prop := paramsBackUptoRow.holds Tryd.pinned (OpenSpec.upto paramsBackSpec)

/-- 'lapwinglaw22.MouseQuiet', WHERE WHAT IT READS IS OF BULK AT MOST 1048576: true; the input reads as it did. -/
def mouseQuietUptoRow : OpenClaim := { program := "ytcempbgbdlmjfaadoor", sum := "3e839bb8a69521ba872e4a16a50702f5846a76e47ba8cbd9242c45c926d21925", func := "lapwing/lapwinglaw22.MouseQuiet", spec := "mouseQuiet", inPlace := ["math.Float64frombits"], named := ["lapwing/modes.table", "internal/strconv.uint64pow10", "math/bits.deBruijn32tab", "math/bits.deBruijn64tab"], apart := false, laid := [("lapwing/modes.table", laid_lapwing_modes_table), ("math/bits.deBruijn32tab", laid_math_bits_deBruijn32tab), ("math/bits.deBruijn64tab", laid_math_bits_deBruijn64tab), ("internal/strconv.uint64pow10", laid_internal_strconv_uint64pow10)], narrowed := true }
def MouseQuietUptoSaid : Prop := mouseQuietUptoRow.holds Tryd.pinned (OpenSpec.upto mouseQuietSpec)

/-- 'lapwinglaw22.MousePlace', WHERE WHAT IT READS IS OF BULK AT MOST 1048576: true; the input reads as it did. -/
def mousePlaceUptoRow : OpenClaim := { program := "ytcempbgbdlmjfaadoor", sum := "3e839bb8a69521ba872e4a16a50702f5846a76e47ba8cbd9242c45c926d21925", func := "lapwing/lapwinglaw22.MousePlace", spec := "mousePlace", inPlace := ["math.Float64frombits"], named := ["lapwing/modes.table", "internal/strconv.uint64pow10", "math/bits.deBruijn32tab", "math/bits.deBruijn64tab"], apart := false, laid := [("lapwing/modes.table", laid_lapwing_modes_table), ("math/bits.deBruijn32tab", laid_math_bits_deBruijn32tab), ("math/bits.deBruijn64tab", laid_math_bits_deBruijn64tab), ("internal/strconv.uint64pow10", laid_internal_strconv_uint64pow10)], narrowed := true }
def MousePlaceUptoSaid : Prop := mousePlaceUptoRow.holds Tryd.pinned (OpenSpec.upto mousePlaceSpec)

/-- 'lapwinglaw06.ParseCuts', WHERE WHAT IT READS IS OF BULK AT MOST 1048576: true; the input reads as it did. -/
def parseCutsUptoRow : OpenClaim := { program := "ytcempbgbdlmjfaadoor", sum := "3e839bb8a69521ba872e4a16a50702f5846a76e47ba8cbd9242c45c926d21925", func := "lapwing/lapwinglaw06.ParseCuts", spec := "parseCuts", inPlace := ["internal/abi.NoEscape"], named := ["internal/strconv.uint64pow10", "math/bits.deBruijn32tab", "math/bits.deBruijn64tab"], apart := false, laid := [("math/bits.deBruijn32tab", laid_math_bits_deBruijn32tab), ("math/bits.deBruijn64tab", laid_math_bits_deBruijn64tab), ("internal/strconv.uint64pow10", laid_internal_strconv_uint64pow10)], narrowed := true }
def ParseCutsUptoSaid : Prop := parseCutsUptoRow.holds Tryd.pinned (OpenSpec.upto parseCutsSpec)

/-- 'lapwinglaw06.ParseGround', WHERE WHAT IT READS IS OF BULK AT MOST 1048576: true; the input reads as it did. -/
def parseGroundUptoRow : OpenClaim := { program := "ytcempbgbdlmjfaadoor", sum := "3e839bb8a69521ba872e4a16a50702f5846a76e47ba8cbd9242c45c926d21925", func := "lapwing/lapwinglaw06.ParseGround", spec := "parseGround", inPlace := ["internal/abi.NoEscape"], named := ["internal/strconv.uint64pow10", "math/bits.deBruijn32tab", "math/bits.deBruijn64tab"], apart := false, laid := [("math/bits.deBruijn32tab", laid_math_bits_deBruijn32tab), ("math/bits.deBruijn64tab", laid_math_bits_deBruijn64tab), ("internal/strconv.uint64pow10", laid_internal_strconv_uint64pow10)], narrowed := true }
def ParseGroundUptoSaid : Prop := parseGroundUptoRow.holds Tryd.pinned (OpenSpec.upto parseGroundSpec)

/-- 'lapwinglaw06.ParseText', WHERE WHAT IT READS IS OF BULK AT MOST 1048576: true; the input reads as it did. -/
def parseTextUptoRow : OpenClaim := { program := "ytcempbgbdlmjfaadoor", sum := "3e839bb8a69521ba872e4a16a50702f5846a76e47ba8cbd9242c45c926d21925", func := "lapwing/lapwinglaw06.ParseText", spec := "parseText", inPlace := ["internal/abi.NoEscape"], named := ["internal/strconv.uint64pow10", "math/bits.deBruijn32tab", "math/bits.deBruijn64tab"], apart := false, laid := [("math/bits.deBruijn32tab", laid_math_bits_deBruijn32tab), ("math/bits.deBruijn64tab", laid_math_bits_deBruijn64tab), ("internal/strconv.uint64pow10", laid_internal_strconv_uint64pow10)], narrowed := true }
def ParseTextUptoSaid : Prop := parseTextUptoRow.holds Tryd.pinned (OpenSpec.upto parseTextSpec)

/-- 'lapwinglaw06.ParseFew', WHERE WHAT IT READS IS OF BULK AT MOST 1048576: true; the input reads as it did. -/
def parseFewUptoRow : OpenClaim := { program := "ytcempbgbdlmjfaadoor", sum := "3e839bb8a69521ba872e4a16a50702f5846a76e47ba8cbd9242c45c926d21925", func := "lapwing/lapwinglaw06.ParseFew", spec := "parseFew", inPlace := ["internal/abi.NoEscape"], named := ["internal/strconv.uint64pow10", "math/bits.deBruijn32tab", "math/bits.deBruijn64tab"], apart := false, laid := [("math/bits.deBruijn32tab", laid_math_bits_deBruijn32tab), ("math/bits.deBruijn64tab", laid_math_bits_deBruijn64tab), ("internal/strconv.uint64pow10", laid_internal_strconv_uint64pow10)], narrowed := true }
def ParseFewUptoSaid : Prop := parseFewUptoRow.holds Tryd.pinned (OpenSpec.upto parseFewSpec)

/-- 'lapwinglaw06.ParseCsi', WHERE WHAT IT READS IS OF BULK AT MOST 1048576: true; the input reads as it did. -/
def parseCsiUptoRow : OpenClaim := { program := "ytcempbgbdlmjfaadoor", sum := "3e839bb8a69521ba872e4a16a50702f5846a76e47ba8cbd9242c45c926d21925", func := "lapwing/lapwinglaw06.ParseCsi", spec := "parseCsi", inPlace := ["internal/abi.NoEscape"], unfollowed := true, recurses := true, named := ["internal/strconv.uint64pow10", "math/bits.deBruijn32tab", "math/bits.deBruijn64tab"], apart := false, laid := [("math/bits.deBruijn32tab", laid_math_bits_deBruijn32tab), ("math/bits.deBruijn64tab", laid_math_bits_deBruijn64tab), ("internal/strconv.uint64pow10", laid_internal_strconv_uint64pow10)], narrowed := true }
def ParseCsiUptoSaid : Prop := parseCsiUptoRow.holds Tryd.pinned (OpenSpec.upto parseCsiSpec)

/-- 'lapwinglaw22.MouseTells', WHERE WHAT IT READS IS OF BULK AT MOST 1048576: true; the input reads as it did. -/
def mouseTellsUptoRow : OpenClaim := { program := "ytcempbgbdlmjfaadoor", sum := "3e839bb8a69521ba872e4a16a50702f5846a76e47ba8cbd9242c45c926d21925", func := "lapwing/lapwinglaw22.MouseTells", spec := "mouseTells", inPlace := ["math.Float64frombits"], named := ["lapwing/modes.table", "internal/strconv.uint64pow10", "math/bits.deBruijn32tab", "math/bits.deBruijn64tab"], apart := false, laid := [("lapwing/modes.table", laid_lapwing_modes_table), ("math/bits.deBruijn32tab", laid_math_bits_deBruijn32tab), ("math/bits.deBruijn64tab", laid_math_bits_deBruijn64tab), ("internal/strconv.uint64pow10", laid_internal_strconv_uint64pow10)], narrowed := true }
def MouseTellsUptoSaid : Prop := mouseTellsUptoRow.holds Tryd.pinned (OpenSpec.upto mouseTellsSpec)

end Rows
end Go.Proofs.YtcempbgbdlmjfaaDoor
