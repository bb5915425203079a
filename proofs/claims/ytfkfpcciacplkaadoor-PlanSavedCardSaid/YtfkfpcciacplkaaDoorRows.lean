/-
  NARROWER THAN 'FOR EVERY INPUT', by the rows' own cells (each row's printed sentence says how): TraceTells: laid · TraceFewer: laid · TraceBegins: laid · TraceLongest: laid · TraceModels: laid · ValidMore: laid · ValidWrong: laid · ValidNought: laid · PlanSaved: laid.
  DERIVED. THE GIVEN ROWS OF THIS SEAT. 9 by the template 'for every input the law returns true; each argument reads behind the call as it read before'; 0 by the template 'total and deterministic' (their statements: YtfkfpcciacplkaaDoorTotals.lean).
  GIVEN WITH THE SEED: the statements are not yours to turn. If you find one false, say at which input.
  Laid BY PROGRAM, IN A SANDBOX (cutbox-rows.mjs): the forced cells as the released guide's own fill.sh prints them over the translation b1e63e42ec0f9ffc… (all of the seat's roots in one cut). By AI agents, Wed Nov 11 2026. No macro, syntax, notation, axiom, sorry.
-/
import Derived.Test.YtfkfpcciacplkaaDoorChecked
import GoSem.Claim
import GoSem.ClaimJoined
import GoSem.ClaimMapViews
import Derived.JoinedTies
import Derived.KernelRfl
namespace Go.Proofs.YtfkfpcciacplkaaDoor
/- THE CELL 'sum', in the pinned program and in every row, IS THE sha256 OF THE DUMP (.gsa) THAT YtfkfpcciacplkaaDoorProg.lean LOADS. Nothing in Lean hashes anything: it is a label: what it is worth is what the hold of that sum in a sandbox is worth. -/
noncomputable def Tryd.pinned : Pinned := { name := "ytfkfpcciacplkaadoor", sum := "b1e63e42ec0f9ffc3121c3ae462e1c5f12993580c0c67fdf64a6f54b7f3cb0fe", checked := Tryd.checked }
namespace Rows
def none {H : Type} : Left H := { results := [], args := [] }

/- WHAT THE LISTED PACKAGE-LEVEL VARIABLES READ AS WHEN THE CALL BEGINS. Each datum BY PROGRAM (the guide's laid-datum.mjs) off the statement by which the dump's own 'gosem.cut.vars' lays the variable. In a bare row this is a premise. The card (YtfkfpcciacplkaaDoorCards.lean) ties it to the program's text. -/
def laid_lockstitch_code_ops {H : Type} : DataW H := .agg [.agg [.lit (.string []), .lit (.string [])], .agg [.lit (.string [115, 101, 116]), .lit (.string [97, 110])], .agg [.lit (.string [97, 100, 100]), .lit (.string [97, 98, 99])], .agg [.lit (.string [106, 117, 109, 112]), .lit (.string [110])], .agg [.lit (.string [122, 101, 114, 111]), .lit (.string [97, 110])], .agg [.lit (.string [110, 101, 119]), .lit (.string [97])], .agg [.lit (.string [110, 105, 108]), .lit (.string [97])], .agg [.lit (.string [109, 111, 118, 101]), .lit (.string [97, 98])], .agg [.lit (.string [108, 111, 97, 100, 105]), .lit (.string [97, 98, 110])], .agg [.lit (.string [115, 116, 111, 114, 101, 105]), .lit (.string [97, 110, 98])], .agg [.lit (.string [108, 111, 97, 100, 112]), .lit (.string [97, 98, 110])], .agg [.lit (.string [115, 116, 111, 114, 101, 112]), .lit (.string [97, 110, 98])], .agg [.lit (.string [108, 111, 97, 100, 103]), .lit (.string [97, 98])], .agg [.lit (.string [115, 116, 111, 114, 101, 103]), .lit (.string [97, 98])], .agg [.lit (.string [112, 114, 105, 110, 116]), .lit (.string [97])], .agg [.lit (.string [115, 97, 109, 101]), .lit (.string [97, 98, 99])]]
def laid_math_bits_deBruijn32tab {H : Type} : DataW H := .agg [.lit (.int .u8 0), .lit (.int .u8 1), .lit (.int .u8 28), .lit (.int .u8 2), .lit (.int .u8 29), .lit (.int .u8 14), .lit (.int .u8 24), .lit (.int .u8 3), .lit (.int .u8 30), .lit (.int .u8 22), .lit (.int .u8 20), .lit (.int .u8 15), .lit (.int .u8 25), .lit (.int .u8 17), .lit (.int .u8 4), .lit (.int .u8 8), .lit (.int .u8 31), .lit (.int .u8 27), .lit (.int .u8 13), .lit (.int .u8 23), .lit (.int .u8 21), .lit (.int .u8 19), .lit (.int .u8 16), .lit (.int .u8 7), .lit (.int .u8 26), .lit (.int .u8 12), .lit (.int .u8 18), .lit (.int .u8 6), .lit (.int .u8 11), .lit (.int .u8 5), .lit (.int .u8 10), .lit (.int .u8 9)]
def laid_math_bits_deBruijn64tab {H : Type} : DataW H := .agg [.lit (.int .u8 0), .lit (.int .u8 1), .lit (.int .u8 56), .lit (.int .u8 2), .lit (.int .u8 57), .lit (.int .u8 49), .lit (.int .u8 28), .lit (.int .u8 3), .lit (.int .u8 61), .lit (.int .u8 58), .lit (.int .u8 42), .lit (.int .u8 50), .lit (.int .u8 38), .lit (.int .u8 29), .lit (.int .u8 17), .lit (.int .u8 4), .lit (.int .u8 62), .lit (.int .u8 47), .lit (.int .u8 59), .lit (.int .u8 36), .lit (.int .u8 45), .lit (.int .u8 43), .lit (.int .u8 51), .lit (.int .u8 22), .lit (.int .u8 53), .lit (.int .u8 39), .lit (.int .u8 33), .lit (.int .u8 30), .lit (.int .u8 24), .lit (.int .u8 18), .lit (.int .u8 12), .lit (.int .u8 5), .lit (.int .u8 63), .lit (.int .u8 55), .lit (.int .u8 48), .lit (.int .u8 27), .lit (.int .u8 60), .lit (.int .u8 41), .lit (.int .u8 37), .lit (.int .u8 16), .lit (.int .u8 46), .lit (.int .u8 35), .lit (.int .u8 44), .lit (.int .u8 21), .lit (.int .u8 52), .lit (.int .u8 32), .lit (.int .u8 23), .lit (.int .u8 11), .lit (.int .u8 54), .lit (.int .u8 26), .lit (.int .u8 40), .lit (.int .u8 15), .lit (.int .u8 34), .lit (.int .u8 20), .lit (.int .u8 31), .lit (.int .u8 10), .lit (.int .u8 25), .lit (.int .u8 14), .lit (.int .u8 19), .lit (.int .u8 9), .lit (.int .u8 13), .lit (.int .u8 8), .lit (.int .u8 7), .lit (.int .u8 6)]
def laid_internal_strconv_uint64pow10 {H : Type} : DataW H := .agg [.lit (.int .u64 1), .lit (.int .u64 10), .lit (.int .u64 100), .lit (.int .u64 1000), .lit (.int .u64 10000), .lit (.int .u64 100000), .lit (.int .u64 1000000), .lit (.int .u64 10000000), .lit (.int .u64 100000000), .lit (.int .u64 1000000000), .lit (.int .u64 10000000000), .lit (.int .u64 100000000000), .lit (.int .u64 1000000000000), .lit (.int .u64 10000000000000), .lit (.int .u64 100000000000000), .lit (.int .u64 1000000000000000), .lit (.int .u64 10000000000000000), .lit (.int .u64 100000000000000000), .lit (.int .u64 1000000000000000000), .lit (.int .u64 10000000000000000000)]

/-- 'lockstitchlaw22.TraceTells': WHATEVER THE INPUT: true; the input reads as it did. -/
def traceTellsSpec : ChangeSpec := { name := "traceTells", fn := fun _ => fun
  | [d1, d2, d3] => { results := [.lit (.bool true)], args := [d1, d2, d3] }
  | _ => none }
def traceTellsRow : OpenClaim := { program := "ytfkfpcciacplkaadoor", sum := "b1e63e42ec0f9ffc3121c3ae462e1c5f12993580c0c67fdf64a6f54b7f3cb0fe", func := "lockstitch/lockstitchlaw22.TraceTells", spec := "traceTells", inPlace := ["internal/bytealg.IndexByteString", "internal/bytealg.IndexString"], unfollowed := true, recurses := true, named := ["lockstitch/code.ops", "internal/bytealg.MaxLen"], apart := false, laid := [("lockstitch/code.ops", laid_lockstitch_code_ops)] }
def TraceTellsSaid : Prop := traceTellsRow.holds Tryd.pinned (OpenSpec.ofChange traceTellsSpec)

/-- ITS FALSE NEIGHBOUR: 'it returns false'. Refute it at one input. -/
def traceTellsWrong : ChangeSpec := { name := "traceTells", fn := fun _ => fun
  | [d1, d2, d3] => { results := [.lit (.bool false)], args := [d1, d2, d3] }
  | _ => none }
def TraceTellsWrongFalsely : Prop := traceTellsRow.holds Tryd.pinned (OpenSpec.ofChange traceTellsWrong)

/-- 'lockstitchlaw22.TraceFewer': WHATEVER THE INPUT: true; the input reads as it did. -/
def traceFewerSpec : ChangeSpec := { name := "traceFewer", fn := fun _ => fun
  | [d1, d2] => { results := [.lit (.bool true)], args := [d1, d2] }
  | _ => none }
def traceFewerRow : OpenClaim := { program := "ytfkfpcciacplkaadoor", sum := "b1e63e42ec0f9ffc3121c3ae462e1c5f12993580c0c67fdf64a6f54b7f3cb0fe", func := "lockstitch/lockstitchlaw22.TraceFewer", spec := "traceFewer", inPlace := ["internal/bytealg.IndexByteString", "internal/bytealg.IndexString"], unfollowed := true, recurses := true, named := ["lockstitch/code.ops", "internal/bytealg.MaxLen"], apart := false, laid := [("lockstitch/code.ops", laid_lockstitch_code_ops)] }
def TraceFewerSaid : Prop := traceFewerRow.holds Tryd.pinned (OpenSpec.ofChange traceFewerSpec)

/-- ITS FALSE NEIGHBOUR: 'it returns false'. Refute it at one input. -/
def traceFewerWrong : ChangeSpec := { name := "traceFewer", fn := fun _ => fun
  | [d1, d2] => { results := [.lit (.bool false)], args := [d1, d2] }
  | _ => none }
def TraceFewerWrongFalsely : Prop := traceFewerRow.holds Tryd.pinned (OpenSpec.ofChange traceFewerWrong)

/-- 'lockstitchlaw22.TraceBegins': WHATEVER THE INPUT: true; the input reads as it did. -/
def traceBeginsSpec : ChangeSpec := { name := "traceBegins", fn := fun _ => fun
  | [d1, d2, d3] => { results := [.lit (.bool true)], args := [d1, d2, d3] }
  | _ => none }
def traceBeginsRow : OpenClaim := { program := "ytfkfpcciacplkaadoor", sum := "b1e63e42ec0f9ffc3121c3ae462e1c5f12993580c0c67fdf64a6f54b7f3cb0fe", func := "lockstitch/lockstitchlaw22.TraceBegins", spec := "traceBegins", inPlace := ["internal/bytealg.IndexByteString", "internal/bytealg.IndexString"], unfollowed := true, recurses := true, named := ["lockstitch/code.ops", "internal/bytealg.MaxLen"], apart := false, laid := [("lockstitch/code.ops", laid_lockstitch_code_ops)] }
def TraceBeginsSaid : Prop := traceBeginsRow.holds Tryd.pinned (OpenSpec.ofChange traceBeginsSpec)

/-- ITS FALSE NEIGHBOUR: 'it returns false'. Refute it at one input. -/
def traceBeginsWrong : ChangeSpec := { name := "traceBegins", fn := fun _ => fun
  | [d1, d2, d3] => { results := [.lit (.bool false)], args := [d1, d2, d3] }
  | _ => none }
def TraceBeginsWrongFalsely : Prop := traceBeginsRow.holds Tryd.pinned (OpenSpec.ofChange traceBeginsWrong)

/-- 'lockstitchlaw22.TraceLongest': WHATEVER THE INPUT: true; the input reads as it did. -/
def traceLongestSpec : ChangeSpec := { name := "traceLongest", fn := fun _ => fun
  | [d] => { results := [.lit (.bool true)], args := [d] }
  | _ => none }
def traceLongestRow : OpenClaim := { program := "ytfkfpcciacplkaadoor", sum := "b1e63e42ec0f9ffc3121c3ae462e1c5f12993580c0c67fdf64a6f54b7f3cb0fe", func := "lockstitch/lockstitchlaw22.TraceLongest", spec := "traceLongest", inPlace := ["internal/bytealg.IndexByteString", "internal/bytealg.IndexString"], unfollowed := true, recurses := true, named := ["lockstitch/code.ops", "internal/bytealg.MaxLen"], apart := false, laid := [("lockstitch/code.ops", laid_lockstitch_code_ops)] }
def TraceLongestSaid : Prop := traceLongestRow.holds Tryd.pinned (OpenSpec.ofChange traceLongestSpec)

/-- ITS FALSE NEIGHBOUR: 'it returns false'. Refute it at one input. -/
def traceLongestWrong : ChangeSpec := { name := "traceLongest", fn := fun _ => fun
  | [d] => { results := [.lit (.bool false)], args := [d] }
  | _ => none }
def TraceLongestWrongFalsely : Prop := traceLongestRow.holds Tryd.pinned (OpenSpec.ofChange traceLongestWrong)

/-- 'lockstitchlaw22.TraceModels': WHATEVER THE INPUT: true; the input reads as it did. -/
def traceModelsSpec : ChangeSpec := { name := "traceModels", fn := fun _ => fun
  | [d1, d2] => { results := [.lit (.bool true)], args := [d1, d2] }
  | _ => none }
def traceModelsRow : OpenClaim := { program := "ytfkfpcciacplkaadoor", sum := "b1e63e42ec0f9ffc3121c3ae462e1c5f12993580c0c67fdf64a6f54b7f3cb0fe", func := "lockstitch/lockstitchlaw22.TraceModels", spec := "traceModels", inPlace := ["internal/bytealg.IndexByteString", "internal/bytealg.IndexString"], unfollowed := true, recurses := true, named := ["lockstitch/code.ops", "internal/bytealg.MaxLen", "internal/strconv.uint64pow10", "math/bits.deBruijn32tab", "math/bits.deBruijn64tab"], apart := false, laid := [("math/bits.deBruijn32tab", laid_math_bits_deBruijn32tab), ("math/bits.deBruijn64tab", laid_math_bits_deBruijn64tab), ("internal/strconv.uint64pow10", laid_internal_strconv_uint64pow10), ("lockstitch/code.ops", laid_lockstitch_code_ops)] }
def TraceModelsSaid : Prop := traceModelsRow.holds Tryd.pinned (OpenSpec.ofChange traceModelsSpec)

/-- ITS FALSE NEIGHBOUR: 'it returns false'. Refute it at one input. -/
def traceModelsWrong : ChangeSpec := { name := "traceModels", fn := fun _ => fun
  | [d1, d2] => { results := [.lit (.bool false)], args := [d1, d2] }
  | _ => none }
def TraceModelsWrongFalsely : Prop := traceModelsRow.holds Tryd.pinned (OpenSpec.ofChange traceModelsWrong)

/-- 'lockstitchlaw20.ValidMore': WHATEVER THE INPUT: true; the input reads as it did. -/
def validMoreSpec : ChangeSpec := { name := "validMore", fn := fun _ => fun
  | [d] => { results := [.lit (.bool true)], args := [d] }
  | _ => none }
def validMoreRow : OpenClaim := { program := "ytfkfpcciacplkaadoor", sum := "b1e63e42ec0f9ffc3121c3ae462e1c5f12993580c0c67fdf64a6f54b7f3cb0fe", func := "lockstitch/lockstitchlaw20.ValidMore", spec := "validMore", inPlace := ["internal/bytealg.IndexByteString", "internal/bytealg.IndexString"], unfollowed := true, recurses := true, named := ["lockstitch/code.ops", "internal/bytealg.MaxLen", "internal/strconv.uint64pow10", "math/bits.deBruijn32tab", "math/bits.deBruijn64tab"], apart := false, laid := [("math/bits.deBruijn32tab", laid_math_bits_deBruijn32tab), ("math/bits.deBruijn64tab", laid_math_bits_deBruijn64tab), ("internal/strconv.uint64pow10", laid_internal_strconv_uint64pow10), ("lockstitch/code.ops", laid_lockstitch_code_ops)] }
def ValidMoreSaid : Prop := validMoreRow.holds Tryd.pinned (OpenSpec.ofChange validMoreSpec)

/-- ITS FALSE NEIGHBOUR: 'it returns false'. Refute it at one input. -/
def validMoreWrong : ChangeSpec := { name := "validMore", fn := fun _ => fun
  | [d] => { results := [.lit (.bool false)], args := [d] }
  | _ => none }
def ValidMoreWrongFalsely : Prop := validMoreRow.holds Tryd.pinned (OpenSpec.ofChange validMoreWrong)

/-- 'lockstitchlaw20.ValidWrong': WHATEVER THE INPUT: true; the input reads as it did. -/
def validWrongSpec : ChangeSpec := { name := "validWrong", fn := fun _ => fun
  | [d1, d2, d3] => { results := [.lit (.bool true)], args := [d1, d2, d3] }
  | _ => none }
def validWrongRow : OpenClaim := { program := "ytfkfpcciacplkaadoor", sum := "b1e63e42ec0f9ffc3121c3ae462e1c5f12993580c0c67fdf64a6f54b7f3cb0fe", func := "lockstitch/lockstitchlaw20.ValidWrong", spec := "validWrong", inPlace := ["internal/bytealg.IndexByteString", "internal/bytealg.IndexString"], unfollowed := true, recurses := true, named := ["lockstitch/code.ops", "internal/bytealg.MaxLen", "internal/strconv.uint64pow10", "math/bits.deBruijn32tab", "math/bits.deBruijn64tab"], apart := false, laid := [("math/bits.deBruijn32tab", laid_math_bits_deBruijn32tab), ("math/bits.deBruijn64tab", laid_math_bits_deBruijn64tab), ("internal/strconv.uint64pow10", laid_internal_strconv_uint64pow10), ("lockstitch/code.ops", laid_lockstitch_code_ops)] }
def ValidWrongSaid : Prop := validWrongRow.holds Tryd.pinned (OpenSpec.ofChange validWrongSpec)

/-- ITS FALSE NEIGHBOUR: 'it returns false'. Refute it at one input. -/
def validWrongWrong : ChangeSpec := { name := "validWrong", fn := fun _ => fun
  | [d1, d2, d3] => { results := [.lit (.bool false)], args := [d1, d2, d3] }
  | _ => none }
def ValidWrongWrongFalsely : Prop := validWrongRow.holds Tryd.pinned (OpenSpec.ofChange validWrongWrong)

/-- 'lockstitchlaw20.ValidNought': WHATEVER THE INPUT: true; the input reads as it did. -/
def validNoughtSpec : ChangeSpec := { name := "validNought", fn := fun _ => fun
  | [d1, d2, d3] => { results := [.lit (.bool true)], args := [d1, d2, d3] }
  | _ => none }
def validNoughtRow : OpenClaim := { program := "ytfkfpcciacplkaadoor", sum := "b1e63e42ec0f9ffc3121c3ae462e1c5f12993580c0c67fdf64a6f54b7f3cb0fe", func := "lockstitch/lockstitchlaw20.ValidNought", spec := "validNought", inPlace := ["internal/bytealg.IndexByteString", "internal/bytealg.IndexString"], unfollowed := true, recurses := true, named := ["lockstitch/code.ops", "internal/bytealg.MaxLen", "internal/strconv.uint64pow10", "math/bits.deBruijn32tab", "math/bits.deBruijn64tab"], apart := false, laid := [("math/bits.deBruijn32tab", laid_math_bits_deBruijn32tab), ("math/bits.deBruijn64tab", laid_math_bits_deBruijn64tab), ("internal/strconv.uint64pow10", laid_internal_strconv_uint64pow10), ("lockstitch/code.ops", laid_lockstitch_code_ops)] }
def ValidNoughtSaid : Prop := validNoughtRow.holds Tryd.pinned (OpenSpec.ofChange validNoughtSpec)

/-- ITS FALSE NEIGHBOUR: 'it returns false'. Refute it at one input. -/
def validNoughtWrong : ChangeSpec := { name := "validNought", fn := fun _ => fun
  | [d1, d2, d3] => { results := [.lit (.bool false)], args := [d1, d2, d3] }
  | _ => none }
def ValidNoughtWrongFalsely : Prop := validNoughtRow.holds Tryd.pinned (OpenSpec.ofChange validNoughtWrong)

/-- 'lockstitchlaw12.PlanSaved': WHATEVER THE INPUT: true; the input reads as it did. -/
def planSavedSpec : ChangeSpec := { name := "planSaved", fn := fun _ => fun
  | [d1, d2] => { results := [.lit (.bool true)], args := [d1, d2] }
  | _ => none }
def planSavedRow : OpenClaim := { program := "ytfkfpcciacplkaadoor", sum := "b1e63e42ec0f9ffc3121c3ae462e1c5f12993580c0c67fdf64a6f54b7f3cb0fe", func := "lockstitch/lockstitchlaw12.PlanSaved", spec := "planSaved", inPlace := ["internal/bytealg.IndexByteString", "internal/bytealg.IndexString"], unfollowed := true, recurses := true, named := ["lockstitch/code.ops", "internal/bytealg.MaxLen"], apart := false, laid := [("lockstitch/code.ops", laid_lockstitch_code_ops)] }
def PlanSavedSaid : Prop := planSavedRow.holds Tryd.pinned (OpenSpec.ofChange planSavedSpec)

/-- ITS FALSE NEIGHBOUR: 'it returns false'. Refute it at one input. -/
def planSavedWrong : ChangeSpec := { name := "planSaved", fn := fun _ => fun
  | [d1, d2] => { results := [.lit (.bool false)], args := [d1, d2] }
  | _ => none }
def PlanSavedWrongFalsely : Prop := planSavedRow.holds Tryd.pinned (OpenSpec.ofChange planSavedWrong)

/- THE SECOND FORM. 'bulk': how many values and letters a reading holds, each counted each time it is reached (what is shared counts as often as it is met; a slice's spare places count too). A statement '..UptoSaid' is the law's where the arguments, and the package variables that the reading takes, are together of bulk at most 1048576: NARROWER than '..Said'. Prove '..Said' where nothing that the law and all that it calls make is longer than what came in: it says more and counts as full. Else prove '..UptoSaid'. A law counts once. -/
mutual
def uptoBulk {H : Type} : DataW H → Nat
  | .lit (.string bytes) => bytes.length + 1
  | .lit _ => 1
  | .nil => 1
  | .ptr d => uptoBulk d + 1
  | .slice elems spare => uptoBulkAll elems + uptoBulkAll spare + 1
  | .agg parts => uptoBulkAll parts + 1
  | .iface _ d => uptoBulk d + 1
  | .map entries => uptoBulkEntries entries + 1
  | .held _ => 1
def uptoBulkAll {H : Type} : List (DataW H) → Nat
  | [] => 0
  | d :: r => uptoBulk d + uptoBulkAll r
def uptoBulkEntries {H : Type} : List (Lit × DataW H) → Nat
  | [] => 0
  | x :: r => uptoBulkEntry x + uptoBulkEntries r
def uptoBulkEntry {H : Type} : Lit × DataW H → Nat
  | (.string bytes, d) => bytes.length + uptoBulk d + 1
  | (_, d) => uptoBulk d + 1
 end
def uptoSmall : (H : Type) → List (DataW H) → Bool := fun _ ds => decide (uptoBulkAll ds ≤ 1048576)
def OpenSpec.upto (s : _root_.Go.ChangeSpec) : _root_.Go.OpenSpec := { _root_.Go.OpenSpec.ofChange s with cond := some uptoSmall }

/-- 'lockstitchlaw22.TraceTells', WHERE WHAT IT READS IS OF BULK AT MOST 1048576: true; the input reads as it did. -/
def traceTellsUptoRow : OpenClaim := { program := "ytfkfpcciacplkaadoor", sum := "b1e63e42ec0f9ffc3121c3ae462e1c5f12993580c0c67fdf64a6f54b7f3cb0fe", func := "lockstitch/lockstitchlaw22.TraceTells", spec := "traceTells", inPlace := ["internal/bytealg.IndexByteString", "internal/bytealg.IndexString"], unfollowed := true, recurses := true, named := ["lockstitch/code.ops", "internal/bytealg.MaxLen"], apart := false, laid := [("lockstitch/code.ops", laid_lockstitch_code_ops)], narrowed := true }
def TraceTellsUptoSaid : Prop := traceTellsUptoRow.holds Tryd.pinned (OpenSpec.upto traceTellsSpec)

/-- 'lockstitchlaw22.TraceFewer', WHERE WHAT IT READS IS OF BULK AT MOST 1048576: true; the input reads as it did. -/
def traceFewerUptoRow : OpenClaim := { program := "ytfkfpcciacplkaadoor", sum := "b1e63e42ec0f9ffc3121c3ae462e1c5f12993580c0c67fdf64a6f54b7f3cb0fe", func := "lockstitch/lockstitchlaw22.TraceFewer", spec := "traceFewer", inPlace := ["internal/bytealg.IndexByteString", "internal/bytealg.IndexString"], unfollowed := true, recurses := true, named := ["lockstitch/code.ops", "internal/bytealg.MaxLen"], apart := false, laid := [("lockstitch/code.ops", laid_lockstitch_code_ops)], narrowed := true }
def TraceFewerUptoSaid : Prop := traceFewerUptoRow.holds Tryd.pinned (OpenSpec.upto traceFewerSpec)

/-- 'lockstitchlaw22.TraceBegins', WHERE WHAT IT READS IS OF BULK AT MOST 1048576: true; the input reads as it did. -/
def traceBeginsUptoRow : OpenClaim := { program := "ytfkfpcciacplkaadoor", sum := "b1e63e42ec0f9ffc3121c3ae462e1c5f12993580c0c67fdf64a6f54b7f3cb0fe", func := "lockstitch/lockstitchlaw22.TraceBegins", spec := "traceBegins", inPlace := ["internal/bytealg.IndexByteString", "internal/bytealg.IndexString"], unfollowed := true, recurses := true, named := ["lockstitch/code.ops", "internal/bytealg.MaxLen"], apart := false, laid := [("lockstitch/code.ops", laid_lockstitch_code_ops)], narrowed := true }
def TraceBeginsUptoSaid : Prop := traceBeginsUptoRow.holds Tryd.pinned (OpenSpec.upto traceBeginsSpec)

/-- 'lockstitchlaw22.TraceLongest', WHERE WHAT IT READS IS OF BULK AT MOST 1048576: true; the input reads as it did. -/
def traceLongestUptoRow : OpenClaim := { program := "ytfkfpcciacplkaadoor", sum := "b1e63e42ec0f9ffc3121c3ae462e1c5f12993580c0c67fdf64a6f54b7f3cb0fe", func := "lockstitch/lockstitchlaw22.TraceLongest", spec := "traceLongest", inPlace := ["internal/bytealg.IndexByteString", "internal/bytealg.IndexString"], unfollowed := true, recurses := true, named := ["lockstitch/code.ops", "internal/bytealg.MaxLen"], apart := false, laid := [("lockstitch/code.ops", laid_lockstitch_code_ops)], narrowed := true }
def TraceLongestUptoSaid : Prop := traceLongestUptoRow.holds Tryd.pinned (OpenSpec.upto traceLongestSpec)

/-- 'lockstitchlaw22.TraceModels', WHERE WHAT IT READS IS OF BULK AT MOST 1048576: true; the input reads as it did. -/
def traceModelsUptoRow : OpenClaim := { program := "ytfkfpcciacplkaadoor", sum := "b1e63e42ec0f9ffc3121c3ae462e1c5f12993580c0c67fdf64a6f54b7f3cb0fe", func := "lockstitch/lockstitchlaw22.TraceModels", spec := "traceModels", inPlace := ["internal/bytealg.IndexByteString", "internal/bytealg.IndexString"], unfollowed := true, recurses := true, named := ["lockstitch/code.ops", "internal/bytealg.MaxLen", "internal/strconv.uint64pow10", "math/bits.deBruijn32tab", "math/bits.deBruijn64tab"], apart := false, laid := [("math/bits.deBruijn32tab", laid_math_bits_deBruijn32tab), ("math/bits.deBruijn64tab", laid_math_bits_deBruijn64tab), ("internal/strconv.uint64pow10", laid_internal_strconv_uint64pow10), ("lockstitch/code.ops", laid_lockstitch_code_ops)], narrowed := true }
def TraceModelsUptoSaid : Prop := traceModelsUptoRow.holds Tryd.pinned (OpenSpec.upto traceModelsSpec)

/-- 'lockstitchlaw20.ValidMore', WHERE WHAT IT READS IS OF BULK AT MOST 1048576: true; the input reads as it did. -/
def validMoreUptoRow : OpenClaim := { program := "ytfkfpcciacplkaadoor", sum := "b1e63e42ec0f9ffc3121c3ae462e1c5f12993580c0c67fdf64a6f54b7f3cb0fe", func := "lockstitch/lockstitchlaw20.ValidMore", spec := "validMore", inPlace := ["internal/bytealg.IndexByteString", "internal/bytealg.IndexString"], unfollowed := true, recurses := true, named := ["lockstitch/code.ops", "internal/bytealg.MaxLen", "internal/strconv.uint64pow10", "math/bits.deBruijn32tab", "math/bits.deBruijn64tab"], apart := false, laid := [("math/bits.deBruijn32tab", laid_math_bits_deBruijn32tab), ("math/bits.deBruijn64tab", laid_math_bits_deBruijn64tab), ("internal/strconv.uint64pow10", laid_internal_strconv_uint64pow10), ("lockstitch/code.ops", laid_lockstitch_code_ops)], narrowed := true }
def ValidMoreUptoSaid : Prop := validMoreUptoRow.holds Tryd.pinned (OpenSpec.upto validMoreSpec)

/-- 'lockstitchlaw20.ValidWrong', WHERE WHAT IT READS IS OF BULK AT MOST 1048576: true; the input reads as it did. -/
def validWrongUptoRow : OpenClaim := { program := "ytfkfpcciacplkaadoor", sum := "b1e63e42ec0f9ffc3121c3ae462e1c5f12993580c0c67fdf64a6f54b7f3cb0fe", func := "lockstitch/lockstitchlaw20.ValidWrong", spec := "validWrong", inPlace := ["internal/bytealg.IndexByteString", "internal/bytealg.IndexString"], unfollowed := true, recurses := true, named := ["lockstitch/code.ops", "internal/bytealg.MaxLen", "internal/strconv.uint64pow10", "math/bits.deBruijn32tab", "math/bits.deBruijn64tab"], apart := false, laid := [("math/bits.deBruijn32tab", laid_math_bits_deBruijn32tab), ("math/bits.deBruijn64tab", laid_math_bits_deBruijn64tab), ("internal/strconv.uint64pow10", laid_internal_strconv_uint64pow10), ("lockstitch/code.ops", laid_lockstitch_code_ops)], narrowed := true }
def ValidWrongUptoSaid : Prop := validWrongUptoRow.holds Tryd.pinned (OpenSpec.upto validWrongSpec)

/-- 'lockstitchlaw20.ValidNought', WHERE WHAT IT READS IS OF BULK AT MOST 1048576: true; the input reads as it did. -/
def validNoughtUptoRow : OpenClaim := { program := "ytfkfpcciacplkaadoor", sum := "b1e63e42ec0f9ffc3121c3ae462e1c5f12993580c0c67fdf64a6f54b7f3cb0fe", func := "lockstitch/lockstitchlaw20.ValidNought", spec := "validNought", inPlace := ["internal/bytealg.IndexByteString", "internal/bytealg.IndexString"], unfollowed := true, recurses := true, named := ["lockstitch/code.ops", "internal/bytealg.MaxLen", "internal/strconv.uint64pow10", "math/bits.deBruijn32tab", "math/bits.deBruijn64tab"], apart := false, laid := [("math/bits.deBruijn32tab", laid_math_bits_deBruijn32tab), ("math/bits.deBruijn64tab", laid_math_bits_deBruijn64tab), ("internal/strconv.uint64pow10", laid_internal_strconv_uint64pow10), ("lockstitch/code.ops", laid_lockstitch_code_ops)], narrowed := true }
def ValidNoughtUptoSaid : Prop := validNoughtUptoRow.holds Tryd.pinned (OpenSpec.upto validNoughtSpec)

/-- 'lockstitchlaw12.PlanSaved', WHERE WHAT IT READS IS OF BULK AT MOST 1048576: true; the input reads as it did. -/
def planSavedUptoRow : OpenClaim := { program := "ytfkfpcciacplkaadoor", sum := "b1e63e42ec0f9ffc3121c3ae462e1c5f12993580c0c67fdf64a6f54b7f3cb0fe", func := "lockstitch/lockstitchlaw12.PlanSaved", spec := "planSaved", inPlace := ["internal/bytealg.IndexByteString", "internal/bytealg.IndexString"], unfollowed := true, recurses := true, named := ["lockstitch/code.ops", "internal/bytealg.MaxLen"], apart := false, laid := [("lockstitch/code.ops", laid_lockstitch_code_ops)], narrowed := true }
def PlanSavedUptoSaid : Prop := planSavedUptoRow.holds Tryd.pinned (OpenSpec.upto planSavedSpec)

end Rows
end Go.Proofs.YtfkfpcciacplkaaDoor
