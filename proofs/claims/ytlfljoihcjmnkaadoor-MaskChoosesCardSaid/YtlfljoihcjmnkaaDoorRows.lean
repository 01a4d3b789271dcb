/-
  NARROWER THAN 'FOR EVERY INPUT', by the rows' own cells (each row's printed sentence says how): MaskHall: laid · MaskTells: laid · MaskChooses: laid · MaskFirst: laid · MaskFewer: laid.
  DERIVED. THE GIVEN ROWS OF THIS SEAT. 5 by the template 'for every input the law returns true; each argument reads behind the call as it read before'; 0 by the template 'total and deterministic' (their statements: YtlfljoihcjmnkaaDoorTotals.lean).
  GIVEN WITH THE SEED: the statements are not yours to turn. If you find one false, say at which input.
  Laid BY PROGRAM, IN A SANDBOX (cutbox-rows.mjs): the forced cells as the released guide's own fill.sh prints them over the translation 0e71c8c624287f6f… (all of the seat's roots in one cut). By AI agents, Wed Nov 11 2026. No macro, syntax, notation, axiom, sorry.
-/
import Derived.Test.YtlfljoihcjmnkaaDoorChecked
import GoSem.Claim
import GoSem.ClaimJoined
import GoSem.ClaimMapViews
import Derived.JoinedTies
import Derived.KernelRfl
namespace Go.Proofs.YtlfljoihcjmnkaaDoor
/- THE CELL 'sum', in the pinned program and in every row, IS THE sha256 OF THE DUMP (.gsa) THAT YtlfljoihcjmnkaaDoorProg.lean LOADS. Nothing in Lean hashes anything: it is a label: what it is worth is what the hold of that sum in a sandbox is worth. -/
noncomputable def Tryd.pinned : Pinned := { name := "ytlfljoihcjmnkaadoor", sum := "0e71c8c624287f6fbde0e600c80de062e65699b541713318ba5932eae0cdfd4f", checked := Tryd.checked }
namespace Rows
def none {H : Type} : Left H := { results := [], args := [] }

/- WHAT THE LISTED PACKAGE-LEVEL VARIABLES READ AS WHEN THE CALL BEGINS. Each datum BY PROGRAM (the guide's laid-datum.mjs) off the statement by which the dump's own 'gosem.cut.vars' lays the variable. In a bare row this is a premise. The card (YtlfljoihcjmnkaaDoorCards.lean) ties it to the program's text. -/
def laid_math_bits_deBruijn32tab {H : Type} : DataW H := .agg [.lit (.int .u8 0), .lit (.int .u8 1), .lit (.int .u8 28), .lit (.int .u8 2), .lit (.int .u8 29), .lit (.int .u8 14), .lit (.int .u8 24), .lit (.int .u8 3), .lit (.int .u8 30), .lit (.int .u8 22), .lit (.int .u8 20), .lit (.int .u8 15), .lit (.int .u8 25), .lit (.int .u8 17), .lit (.int .u8 4), .lit (.int .u8 8), .lit (.int .u8 31), .lit (.int .u8 27), .lit (.int .u8 13), .lit (.int .u8 23), .lit (.int .u8 21), .lit (.int .u8 19), .lit (.int .u8 16), .lit (.int .u8 7), .lit (.int .u8 26), .lit (.int .u8 12), .lit (.int .u8 18), .lit (.int .u8 6), .lit (.int .u8 11), .lit (.int .u8 5), .lit (.int .u8 10), .lit (.int .u8 9)]

/-- 'mainsheetlaw07.MaskHall': WHATEVER THE INPUT: true; the input reads as it did. -/
def maskHallSpec : ChangeSpec := { name := "maskHall", fn := fun _ => fun
  | [d1, d2] => { results := [.lit (.bool true)], args := [d1, d2] }
  | _ => none }
def maskHallRow : OpenClaim := { program := "ytlfljoihcjmnkaadoor", sum := "0e71c8c624287f6fbde0e600c80de062e65699b541713318ba5932eae0cdfd4f", func := "mainsheet/mainsheetlaw07.MaskHall", spec := "maskHall", unfollowed := true, recurses := true, named := ["math/bits.deBruijn32tab"], plainKeys := false, apart := false, laid := [("math/bits.deBruijn32tab", laid_math_bits_deBruijn32tab)] }
def MaskHallSaid : Prop := maskHallRow.holds Tryd.pinned (OpenSpec.ofChange maskHallSpec)

/-- ITS FALSE NEIGHBOUR: 'it returns false'. Refute it at one input. -/
def maskHallWrong : ChangeSpec := { name := "maskHall", fn := fun _ => fun
  | [d1, d2] => { results := [.lit (.bool false)], args := [d1, d2] }
  | _ => none }
def MaskHallWrongFalsely : Prop := maskHallRow.holds Tryd.pinned (OpenSpec.ofChange maskHallWrong)

/-- 'mainsheetlaw07.MaskTells': WHATEVER THE INPUT: true; the input reads as it did. -/
def maskTellsSpec : ChangeSpec := { name := "maskTells", fn := fun _ => fun
  | [d1, d2, d3] => { results := [.lit (.bool true)], args := [d1, d2, d3] }
  | _ => none }
def maskTellsRow : OpenClaim := { program := "ytlfljoihcjmnkaadoor", sum := "0e71c8c624287f6fbde0e600c80de062e65699b541713318ba5932eae0cdfd4f", func := "mainsheet/mainsheetlaw07.MaskTells", spec := "maskTells", unfollowed := true, recurses := true, named := ["math/bits.deBruijn32tab"], plainKeys := false, apart := false, laid := [("math/bits.deBruijn32tab", laid_math_bits_deBruijn32tab)] }
def MaskTellsSaid : Prop := maskTellsRow.holds Tryd.pinned (OpenSpec.ofChange maskTellsSpec)

/-- ITS FALSE NEIGHBOUR: 'it returns false'. Refute it at one input. -/
def maskTellsWrong : ChangeSpec := { name := "maskTells", fn := fun _ => fun
  | [d1, d2, d3] => { results := [.lit (.bool false)], args := [d1, d2, d3] }
  | _ => none }
def MaskTellsWrongFalsely : Prop := maskTellsRow.holds Tryd.pinned (OpenSpec.ofChange maskTellsWrong)

/-- 'mainsheetlaw07.MaskChooses': WHATEVER THE INPUT: true; the input reads as it did. -/
def maskChoosesSpec : ChangeSpec := { name := "maskChooses", fn := fun _ => fun
  | [d1, d2] => { results := [.lit (.bool true)], args := [d1, d2] }
  | _ => none }
def maskChoosesRow : OpenClaim := { program := "ytlfljoihcjmnkaadoor", sum := "0e71c8c624287f6fbde0e600c80de062e65699b541713318ba5932eae0cdfd4f", func := "mainsheet/mainsheetlaw07.MaskChooses", spec := "maskChooses", unfollowed := true, recurses := true, named := ["math/bits.deBruijn32tab"], plainKeys := false, apart := false, laid := [("math/bits.deBruijn32tab", laid_math_bits_deBruijn32tab)] }
def MaskChoosesSaid : Prop := maskChoosesRow.holds Tryd.pinned (OpenSpec.ofChange maskChoosesSpec)

/-- ITS FALSE NEIGHBOUR: 'it returns false'. Refute it at one input. -/
def maskChoosesWrong : ChangeSpec := { name := "maskChooses", fn := fun _ => fun
  | [d1, d2] => { results := [.lit (.bool false)], args := [d1, d2] }
  | _ => none }
def MaskChoosesWrongFalsely : Prop := maskChoosesRow.holds Tryd.pinned (OpenSpec.ofChange maskChoosesWrong)

/-- 'mainsheetlaw07.MaskFirst': WHATEVER THE INPUT: true; the input reads as it did. -/
def maskFirstSpec : ChangeSpec := { name := "maskFirst", fn := fun _ => fun
  | [d1, d2] => { results := [.lit (.bool true)], args := [d1, d2] }
  | _ => none }
def maskFirstRow : OpenClaim := { program := "ytlfljoihcjmnkaadoor", sum := "0e71c8c624287f6fbde0e600c80de062e65699b541713318ba5932eae0cdfd4f", func := "mainsheet/mainsheetlaw07.MaskFirst", spec := "maskFirst", unfollowed := true, recurses := true, named := ["math/bits.deBruijn32tab"], plainKeys := false, apart := false, laid := [("math/bits.deBruijn32tab", laid_math_bits_deBruijn32tab)] }
def MaskFirstSaid : Prop := maskFirstRow.holds Tryd.pinned (OpenSpec.ofChange maskFirstSpec)

/-- ITS FALSE NEIGHBOUR: 'it returns false'. Refute it at one input. -/
def maskFirstWrong : ChangeSpec := { name := "maskFirst", fn := fun _ => fun
  | [d1, d2] => { results := [.lit (.bool false)], args := [d1, d2] }
  | _ => none }
def MaskFirstWrongFalsely : Prop := maskFirstRow.holds Tryd.pinned (OpenSpec.ofChange maskFirstWrong)

/-- 'mainsheetlaw07.MaskFewer': WHATEVER THE INPUT: true; the input reads as it did. -/
def maskFewerSpec : ChangeSpec := { name := "maskFewer", fn := fun _ => fun
  | [d1, d2, d3] => { results := [.lit (.bool true)], args := [d1, d2, d3] }
  | _ => none }
def maskFewerRow : OpenClaim := { program := "ytlfljoihcjmnkaadoor", sum := "0e71c8c624287f6fbde0e600c80de062e65699b541713318ba5932eae0cdfd4f", func := "mainsheet/mainsheetlaw07.MaskFewer", spec := "maskFewer", unfollowed := true, recurses := true, named := ["math/bits.deBruijn32tab"], plainKeys := false, apart := false, laid := [("math/bits.deBruijn32tab", laid_math_bits_deBruijn32tab)] }
def MaskFewerSaid : Prop := maskFewerRow.holds Tryd.pinned (OpenSpec.ofChange maskFewerSpec)

/-- ITS FALSE NEIGHBOUR: 'it returns false'. Refute it at one input. -/
def maskFewerWrong : ChangeSpec := { name := "maskFewer", fn := fun _ => fun
  | [d1, d2, d3] => { results := [.lit (.bool false)], args := [d1, d2, d3] }
  | _ => none }
def MaskFewerWrongFalsely : Prop := maskFewerRow.holds Tryd.pinned (OpenSpec.ofChange maskFewerWrong)

/- THE SECOND FORM. 'bulk': how many values and letters a reading holds, each counted each time it is reached (what is shared counts as often as it is met; a slice's spare places count too). A statement '..UptoSaid' is the law's where the arguments, and the package variables that the reading takes, are together of bulk at most 1048576: NARROWER than '..Said'. Prove '..Said' where nothing that the law and all that it calls make is longer than what came in: it says more and counts as full. Else prove '..UptoSaid'. A law counts once. -/
mutual
def uptoBulk {H : Type} : DataW H → Nat
  | .lit (.string bytes) => bytes.length + 1
  | .lit _ => 1
  | .nil => 1
  | .ptr d => uptoBulk d + 1
  | .slice elems spare => uptoBulkAll elems + uptoBulkAll spare + 1
  | .agg parts => uptoBulkAll parts + 1
  | .iface _ d => uptoBulk d + 1
  | .map entries => uptoBulkEntries entries + 1
  | .held _ => 1
def uptoBulkAll {H : Type} : List (DataW H) → Nat
  | [] => 0
  | d :: r => uptoBulk d + uptoBulkAll r
def uptoBulkEntries {H : Type} : List (Lit × DataW H) → Nat
  | [] => 0
  | x :: r => uptoBulkEntry x + uptoBulkEntries r
def uptoBulkEntry {H : Type} : Lit × DataW H → Nat
  | (.string bytes, d) => bytes.length + uptoBulk d + 1
  | (_, d) => uptoBulk d + 1
 end
def uptoSmall : (H : Type) → List (DataW H) → Bool := fun _ ds => decide (uptoBulkAll ds ≤ 1048576)
def OpenSpec.upto (s : _root_.Go.ChangeSpec) : _root_.Go.OpenSpec := { _root_.Go.OpenSpec.ofChange s with cond := some uptoSmall }

/-- 'mainsheetlaw07.MaskHall', WHERE WHAT IT READS IS OF BULK AT MOST 1048576: true; the input reads as it did. -/
def maskHallUptoRow : OpenClaim := { program := "ytlfljoihcjmnkaadoor", sum := "0e71c8c624287f6fbde0e600c80de062e65699b541713318ba5932eae0cdfd4f", func := "mainsheet/mainsheetlaw07.MaskHall", spec := "maskHall", unfollowed := true, recurses := true, named := ["math/bits.deBruijn32tab"], plainKeys := false, apart := false, laid := [("math/bits.deBruijn32tab", laid_math_bits_deBruijn32tab)], narrowed := true }
def MaskHallUptoSaid : Prop := maskHallUptoRow.holds Tryd.pinned (OpenSpec.upto maskHallSpec)

/-- 'mainsheetlaw07.MaskTells', WHERE WHAT IT READS IS OF BULK AT MOST 1048576: true; the input reads as it did. -/
def maskTellsUptoRow : OpenClaim := { program := "ytlfljoihcjmnkaadoor", sum := "0e71c8c624287f6fbde0e600c80de062e65699b541713318ba5932eae0cdfd4f", func := "mainsheet/mainsheetlaw07.MaskTells", spec := "maskTells", unfollowed := true, recurses := true, named := ["math/bits.deBruijn32tab"], plainKeys := false, apart := false, laid := [("math/bits.deBruijn32tab", laid_math_bits_deBruijn32tab)], narrowed := true }
def MaskTellsUptoSaid : Prop := maskTellsUptoRow.holds Tryd.pinned (OpenSpec.upto maskTellsSpec)

/-- 'mainsheetlaw07.MaskChooses', WHERE WHAT IT READS IS OF BULK AT MOST 1048576: true; the input reads as it did. -/
def maskChoosesUptoRow : OpenClaim := { program := "ytlfljoihcjmnkaadoor", sum := "0e71c8c624287f6fbde0e600c80de062e65699b541713318ba5932eae0cdfd4f", func := "mainsheet/mainsheetlaw07.MaskChooses", spec := "maskChooses", unfollowed := true, recurses := true, named := ["math/bits.deBruijn32tab"], plainKeys := false, apart := false, laid := [("math/bits.deBruijn32tab", laid_math_bits_deBruijn32tab)], narrowed := true }
def MaskChoosesUptoSaid : Prop := maskChoosesUptoRow.holds Tryd.pinned (OpenSpec.upto maskChoosesSpec)

/-- 'mainsheetlaw07.MaskFirst', WHERE WHAT IT READS IS OF BULK AT MOST 1048576: true; the input reads as it did. -/
def maskFirstUptoRow : OpenClaim := { program := "ytlfljoihcjmnkaadoor", sum := "0e71c8c624287f6fbde0e600c80de062e65699b541713318ba5932eae0cdfd4f", func := "mainsheet/mainsheetlaw07.MaskFirst", spec := "maskFirst", unfollowed := true, recurses := true, named := ["math/bits.deBruijn32tab"], plainKeys := false, apart := false, laid := [("math/bits.deBruijn32tab", laid_math_bits_deBruijn32tab)], narrowed := true }
def MaskFirstUptoSaid : Prop := maskFirstUptoRow.holds Tryd.pinned (OpenSpec.upto maskFirstSpec)

/-- 'mainsheetlaw07.MaskFewer', WHERE WHAT IT READS IS OF BULK AT MOST 1048576: true; the input reads as it did. -/
def maskFewerUptoRow : OpenClaim := { program := "ytlfljoihcjmnkaadoor", sum := "0e71c8c624287f6fbde0e600c80de062e65699b541713318ba5932eae0cdfd4f", func := "mainsheet/mainsheetlaw07.MaskFewer", spec := "maskFewer", unfollowed := true, recurses := true, named := ["math/bits.deBruijn32tab"], plainKeys := false, apart := false, laid := [("math/bits.deBruijn32tab", laid_math_bits_deBruijn32tab)], narrowed := true }
def MaskFewerUptoSaid : Prop := maskFewerUptoRow.holds Tryd.pinned (OpenSpec.upto maskFewerSpec)

end Rows
end Go.Proofs.YtlfljoihcjmnkaaDoor
