/- Names, in plain Lean. No statement is proved here. -/
import Derived.Test.YtdifffdfiimlpaaGreatDoorEnM1
set_option linter.all false
namespace Go.Mir
/-! names, in plain Lean -/
def nameB (t : List UInt8) : Bool := !t.isEmpty && decide (t.length ≤ 32) && !isDigit (bt t 0) && t.all fun c => isWord c.toNat
def cutN (t : List UInt8) : List UInt8 × List UInt8 × Bool := if toByte t 61 0 < t.length then (t.take (toByte t 61 0), t.drop (toByte t 61 0 + 1), true) else (t, [], false)
end Go.Mir
