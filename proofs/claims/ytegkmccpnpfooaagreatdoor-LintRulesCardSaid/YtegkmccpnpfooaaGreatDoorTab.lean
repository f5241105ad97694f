/- Closed calls of the examples, each reckoned by the kernel. No statement is proved here. -/
import Derived.Test.YtegkmccpnpfooaaGreatDoorValue
namespace Go.Proofs.YtegkmccpnpfooaaGreatDoor
open Go Go.EvL
set_option maxRecDepth 1000000
theorem nx0 : closedVal Tryz.prog noOrc [] 1000 158 [(.string ⟨#[101, 99, 104, 111, 32, 36, 120, 59, 32, 101, 120, 105, 116, 59, 32, 97]⟩), (.int .i64 (.ofNat 0))] = some (.int .i64 (.ofNat 0)) := by kernel_rfl
theorem nx1 : closedVal Tryz.prog noOrc [] 1000 121 [(.string ⟨#[101, 99, 104, 111, 32, 36, 120, 59, 32, 101, 120, 105, 116, 59, 32, 97]⟩), (.int .i64 (.ofNat 0))] = some (.tuple #[(.agg #[(.int .i64 (.ofNat 1)), (.int .i64 (.ofNat 0)), (.int .i64 (.ofNat 4)), (.string ⟨#[101, 99, 104, 111]⟩)]), (.int .i64 (.ofNat 0))]) := by kernel_rfl
theorem nx2 : closedVal Tryz.prog noOrc [] 1000 158 [(.string ⟨#[101, 99, 104, 111, 32, 36, 120, 59, 32, 101, 120, 105, 116, 59, 32, 97]⟩), (.int .i64 (.ofNat 4))] = some (.int .i64 (.ofNat 5)) := by kernel_rfl
theorem nx3 : closedVal Tryz.prog noOrc [] 1000 121 [(.string ⟨#[101, 99, 104, 111, 32, 36, 120, 59, 32, 101, 120, 105, 116, 59, 32, 97]⟩), (.int .i64 (.ofNat 4))] = some (.tuple #[(.agg #[(.int .i64 (.ofNat 1)), (.int .i64 (.ofNat 5)), (.int .i64 (.ofNat 7)), (.string ⟨#[36, 120]⟩)]), (.int .i64 (.ofNat 0))]) := by kernel_rfl
theorem nx4 : closedVal Tryz.prog noOrc [] 1000 261 [(.string ⟨#[101, 99, 104, 111, 32, 36, 120, 59, 32, 101, 120, 105, 116, 59, 32, 97]⟩), (.int .i64 (.ofNat 0))] = some (.tuple #[(.agg #[(.int .i64 (.ofNat 0)), (.int .i64 (.ofNat 0)), (.int .i64 (.ofNat 0)), (.int .i64 (.ofNat 0)), (.slice none 0 0)]), (.slice none 0 0), (.int .i64 (.ofNat 0)), (.bool false), (.int .i64 (.ofNat 0))]) := by kernel_rfl
theorem nx5 : closedVal Tryz.prog noOrc [] 1000 261 [(.string ⟨#[101, 99, 104, 111, 32, 36, 120, 59, 32, 101, 120, 105, 116, 59, 32, 97]⟩), (.int .i64 (.ofNat 4))] = some (.tuple #[(.agg #[(.int .i64 (.ofNat 0)), (.int .i64 (.ofNat 0)), (.int .i64 (.ofNat 0)), (.int .i64 (.ofNat 0)), (.slice none 0 0)]), (.slice none 0 0), (.int .i64 (.ofNat 0)), (.bool false), (.int .i64 (.ofNat 0))]) := by kernel_rfl
theorem nx6 : closedVal Tryz.prog noOrc [] 1000 158 [(.string ⟨#[101, 99, 104, 111, 32, 36, 120, 59, 32, 101, 120, 105, 116, 59, 32, 97]⟩), (.int .i64 (.ofNat 7))] = some (.int .i64 (.ofNat 7)) := by kernel_rfl
theorem nx7 : closedVal Tryz.prog noOrc [] 1000 121 [(.string ⟨#[101, 99, 104, 111, 32, 36, 120, 59, 32, 101, 120, 105, 116, 59, 32, 97]⟩), (.int .i64 (.ofNat 7))] = some (.tuple #[(.agg #[(.int .i64 (.ofNat 2)), (.int .i64 (.ofNat 7)), (.int .i64 (.ofNat 8)), (.string ⟨#[59]⟩)]), (.int .i64 (.ofNat 0))]) := by kernel_rfl
theorem nx8 : closedVal Tryz.prog noOrc [] 1000 261 [(.string ⟨#[101, 99, 104, 111, 32, 36, 120, 59, 32, 101, 120, 105, 116, 59, 32, 97]⟩), (.int .i64 (.ofNat 7))] = some (.tuple #[(.agg #[(.int .i64 (.ofNat 0)), (.int .i64 (.ofNat 0)), (.int .i64 (.ofNat 0)), (.int .i64 (.ofNat 0)), (.slice none 0 0)]), (.slice none 0 0), (.int .i64 (.ofNat 0)), (.bool false), (.int .i64 (.ofNat 0))]) := by kernel_rfl
theorem nx9 : closedVal Tryz.prog noOrc [] 1000 158 [(.string ⟨#[101, 99, 104, 111, 32, 36, 120, 59, 32, 101, 120, 105, 116, 59, 32, 97]⟩), (.int .i64 (.ofNat 8))] = some (.int .i64 (.ofNat 9)) := by kernel_rfl
theorem nx10 : closedVal Tryz.prog noOrc [] 1000 121 [(.string ⟨#[101, 99, 104, 111, 32, 36, 120, 59, 32, 101, 120, 105, 116, 59, 32, 97]⟩), (.int .i64 (.ofNat 8))] = some (.tuple #[(.agg #[(.int .i64 (.ofNat 1)), (.int .i64 (.ofNat 9)), (.int .i64 (.ofNat 13)), (.string ⟨#[101, 120, 105, 116]⟩)]), (.int .i64 (.ofNat 0))]) := by kernel_rfl
theorem nx11 : closedVal Tryz.prog noOrc [] 1000 158 [(.string ⟨#[101, 99, 104, 111, 32, 36, 120, 59, 32, 101, 120, 105, 116, 59, 32, 97]⟩), (.int .i64 (.ofNat 13))] = some (.int .i64 (.ofNat 13)) := by kernel_rfl
theorem nx12 : closedVal Tryz.prog noOrc [] 1000 121 [(.string ⟨#[101, 99, 104, 111, 32, 36, 120, 59, 32, 101, 120, 105, 116, 59, 32, 97]⟩), (.int .i64 (.ofNat 13))] = some (.tuple #[(.agg #[(.int .i64 (.ofNat 2)), (.int .i64 (.ofNat 13)), (.int .i64 (.ofNat 14)), (.string ⟨#[59]⟩)]), (.int .i64 (.ofNat 0))]) := by kernel_rfl
theorem nx13 : closedVal Tryz.prog noOrc [] 1000 261 [(.string ⟨#[101, 99, 104, 111, 32, 36, 120, 59, 32, 101, 120, 105, 116, 59, 32, 97]⟩), (.int .i64 (.ofNat 8))] = some (.tuple #[(.agg #[(.int .i64 (.ofNat 0)), (.int .i64 (.ofNat 0)), (.int .i64 (.ofNat 0)), (.int .i64 (.ofNat 0)), (.slice none 0 0)]), (.slice none 0 0), (.int .i64 (.ofNat 0)), (.bool false), (.int .i64 (.ofNat 0))]) := by kernel_rfl
theorem nx14 : closedVal Tryz.prog noOrc [] 1000 261 [(.string ⟨#[101, 99, 104, 111, 32, 36, 120, 59, 32, 101, 120, 105, 116, 59, 32, 97]⟩), (.int .i64 (.ofNat 13))] = some (.tuple #[(.agg #[(.int .i64 (.ofNat 0)), (.int .i64 (.ofNat 0)), (.int .i64 (.ofNat 0)), (.int .i64 (.ofNat 0)), (.slice none 0 0)]), (.slice none 0 0), (.int .i64 (.ofNat 0)), (.bool false), (.int .i64 (.ofNat 0))]) := by kernel_rfl
theorem nx15 : closedVal Tryz.prog noOrc [] 1000 158 [(.string ⟨#[101, 99, 104, 111, 32, 36, 120, 59, 32, 101, 120, 105, 116, 59, 32, 97]⟩), (.int .i64 (.ofNat 14))] = some (.int .i64 (.ofNat 15)) := by kernel_rfl
theorem nx16 : closedVal Tryz.prog noOrc [] 1000 121 [(.string ⟨#[101, 99, 104, 111, 32, 36, 120, 59, 32, 101, 120, 105, 116, 59, 32, 97]⟩), (.int .i64 (.ofNat 14))] = some (.tuple #[(.agg #[(.int .i64 (.ofNat 1)), (.int .i64 (.ofNat 15)), (.int .i64 (.ofNat 16)), (.string ⟨#[97]⟩)]), (.int .i64 (.ofNat 0))]) := by kernel_rfl
theorem nx17 : closedVal Tryz.prog noOrc [] 1000 121 [(.string ⟨#[101, 99, 104, 111, 32, 36, 120, 59, 32, 101, 120, 105, 116, 59, 32, 97]⟩), (.int .i64 (.ofNat 16))] = some (.tuple #[(.agg #[(.int .i64 (.ofNat 5)), (.int .i64 (.ofNat 16)), (.int .i64 (.ofNat 16)), (.string ⟨#[]⟩)]), (.int .i64 (.ofNat 0))]) := by kernel_rfl
theorem nx18 : closedVal Tryz.prog noOrc [] 1000 261 [(.string ⟨#[101, 99, 104, 111, 32, 36, 120, 59, 32, 101, 120, 105, 116, 59, 32, 97]⟩), (.int .i64 (.ofNat 14))] = some (.tuple #[(.agg #[(.int .i64 (.ofNat 0)), (.int .i64 (.ofNat 0)), (.int .i64 (.ofNat 0)), (.int .i64 (.ofNat 0)), (.slice none 0 0)]), (.slice none 0 0), (.int .i64 (.ofNat 0)), (.bool false), (.int .i64 (.ofNat 0))]) := by kernel_rfl
theorem nx19 : closedVal Tryz.prog noOrc [] 1000 261 [(.string ⟨#[101, 99, 104, 111, 32, 36, 120, 59, 32, 101, 120, 105, 116, 59, 32, 97]⟩), (.int .i64 (.ofNat 16))] = some (.tuple #[(.agg #[(.int .i64 (.ofNat 0)), (.int .i64 (.ofNat 0)), (.int .i64 (.ofNat 0)), (.int .i64 (.ofNat 0)), (.slice none 0 0)]), (.slice none 0 0), (.int .i64 (.ofNat 0)), (.bool false), (.int .i64 (.ofNat 0))]) := by kernel_rfl
theorem nx20 : closedVal Tryz.prog noOrc [] 1000 158 [(.string ⟨#[101, 99, 104, 111, 32, 36, 120, 59, 32, 101, 120, 105, 116, 59, 32]⟩), (.int .i64 (.ofNat 0))] = some (.int .i64 (.ofNat 0)) := by kernel_rfl
theorem nx21 : closedVal Tryz.prog noOrc [] 1000 121 [(.string ⟨#[101, 99, 104, 111, 32, 36, 120, 59, 32, 101, 120, 105, 116, 59, 32]⟩), (.int .i64 (.ofNat 0))] = some (.tuple #[(.agg #[(.int .i64 (.ofNat 1)), (.int .i64 (.ofNat 0)), (.int .i64 (.ofNat 4)), (.string ⟨#[101, 99, 104, 111]⟩)]), (.int .i64 (.ofNat 0))]) := by kernel_rfl
theorem nx22 : closedVal Tryz.prog noOrc [] 1000 158 [(.string ⟨#[101, 99, 104, 111, 32, 36, 120, 59, 32, 101, 120, 105, 116, 59, 32]⟩), (.int .i64 (.ofNat 4))] = some (.int .i64 (.ofNat 5)) := by kernel_rfl
theorem nx23 : closedVal Tryz.prog noOrc [] 1000 121 [(.string ⟨#[101, 99, 104, 111, 32, 36, 120, 59, 32, 101, 120, 105, 116, 59, 32]⟩), (.int .i64 (.ofNat 4))] = some (.tuple #[(.agg #[(.int .i64 (.ofNat 1)), (.int .i64 (.ofNat 5)), (.int .i64 (.ofNat 7)), (.string ⟨#[36, 120]⟩)]), (.int .i64 (.ofNat 0))]) := by kernel_rfl
theorem nx24 : closedVal Tryz.prog noOrc [] 1000 261 [(.string ⟨#[101, 99, 104, 111, 32, 36, 120, 59, 32, 101, 120, 105, 116, 59, 32]⟩), (.int .i64 (.ofNat 0))] = some (.tuple #[(.agg #[(.int .i64 (.ofNat 0)), (.int .i64 (.ofNat 0)), (.int .i64 (.ofNat 0)), (.int .i64 (.ofNat 0)), (.slice none 0 0)]), (.slice none 0 0), (.int .i64 (.ofNat 0)), (.bool false), (.int .i64 (.ofNat 0))]) := by kernel_rfl
theorem nx25 : closedVal Tryz.prog noOrc [] 1000 261 [(.string ⟨#[101, 99, 104, 111, 32, 36, 120, 59, 32, 101, 120, 105, 116, 59, 32]⟩), (.int .i64 (.ofNat 4))] = some (.tuple #[(.agg #[(.int .i64 (.ofNat 0)), (.int .i64 (.ofNat 0)), (.int .i64 (.ofNat 0)), (.int .i64 (.ofNat 0)), (.slice none 0 0)]), (.slice none 0 0), (.int .i64 (.ofNat 0)), (.bool false), (.int .i64 (.ofNat 0))]) := by kernel_rfl
theorem nx26 : closedVal Tryz.prog noOrc [] 1000 158 [(.string ⟨#[101, 99, 104, 111, 32, 36, 120, 59, 32, 101, 120, 105, 116, 59, 32]⟩), (.int .i64 (.ofNat 7))] = some (.int .i64 (.ofNat 7)) := by kernel_rfl
theorem nx27 : closedVal Tryz.prog noOrc [] 1000 121 [(.string ⟨#[101, 99, 104, 111, 32, 36, 120, 59, 32, 101, 120, 105, 116, 59, 32]⟩), (.int .i64 (.ofNat 7))] = some (.tuple #[(.agg #[(.int .i64 (.ofNat 2)), (.int .i64 (.ofNat 7)), (.int .i64 (.ofNat 8)), (.string ⟨#[59]⟩)]), (.int .i64 (.ofNat 0))]) := by kernel_rfl
theorem nx28 : closedVal Tryz.prog noOrc [] 1000 261 [(.string ⟨#[101, 99, 104, 111, 32, 36, 120, 59, 32, 101, 120, 105, 116, 59, 32]⟩), (.int .i64 (.ofNat 7))] = some (.tuple #[(.agg #[(.int .i64 (.ofNat 0)), (.int .i64 (.ofNat 0)), (.int .i64 (.ofNat 0)), (.int .i64 (.ofNat 0)), (.slice none 0 0)]), (.slice none 0 0), (.int .i64 (.ofNat 0)), (.bool false), (.int .i64 (.ofNat 0))]) := by kernel_rfl
theorem nx29 : closedVal Tryz.prog noOrc [] 1000 158 [(.string ⟨#[101, 99, 104, 111, 32, 36, 120, 59, 32, 101, 120, 105, 116, 59, 32]⟩), (.int .i64 (.ofNat 8))] = some (.int .i64 (.ofNat 9)) := by kernel_rfl
theorem nx30 : closedVal Tryz.prog noOrc [] 1000 121 [(.string ⟨#[101, 99, 104, 111, 32, 36, 120, 59, 32, 101, 120, 105, 116, 59, 32]⟩), (.int .i64 (.ofNat 8))] = some (.tuple #[(.agg #[(.int .i64 (.ofNat 1)), (.int .i64 (.ofNat 9)), (.int .i64 (.ofNat 13)), (.string ⟨#[101, 120, 105, 116]⟩)]), (.int .i64 (.ofNat 0))]) := by kernel_rfl
theorem nx31 : closedVal Tryz.prog noOrc [] 1000 158 [(.string ⟨#[101, 99, 104, 111, 32, 36, 120, 59, 32, 101, 120, 105, 116, 59, 32]⟩), (.int .i64 (.ofNat 13))] = some (.int .i64 (.ofNat 13)) := by kernel_rfl
theorem nx32 : closedVal Tryz.prog noOrc [] 1000 121 [(.string ⟨#[101, 99, 104, 111, 32, 36, 120, 59, 32, 101, 120, 105, 116, 59, 32]⟩), (.int .i64 (.ofNat 13))] = some (.tuple #[(.agg #[(.int .i64 (.ofNat 2)), (.int .i64 (.ofNat 13)), (.int .i64 (.ofNat 14)), (.string ⟨#[59]⟩)]), (.int .i64 (.ofNat 0))]) := by kernel_rfl
theorem nx33 : closedVal Tryz.prog noOrc [] 1000 261 [(.string ⟨#[101, 99, 104, 111, 32, 36, 120, 59, 32, 101, 120, 105, 116, 59, 32]⟩), (.int .i64 (.ofNat 8))] = some (.tuple #[(.agg #[(.int .i64 (.ofNat 0)), (.int .i64 (.ofNat 0)), (.int .i64 (.ofNat 0)), (.int .i64 (.ofNat 0)), (.slice none 0 0)]), (.slice none 0 0), (.int .i64 (.ofNat 0)), (.bool false), (.int .i64 (.ofNat 0))]) := by kernel_rfl
theorem nx34 : closedVal Tryz.prog noOrc [] 1000 261 [(.string ⟨#[101, 99, 104, 111, 32, 36, 120, 59, 32, 101, 120, 105, 116, 59, 32]⟩), (.int .i64 (.ofNat 13))] = some (.tuple #[(.agg #[(.int .i64 (.ofNat 0)), (.int .i64 (.ofNat 0)), (.int .i64 (.ofNat 0)), (.int .i64 (.ofNat 0)), (.slice none 0 0)]), (.slice none 0 0), (.int .i64 (.ofNat 0)), (.bool false), (.int .i64 (.ofNat 0))]) := by kernel_rfl
theorem nx35 : closedVal Tryz.prog noOrc [] 1000 158 [(.string ⟨#[101, 99, 104, 111, 32, 36, 120, 59, 32, 101, 120, 105, 116, 59, 32]⟩), (.int .i64 (.ofNat 14))] = some (.int .i64 (.ofNat 15)) := by kernel_rfl
theorem nx36 : closedVal Tryz.prog noOrc [] 1000 121 [(.string ⟨#[101, 99, 104, 111, 32, 36, 120, 59, 32, 101, 120, 105, 116, 59, 32]⟩), (.int .i64 (.ofNat 14))] = some (.tuple #[(.agg #[(.int .i64 (.ofNat 5)), (.int .i64 (.ofNat 15)), (.int .i64 (.ofNat 15)), (.string ⟨#[]⟩)]), (.int .i64 (.ofNat 0))]) := by kernel_rfl
theorem nx37 : closedVal Tryz.prog noOrc [] 1000 158 [(.string ⟨#[101, 99, 104, 111, 32, 36, 120, 59, 32, 101, 120, 105, 116, 59, 32, 97]⟩), (.int .i64 (.ofNat 15))] = some (.int .i64 (.ofNat 15)) := by kernel_rfl
theorem nx38 : closedVal Tryz.prog noOrc [] 1000 121 [(.string ⟨#[101, 99, 104, 111, 32, 36, 120, 59, 32, 101, 120, 105, 116, 59, 32, 97]⟩), (.int .i64 (.ofNat 15))] = some (.tuple #[(.agg #[(.int .i64 (.ofNat 1)), (.int .i64 (.ofNat 15)), (.int .i64 (.ofNat 16)), (.string ⟨#[97]⟩)]), (.int .i64 (.ofNat 0))]) := by kernel_rfl
theorem nx39 : closedVal Tryz.prog noOrc [] 1000 166 [(.string ⟨#[101, 99, 104, 111]⟩), (.int .i64 (.ofNat 0))] = some (.int .i64 (.ofNat 1)) := by kernel_rfl
theorem nx40 : closedVal Tryz.prog noOrc [] 1000 166 [(.string ⟨#[101, 99, 104, 111]⟩), (.int .i64 (.ofNat 1))] = some (.int .i64 (.ofNat 2)) := by kernel_rfl
theorem nx41 : closedVal Tryz.prog noOrc [] 1000 166 [(.string ⟨#[101, 99, 104, 111]⟩), (.int .i64 (.ofNat 2))] = some (.int .i64 (.ofNat 3)) := by kernel_rfl
theorem nx42 : closedVal Tryz.prog noOrc [] 1000 166 [(.string ⟨#[101, 99, 104, 111]⟩), (.int .i64 (.ofNat 3))] = some (.int .i64 (.ofNat 4)) := by kernel_rfl
theorem nx43 : closedVal Tryz.prog noOrc [] 1000 158 [(.string ⟨#[101, 99, 104, 111, 32, 36, 120, 59, 32, 101, 120, 105, 116, 59, 32, 97]⟩), (.int .i64 (.ofNat 5))] = some (.int .i64 (.ofNat 5)) := by kernel_rfl
theorem nx44 : closedVal Tryz.prog noOrc [] 1000 121 [(.string ⟨#[101, 99, 104, 111, 32, 36, 120, 59, 32, 101, 120, 105, 116, 59, 32, 97]⟩), (.int .i64 (.ofNat 5))] = some (.tuple #[(.agg #[(.int .i64 (.ofNat 1)), (.int .i64 (.ofNat 5)), (.int .i64 (.ofNat 7)), (.string ⟨#[36, 120]⟩)]), (.int .i64 (.ofNat 0))]) := by kernel_rfl
theorem nx45 : closedVal Tryz.prog noOrc [] 1000 166 [(.string ⟨#[36, 120]⟩), (.int .i64 (.ofNat 0))] = some (.int .i64 (.ofNat 2)) := by kernel_rfl
theorem nx46 : closedVal Tryz.prog noOrc [] 1000 158 [(.string ⟨#[101, 99, 104, 111, 32, 36, 120, 59, 32, 101, 120, 105, 116, 59, 32, 97]⟩), (.int .i64 (.ofNat 9))] = some (.int .i64 (.ofNat 9)) := by kernel_rfl
theorem nx47 : closedVal Tryz.prog noOrc [] 1000 121 [(.string ⟨#[101, 99, 104, 111, 32, 36, 120, 59, 32, 101, 120, 105, 116, 59, 32, 97]⟩), (.int .i64 (.ofNat 9))] = some (.tuple #[(.agg #[(.int .i64 (.ofNat 1)), (.int .i64 (.ofNat 9)), (.int .i64 (.ofNat 13)), (.string ⟨#[101, 120, 105, 116]⟩)]), (.int .i64 (.ofNat 0))]) := by kernel_rfl
theorem nx48 : closedVal Tryz.prog noOrc [] 1000 166 [(.string ⟨#[101, 120, 105, 116]⟩), (.int .i64 (.ofNat 0))] = some (.int .i64 (.ofNat 1)) := by kernel_rfl
theorem nx49 : closedVal Tryz.prog noOrc [] 1000 166 [(.string ⟨#[101, 120, 105, 116]⟩), (.int .i64 (.ofNat 1))] = some (.int .i64 (.ofNat 2)) := by kernel_rfl
theorem nx50 : closedVal Tryz.prog noOrc [] 1000 166 [(.string ⟨#[101, 120, 105, 116]⟩), (.int .i64 (.ofNat 2))] = some (.int .i64 (.ofNat 3)) := by kernel_rfl
theorem nx51 : closedVal Tryz.prog noOrc [] 1000 166 [(.string ⟨#[101, 120, 105, 116]⟩), (.int .i64 (.ofNat 3))] = some (.int .i64 (.ofNat 4)) := by kernel_rfl
theorem nx52 : closedVal Tryz.prog noOrc [] 1000 166 [(.string ⟨#[97]⟩), (.int .i64 (.ofNat 0))] = some (.int .i64 (.ofNat 1)) := by kernel_rfl
theorem nx53 : closedVal Tryz.prog noOrc [] 1000 158 [(.string ⟨#[102, 105]⟩), (.int .i64 (.ofNat 0))] = some (.int .i64 (.ofNat 0)) := by kernel_rfl
theorem nx54 : closedVal Tryz.prog noOrc [] 1000 121 [(.string ⟨#[102, 105]⟩), (.int .i64 (.ofNat 0))] = some (.tuple #[(.agg #[(.int .i64 (.ofNat 1)), (.int .i64 (.ofNat 0)), (.int .i64 (.ofNat 2)), (.string ⟨#[102, 105]⟩)]), (.int .i64 (.ofNat 0))]) := by kernel_rfl
theorem nx55 : closedVal Tryz.prog noOrc [] 1000 261 [(.string ⟨#[102, 105]⟩), (.int .i64 (.ofNat 0))] = some (.tuple #[(.agg #[(.int .i64 (.ofNat 0)), (.int .i64 (.ofNat 0)), (.int .i64 (.ofNat 0)), (.int .i64 (.ofNat 0)), (.slice none 0 0)]), (.slice none 0 0), (.int .i64 (.ofNat 0)), (.bool false), (.int .i64 (.ofNat 0))]) := by kernel_rfl
theorem nx56 : closedVal Tryz.prog noOrc [] 1000 247 [(.string ⟨#[102, 105]⟩), (.int .i64 (.ofNat 0))] = some (.tuple #[(.agg #[(.int .i64 (.ofNat 0)), (.int .i64 (.ofNat 0)), (.string ⟨#[]⟩), (.bool false), (.slice none 0 0), (.slice none 0 0), (.slice none 0 0), (.slice none 0 0), (.slice none 0 0)]), (.slice none 0 0), (.int .i64 (.ofNat 0)), (.int .i64 (.ofNat 6))]) := by kernel_rfl
theorem nx57 : closedVal Tryz.prog noOrc [] 1000 9 [(.string ⟨#[102, 105]⟩)] = some (.tuple #[(.slice none 0 0), (.int .i64 (.ofNat 6))]) := by kernel_rfl
theorem nx58 : closedVal Tryz.prog noOrc [] 1000 158 [(.string ⟨#[101, 99, 104, 111, 32, 36, 120]⟩), (.int .i64 (.ofNat 0))] = some (.int .i64 (.ofNat 0)) := by kernel_rfl
theorem nx59 : closedVal Tryz.prog noOrc [] 1000 121 [(.string ⟨#[101, 99, 104, 111, 32, 36, 120]⟩), (.int .i64 (.ofNat 0))] = some (.tuple #[(.agg #[(.int .i64 (.ofNat 1)), (.int .i64 (.ofNat 0)), (.int .i64 (.ofNat 4)), (.string ⟨#[101, 99, 104, 111]⟩)]), (.int .i64 (.ofNat 0))]) := by kernel_rfl
theorem nx60 : closedVal Tryz.prog noOrc [] 1000 158 [(.string ⟨#[101, 99, 104, 111, 32, 36, 120]⟩), (.int .i64 (.ofNat 4))] = some (.int .i64 (.ofNat 5)) := by kernel_rfl
theorem nx61 : closedVal Tryz.prog noOrc [] 1000 121 [(.string ⟨#[101, 99, 104, 111, 32, 36, 120]⟩), (.int .i64 (.ofNat 4))] = some (.tuple #[(.agg #[(.int .i64 (.ofNat 1)), (.int .i64 (.ofNat 5)), (.int .i64 (.ofNat 7)), (.string ⟨#[36, 120]⟩)]), (.int .i64 (.ofNat 0))]) := by kernel_rfl
theorem nx62 : closedVal Tryz.prog noOrc [] 1000 261 [(.string ⟨#[101, 99, 104, 111, 32, 36, 120]⟩), (.int .i64 (.ofNat 0))] = some (.tuple #[(.agg #[(.int .i64 (.ofNat 0)), (.int .i64 (.ofNat 0)), (.int .i64 (.ofNat 0)), (.int .i64 (.ofNat 0)), (.slice none 0 0)]), (.slice none 0 0), (.int .i64 (.ofNat 0)), (.bool false), (.int .i64 (.ofNat 0))]) := by kernel_rfl
theorem nx63 : closedVal Tryz.prog noOrc [] 1000 261 [(.string ⟨#[101, 99, 104, 111, 32, 36, 120]⟩), (.int .i64 (.ofNat 4))] = some (.tuple #[(.agg #[(.int .i64 (.ofNat 0)), (.int .i64 (.ofNat 0)), (.int .i64 (.ofNat 0)), (.int .i64 (.ofNat 0)), (.slice none 0 0)]), (.slice none 0 0), (.int .i64 (.ofNat 0)), (.bool false), (.int .i64 (.ofNat 0))]) := by kernel_rfl
theorem nx64 : closedVal Tryz.prog noOrc [] 1000 121 [(.string ⟨#[101, 99, 104, 111, 32, 36, 120]⟩), (.int .i64 (.ofNat 7))] = some (.tuple #[(.agg #[(.int .i64 (.ofNat 5)), (.int .i64 (.ofNat 7)), (.int .i64 (.ofNat 7)), (.string ⟨#[]⟩)]), (.int .i64 (.ofNat 0))]) := by kernel_rfl
theorem nx65 : closedVal Tryz.prog noOrc [] 1000 261 [(.string ⟨#[101, 99, 104, 111, 32, 36, 120]⟩), (.int .i64 (.ofNat 7))] = some (.tuple #[(.agg #[(.int .i64 (.ofNat 0)), (.int .i64 (.ofNat 0)), (.int .i64 (.ofNat 0)), (.int .i64 (.ofNat 0)), (.slice none 0 0)]), (.slice none 0 0), (.int .i64 (.ofNat 0)), (.bool false), (.int .i64 (.ofNat 0))]) := by kernel_rfl
theorem nx66 : closedVal Tryz.prog noOrc [] 1000 158 [(.string ⟨#[114, 101, 97, 100, 32, 120, 59, 32, 101, 99, 104, 111, 32, 36, 120]⟩), (.int .i64 (.ofNat 0))] = some (.int .i64 (.ofNat 0)) := by kernel_rfl
theorem nx67 : closedVal Tryz.prog noOrc [] 1000 121 [(.string ⟨#[114, 101, 97, 100, 32, 120, 59, 32, 101, 99, 104, 111, 32, 36, 120]⟩), (.int .i64 (.ofNat 0))] = some (.tuple #[(.agg #[(.int .i64 (.ofNat 1)), (.int .i64 (.ofNat 0)), (.int .i64 (.ofNat 4)), (.string ⟨#[114, 101, 97, 100]⟩)]), (.int .i64 (.ofNat 0))]) := by kernel_rfl
theorem nx68 : closedVal Tryz.prog noOrc [] 1000 158 [(.string ⟨#[114, 101, 97, 100, 32, 120, 59, 32, 101, 99, 104, 111, 32, 36, 120]⟩), (.int .i64 (.ofNat 4))] = some (.int .i64 (.ofNat 5)) := by kernel_rfl
theorem nx69 : closedVal Tryz.prog noOrc [] 1000 121 [(.string ⟨#[114, 101, 97, 100, 32, 120, 59, 32, 101, 99, 104, 111, 32, 36, 120]⟩), (.int .i64 (.ofNat 4))] = some (.tuple #[(.agg #[(.int .i64 (.ofNat 1)), (.int .i64 (.ofNat 5)), (.int .i64 (.ofNat 6)), (.string ⟨#[120]⟩)]), (.int .i64 (.ofNat 0))]) := by kernel_rfl
theorem nx70 : closedVal Tryz.prog noOrc [] 1000 261 [(.string ⟨#[114, 101, 97, 100, 32, 120, 59, 32, 101, 99, 104, 111, 32, 36, 120]⟩), (.int .i64 (.ofNat 0))] = some (.tuple #[(.agg #[(.int .i64 (.ofNat 0)), (.int .i64 (.ofNat 0)), (.int .i64 (.ofNat 0)), (.int .i64 (.ofNat 0)), (.slice none 0 0)]), (.slice none 0 0), (.int .i64 (.ofNat 0)), (.bool false), (.int .i64 (.ofNat 0))]) := by kernel_rfl
theorem nx71 : closedVal Tryz.prog noOrc [] 1000 261 [(.string ⟨#[114, 101, 97, 100, 32, 120, 59, 32, 101, 99, 104, 111, 32, 36, 120]⟩), (.int .i64 (.ofNat 4))] = some (.tuple #[(.agg #[(.int .i64 (.ofNat 0)), (.int .i64 (.ofNat 0)), (.int .i64 (.ofNat 0)), (.int .i64 (.ofNat 0)), (.slice none 0 0)]), (.slice none 0 0), (.int .i64 (.ofNat 0)), (.bool false), (.int .i64 (.ofNat 0))]) := by kernel_rfl
theorem nx72 : closedVal Tryz.prog noOrc [] 1000 158 [(.string ⟨#[114, 101, 97, 100, 32, 120, 59, 32, 101, 99, 104, 111, 32, 36, 120]⟩), (.int .i64 (.ofNat 6))] = some (.int .i64 (.ofNat 6)) := by kernel_rfl
theorem nx73 : closedVal Tryz.prog noOrc [] 1000 121 [(.string ⟨#[114, 101, 97, 100, 32, 120, 59, 32, 101, 99, 104, 111, 32, 36, 120]⟩), (.int .i64 (.ofNat 6))] = some (.tuple #[(.agg #[(.int .i64 (.ofNat 2)), (.int .i64 (.ofNat 6)), (.int .i64 (.ofNat 7)), (.string ⟨#[59]⟩)]), (.int .i64 (.ofNat 0))]) := by kernel_rfl
theorem nx74 : closedVal Tryz.prog noOrc [] 1000 261 [(.string ⟨#[114, 101, 97, 100, 32, 120, 59, 32, 101, 99, 104, 111, 32, 36, 120]⟩), (.int .i64 (.ofNat 6))] = some (.tuple #[(.agg #[(.int .i64 (.ofNat 0)), (.int .i64 (.ofNat 0)), (.int .i64 (.ofNat 0)), (.int .i64 (.ofNat 0)), (.slice none 0 0)]), (.slice none 0 0), (.int .i64 (.ofNat 0)), (.bool false), (.int .i64 (.ofNat 0))]) := by kernel_rfl
theorem nx75 : closedVal Tryz.prog noOrc [] 1000 158 [(.string ⟨#[114, 101, 97, 100, 32, 120, 59, 32, 101, 99, 104, 111, 32, 36, 120]⟩), (.int .i64 (.ofNat 7))] = some (.int .i64 (.ofNat 8)) := by kernel_rfl
theorem nx76 : closedVal Tryz.prog noOrc [] 1000 121 [(.string ⟨#[114, 101, 97, 100, 32, 120, 59, 32, 101, 99, 104, 111, 32, 36, 120]⟩), (.int .i64 (.ofNat 7))] = some (.tuple #[(.agg #[(.int .i64 (.ofNat 1)), (.int .i64 (.ofNat 8)), (.int .i64 (.ofNat 12)), (.string ⟨#[101, 99, 104, 111]⟩)]), (.int .i64 (.ofNat 0))]) := by kernel_rfl
theorem nx77 : closedVal Tryz.prog noOrc [] 1000 158 [(.string ⟨#[114, 101, 97, 100, 32, 120, 59, 32, 101, 99, 104, 111, 32, 36, 120]⟩), (.int .i64 (.ofNat 12))] = some (.int .i64 (.ofNat 13)) := by kernel_rfl
theorem nx78 : closedVal Tryz.prog noOrc [] 1000 121 [(.string ⟨#[114, 101, 97, 100, 32, 120, 59, 32, 101, 99, 104, 111, 32, 36, 120]⟩), (.int .i64 (.ofNat 12))] = some (.tuple #[(.agg #[(.int .i64 (.ofNat 1)), (.int .i64 (.ofNat 13)), (.int .i64 (.ofNat 15)), (.string ⟨#[36, 120]⟩)]), (.int .i64 (.ofNat 0))]) := by kernel_rfl
theorem nx79 : closedVal Tryz.prog noOrc [] 1000 261 [(.string ⟨#[114, 101, 97, 100, 32, 120, 59, 32, 101, 99, 104, 111, 32, 36, 120]⟩), (.int .i64 (.ofNat 7))] = some (.tuple #[(.agg #[(.int .i64 (.ofNat 0)), (.int .i64 (.ofNat 0)), (.int .i64 (.ofNat 0)), (.int .i64 (.ofNat 0)), (.slice none 0 0)]), (.slice none 0 0), (.int .i64 (.ofNat 0)), (.bool false), (.int .i64 (.ofNat 0))]) := by kernel_rfl
theorem nx80 : closedVal Tryz.prog noOrc [] 1000 261 [(.string ⟨#[114, 101, 97, 100, 32, 120, 59, 32, 101, 99, 104, 111, 32, 36, 120]⟩), (.int .i64 (.ofNat 12))] = some (.tuple #[(.agg #[(.int .i64 (.ofNat 0)), (.int .i64 (.ofNat 0)), (.int .i64 (.ofNat 0)), (.int .i64 (.ofNat 0)), (.slice none 0 0)]), (.slice none 0 0), (.int .i64 (.ofNat 0)), (.bool false), (.int .i64 (.ofNat 0))]) := by kernel_rfl
theorem nx81 : closedVal Tryz.prog noOrc [] 1000 121 [(.string ⟨#[114, 101, 97, 100, 32, 120, 59, 32, 101, 99, 104, 111, 32, 36, 120]⟩), (.int .i64 (.ofNat 15))] = some (.tuple #[(.agg #[(.int .i64 (.ofNat 5)), (.int .i64 (.ofNat 15)), (.int .i64 (.ofNat 15)), (.string ⟨#[]⟩)]), (.int .i64 (.ofNat 0))]) := by kernel_rfl
theorem nx82 : closedVal Tryz.prog noOrc [] 1000 261 [(.string ⟨#[114, 101, 97, 100, 32, 120, 59, 32, 101, 99, 104, 111, 32, 36, 120]⟩), (.int .i64 (.ofNat 15))] = some (.tuple #[(.agg #[(.int .i64 (.ofNat 0)), (.int .i64 (.ofNat 0)), (.int .i64 (.ofNat 0)), (.int .i64 (.ofNat 0)), (.slice none 0 0)]), (.slice none 0 0), (.int .i64 (.ofNat 0)), (.bool false), (.int .i64 (.ofNat 0))]) := by kernel_rfl
noncomputable def nextTab : List (Nat × List Value × Value) := [(158, [(.string ⟨#[101, 99, 104, 111, 32, 36, 120, 59, 32, 101, 120, 105, 116, 59, 32, 97]⟩), (.int .i64 (.ofNat 0))], (.int .i64 (.ofNat 0))),
  (121, [(.string ⟨#[101, 99, 104, 111, 32, 36, 120, 59, 32, 101, 120, 105, 116, 59, 32, 97]⟩), (.int .i64 (.ofNat 0))], (.tuple #[(.agg #[(.int .i64 (.ofNat 1)), (.int .i64 (.ofNat 0)), (.int .i64 (.ofNat 4)), (.string ⟨#[101, 99, 104, 111]⟩)]), (.int .i64 (.ofNat 0))])),
  (158, [(.string ⟨#[101, 99, 104, 111, 32, 36, 120, 59, 32, 101, 120, 105, 116, 59, 32, 97]⟩), (.int .i64 (.ofNat 4))], (.int .i64 (.ofNat 5))),
  (121, [(.string ⟨#[101, 99, 104, 111, 32, 36, 120, 59, 32, 101, 120, 105, 116, 59, 32, 97]⟩), (.int .i64 (.ofNat 4))], (.tuple #[(.agg #[(.int .i64 (.ofNat 1)), (.int .i64 (.ofNat 5)), (.int .i64 (.ofNat 7)), (.string ⟨#[36, 120]⟩)]), (.int .i64 (.ofNat 0))])),
  (261, [(.string ⟨#[101, 99, 104, 111, 32, 36, 120, 59, 32, 101, 120, 105, 116, 59, 32, 97]⟩), (.int .i64 (.ofNat 0))], (.tuple #[(.agg #[(.int .i64 (.ofNat 0)), (.int .i64 (.ofNat 0)), (.int .i64 (.ofNat 0)), (.int .i64 (.ofNat 0)), (.slice none 0 0)]), (.slice none 0 0), (.int .i64 (.ofNat 0)), (.bool false), (.int .i64 (.ofNat 0))])),
  (261, [(.string ⟨#[101, 99, 104, 111, 32, 36, 120, 59, 32, 101, 120, 105, 116, 59, 32, 97]⟩), (.int .i64 (.ofNat 4))], (.tuple #[(.agg #[(.int .i64 (.ofNat 0)), (.int .i64 (.ofNat 0)), (.int .i64 (.ofNat 0)), (.int .i64 (.ofNat 0)), (.slice none 0 0)]), (.slice none 0 0), (.int .i64 (.ofNat 0)), (.bool false), (.int .i64 (.ofNat 0))])),
  (158, [(.string ⟨#[101, 99, 104, 111, 32, 36, 120, 59, 32, 101, 120, 105, 116, 59, 32, 97]⟩), (.int .i64 (.ofNat 7))], (.int .i64 (.ofNat 7))),
  (121, [(.string ⟨#[101, 99, 104, 111, 32, 36, 120, 59, 32, 101, 120, 105, 116, 59, 32, 97]⟩), (.int .i64 (.ofNat 7))], (.tuple #[(.agg #[(.int .i64 (.ofNat 2)), (.int .i64 (.ofNat 7)), (.int .i64 (.ofNat 8)), (.string ⟨#[59]⟩)]), (.int .i64 (.ofNat 0))])),
  (261, [(.string ⟨#[101, 99, 104, 111, 32, 36, 120, 59, 32, 101, 120, 105, 116, 59, 32, 97]⟩), (.int .i64 (.ofNat 7))], (.tuple #[(.agg #[(.int .i64 (.ofNat 0)), (.int .i64 (.ofNat 0)), (.int .i64 (.ofNat 0)), (.int .i64 (.ofNat 0)), (.slice none 0 0)]), (.slice none 0 0), (.int .i64 (.ofNat 0)), (.bool false), (.int .i64 (.ofNat 0))])),
  (158, [(.string ⟨#[101, 99, 104, 111, 32, 36, 120, 59, 32, 101, 120, 105, 116, 59, 32, 97]⟩), (.int .i64 (.ofNat 8))], (.int .i64 (.ofNat 9))),
  (121, [(.string ⟨#[101, 99, 104, 111, 32, 36, 120, 59, 32, 101, 120, 105, 116, 59, 32, 97]⟩), (.int .i64 (.ofNat 8))], (.tuple #[(.agg #[(.int .i64 (.ofNat 1)), (.int .i64 (.ofNat 9)), (.int .i64 (.ofNat 13)), (.string ⟨#[101, 120, 105, 116]⟩)]), (.int .i64 (.ofNat 0))])),
  (158, [(.string ⟨#[101, 99, 104, 111, 32, 36, 120, 59, 32, 101, 120, 105, 116, 59, 32, 97]⟩), (.int .i64 (.ofNat 13))], (.int .i64 (.ofNat 13))),
  (121, [(.string ⟨#[101, 99, 104, 111, 32, 36, 120, 59, 32, 101, 120, 105, 116, 59, 32, 97]⟩), (.int .i64 (.ofNat 13))], (.tuple #[(.agg #[(.int .i64 (.ofNat 2)), (.int .i64 (.ofNat 13)), (.int .i64 (.ofNat 14)), (.string ⟨#[59]⟩)]), (.int .i64 (.ofNat 0))])),
  (261, [(.string ⟨#[101, 99, 104, 111, 32, 36, 120, 59, 32, 101, 120, 105, 116, 59, 32, 97]⟩), (.int .i64 (.ofNat 8))], (.tuple #[(.agg #[(.int .i64 (.ofNat 0)), (.int .i64 (.ofNat 0)), (.int .i64 (.ofNat 0)), (.int .i64 (.ofNat 0)), (.slice none 0 0)]), (.slice none 0 0), (.int .i64 (.ofNat 0)), (.bool false), (.int .i64 (.ofNat 0))])),
  (261, [(.string ⟨#[101, 99, 104, 111, 32, 36, 120, 59, 32, 101, 120, 105, 116, 59, 32, 97]⟩), (.int .i64 (.ofNat 13))], (.tuple #[(.agg #[(.int .i64 (.ofNat 0)), (.int .i64 (.ofNat 0)), (.int .i64 (.ofNat 0)), (.int .i64 (.ofNat 0)), (.slice none 0 0)]), (.slice none 0 0), (.int .i64 (.ofNat 0)), (.bool false), (.int .i64 (.ofNat 0))])),
  (158, [(.string ⟨#[101, 99, 104, 111, 32, 36, 120, 59, 32, 101, 120, 105, 116, 59, 32, 97]⟩), (.int .i64 (.ofNat 14))], (.int .i64 (.ofNat 15))),
  (121, [(.string ⟨#[101, 99, 104, 111, 32, 36, 120, 59, 32, 101, 120, 105, 116, 59, 32, 97]⟩), (.int .i64 (.ofNat 14))], (.tuple #[(.agg #[(.int .i64 (.ofNat 1)), (.int .i64 (.ofNat 15)), (.int .i64 (.ofNat 16)), (.string ⟨#[97]⟩)]), (.int .i64 (.ofNat 0))])),
  (121, [(.string ⟨#[101, 99, 104, 111, 32, 36, 120, 59, 32, 101, 120, 105, 116, 59, 32, 97]⟩), (.int .i64 (.ofNat 16))], (.tuple #[(.agg #[(.int .i64 (.ofNat 5)), (.int .i64 (.ofNat 16)), (.int .i64 (.ofNat 16)), (.string ⟨#[]⟩)]), (.int .i64 (.ofNat 0))])),
  (261, [(.string ⟨#[101, 99, 104, 111, 32, 36, 120, 59, 32, 101, 120, 105, 116, 59, 32, 97]⟩), (.int .i64 (.ofNat 14))], (.tuple #[(.agg #[(.int .i64 (.ofNat 0)), (.int .i64 (.ofNat 0)), (.int .i64 (.ofNat 0)), (.int .i64 (.ofNat 0)), (.slice none 0 0)]), (.slice none 0 0), (.int .i64 (.ofNat 0)), (.bool false), (.int .i64 (.ofNat 0))])),
  (261, [(.string ⟨#[101, 99, 104, 111, 32, 36, 120, 59, 32, 101, 120, 105, 116, 59, 32, 97]⟩), (.int .i64 (.ofNat 16))], (.tuple #[(.agg #[(.int .i64 (.ofNat 0)), (.int .i64 (.ofNat 0)), (.int .i64 (.ofNat 0)), (.int .i64 (.ofNat 0)), (.slice none 0 0)]), (.slice none 0 0), (.int .i64 (.ofNat 0)), (.bool false), (.int .i64 (.ofNat 0))])),
  (158, [(.string ⟨#[101, 99, 104, 111, 32, 36, 120, 59, 32, 101, 120, 105, 116, 59, 32]⟩), (.int .i64 (.ofNat 0))], (.int .i64 (.ofNat 0))),
  (121, [(.string ⟨#[101, 99, 104, 111, 32, 36, 120, 59, 32, 101, 120, 105, 116, 59, 32]⟩), (.int .i64 (.ofNat 0))], (.tuple #[(.agg #[(.int .i64 (.ofNat 1)), (.int .i64 (.ofNat 0)), (.int .i64 (.ofNat 4)), (.string ⟨#[101, 99, 104, 111]⟩)]), (.int .i64 (.ofNat 0))])),
  (158, [(.string ⟨#[101, 99, 104, 111, 32, 36, 120, 59, 32, 101, 120, 105, 116, 59, 32]⟩), (.int .i64 (.ofNat 4))], (.int .i64 (.ofNat 5))),
  (121, [(.string ⟨#[101, 99, 104, 111, 32, 36, 120, 59, 32, 101, 120, 105, 116, 59, 32]⟩), (.int .i64 (.ofNat 4))], (.tuple #[(.agg #[(.int .i64 (.ofNat 1)), (.int .i64 (.ofNat 5)), (.int .i64 (.ofNat 7)), (.string ⟨#[36, 120]⟩)]), (.int .i64 (.ofNat 0))])),
  (261, [(.string ⟨#[101, 99, 104, 111, 32, 36, 120, 59, 32, 101, 120, 105, 116, 59, 32]⟩), (.int .i64 (.ofNat 0))], (.tuple #[(.agg #[(.int .i64 (.ofNat 0)), (.int .i64 (.ofNat 0)), (.int .i64 (.ofNat 0)), (.int .i64 (.ofNat 0)), (.slice none 0 0)]), (.slice none 0 0), (.int .i64 (.ofNat 0)), (.bool false), (.int .i64 (.ofNat 0))])),
  (261, [(.string ⟨#[101, 99, 104, 111, 32, 36, 120, 59, 32, 101, 120, 105, 116, 59, 32]⟩), (.int .i64 (.ofNat 4))], (.tuple #[(.agg #[(.int .i64 (.ofNat 0)), (.int .i64 (.ofNat 0)), (.int .i64 (.ofNat 0)), (.int .i64 (.ofNat 0)), (.slice none 0 0)]), (.slice none 0 0), (.int .i64 (.ofNat 0)), (.bool false), (.int .i64 (.ofNat 0))])),
  (158, [(.string ⟨#[101, 99, 104, 111, 32, 36, 120, 59, 32, 101, 120, 105, 116, 59, 32]⟩), (.int .i64 (.ofNat 7))], (.int .i64 (.ofNat 7))),
  (121, [(.string ⟨#[101, 99, 104, 111, 32, 36, 120, 59, 32, 101, 120, 105, 116, 59, 32]⟩), (.int .i64 (.ofNat 7))], (.tuple #[(.agg #[(.int .i64 (.ofNat 2)), (.int .i64 (.ofNat 7)), (.int .i64 (.ofNat 8)), (.string ⟨#[59]⟩)]), (.int .i64 (.ofNat 0))])),
  (261, [(.string ⟨#[101, 99, 104, 111, 32, 36, 120, 59, 32, 101, 120, 105, 116, 59, 32]⟩), (.int .i64 (.ofNat 7))], (.tuple #[(.agg #[(.int .i64 (.ofNat 0)), (.int .i64 (.ofNat 0)), (.int .i64 (.ofNat 0)), (.int .i64 (.ofNat 0)), (.slice none 0 0)]), (.slice none 0 0), (.int .i64 (.ofNat 0)), (.bool false), (.int .i64 (.ofNat 0))])),
  (158, [(.string ⟨#[101, 99, 104, 111, 32, 36, 120, 59, 32, 101, 120, 105, 116, 59, 32]⟩), (.int .i64 (.ofNat 8))], (.int .i64 (.ofNat 9))),
  (121, [(.string ⟨#[101, 99, 104, 111, 32, 36, 120, 59, 32, 101, 120, 105, 116, 59, 32]⟩), (.int .i64 (.ofNat 8))], (.tuple #[(.agg #[(.int .i64 (.ofNat 1)), (.int .i64 (.ofNat 9)), (.int .i64 (.ofNat 13)), (.string ⟨#[101, 120, 105, 116]⟩)]), (.int .i64 (.ofNat 0))])),
  (158, [(.string ⟨#[101, 99, 104, 111, 32, 36, 120, 59, 32, 101, 120, 105, 116, 59, 32]⟩), (.int .i64 (.ofNat 13))], (.int .i64 (.ofNat 13))),
  (121, [(.string ⟨#[101, 99, 104, 111, 32, 36, 120, 59, 32, 101, 120, 105, 116, 59, 32]⟩), (.int .i64 (.ofNat 13))], (.tuple #[(.agg #[(.int .i64 (.ofNat 2)), (.int .i64 (.ofNat 13)), (.int .i64 (.ofNat 14)), (.string ⟨#[59]⟩)]), (.int .i64 (.ofNat 0))])),
  (261, [(.string ⟨#[101, 99, 104, 111, 32, 36, 120, 59, 32, 101, 120, 105, 116, 59, 32]⟩), (.int .i64 (.ofNat 8))], (.tuple #[(.agg #[(.int .i64 (.ofNat 0)), (.int .i64 (.ofNat 0)), (.int .i64 (.ofNat 0)), (.int .i64 (.ofNat 0)), (.slice none 0 0)]), (.slice none 0 0), (.int .i64 (.ofNat 0)), (.bool false), (.int .i64 (.ofNat 0))])),
  (261, [(.string ⟨#[101, 99, 104, 111, 32, 36, 120, 59, 32, 101, 120, 105, 116, 59, 32]⟩), (.int .i64 (.ofNat 13))], (.tuple #[(.agg #[(.int .i64 (.ofNat 0)), (.int .i64 (.ofNat 0)), (.int .i64 (.ofNat 0)), (.int .i64 (.ofNat 0)), (.slice none 0 0)]), (.slice none 0 0), (.int .i64 (.ofNat 0)), (.bool false), (.int .i64 (.ofNat 0))])),
  (158, [(.string ⟨#[101, 99, 104, 111, 32, 36, 120, 59, 32, 101, 120, 105, 116, 59, 32]⟩), (.int .i64 (.ofNat 14))], (.int .i64 (.ofNat 15))),
  (121, [(.string ⟨#[101, 99, 104, 111, 32, 36, 120, 59, 32, 101, 120, 105, 116, 59, 32]⟩), (.int .i64 (.ofNat 14))], (.tuple #[(.agg #[(.int .i64 (.ofNat 5)), (.int .i64 (.ofNat 15)), (.int .i64 (.ofNat 15)), (.string ⟨#[]⟩)]), (.int .i64 (.ofNat 0))])),
  (158, [(.string ⟨#[101, 99, 104, 111, 32, 36, 120, 59, 32, 101, 120, 105, 116, 59, 32, 97]⟩), (.int .i64 (.ofNat 15))], (.int .i64 (.ofNat 15))),
  (121, [(.string ⟨#[101, 99, 104, 111, 32, 36, 120, 59, 32, 101, 120, 105, 116, 59, 32, 97]⟩), (.int .i64 (.ofNat 15))], (.tuple #[(.agg #[(.int .i64 (.ofNat 1)), (.int .i64 (.ofNat 15)), (.int .i64 (.ofNat 16)), (.string ⟨#[97]⟩)]), (.int .i64 (.ofNat 0))])),
  (166, [(.string ⟨#[101, 99, 104, 111]⟩), (.int .i64 (.ofNat 0))], (.int .i64 (.ofNat 1))),
  (166, [(.string ⟨#[101, 99, 104, 111]⟩), (.int .i64 (.ofNat 1))], (.int .i64 (.ofNat 2))),
  (166, [(.string ⟨#[101, 99, 104, 111]⟩), (.int .i64 (.ofNat 2))], (.int .i64 (.ofNat 3))),
  (166, [(.string ⟨#[101, 99, 104, 111]⟩), (.int .i64 (.ofNat 3))], (.int .i64 (.ofNat 4))),
  (158, [(.string ⟨#[101, 99, 104, 111, 32, 36, 120, 59, 32, 101, 120, 105, 116, 59, 32, 97]⟩), (.int .i64 (.ofNat 5))], (.int .i64 (.ofNat 5))),
  (121, [(.string ⟨#[101, 99, 104, 111, 32, 36, 120, 59, 32, 101, 120, 105, 116, 59, 32, 97]⟩), (.int .i64 (.ofNat 5))], (.tuple #[(.agg #[(.int .i64 (.ofNat 1)), (.int .i64 (.ofNat 5)), (.int .i64 (.ofNat 7)), (.string ⟨#[36, 120]⟩)]), (.int .i64 (.ofNat 0))])),
  (166, [(.string ⟨#[36, 120]⟩), (.int .i64 (.ofNat 0))], (.int .i64 (.ofNat 2))),
  (158, [(.string ⟨#[101, 99, 104, 111, 32, 36, 120, 59, 32, 101, 120, 105, 116, 59, 32, 97]⟩), (.int .i64 (.ofNat 9))], (.int .i64 (.ofNat 9))),
  (121, [(.string ⟨#[101, 99, 104, 111, 32, 36, 120, 59, 32, 101, 120, 105, 116, 59, 32, 97]⟩), (.int .i64 (.ofNat 9))], (.tuple #[(.agg #[(.int .i64 (.ofNat 1)), (.int .i64 (.ofNat 9)), (.int .i64 (.ofNat 13)), (.string ⟨#[101, 120, 105, 116]⟩)]), (.int .i64 (.ofNat 0))])),
  (166, [(.string ⟨#[101, 120, 105, 116]⟩), (.int .i64 (.ofNat 0))], (.int .i64 (.ofNat 1))),
  (166, [(.string ⟨#[101, 120, 105, 116]⟩), (.int .i64 (.ofNat 1))], (.int .i64 (.ofNat 2))),
  (166, [(.string ⟨#[101, 120, 105, 116]⟩), (.int .i64 (.ofNat 2))], (.int .i64 (.ofNat 3))),
  (166, [(.string ⟨#[101, 120, 105, 116]⟩), (.int .i64 (.ofNat 3))], (.int .i64 (.ofNat 4))),
  (166, [(.string ⟨#[97]⟩), (.int .i64 (.ofNat 0))], (.int .i64 (.ofNat 1))),
  (158, [(.string ⟨#[102, 105]⟩), (.int .i64 (.ofNat 0))], (.int .i64 (.ofNat 0))),
  (121, [(.string ⟨#[102, 105]⟩), (.int .i64 (.ofNat 0))], (.tuple #[(.agg #[(.int .i64 (.ofNat 1)), (.int .i64 (.ofNat 0)), (.int .i64 (.ofNat 2)), (.string ⟨#[102, 105]⟩)]), (.int .i64 (.ofNat 0))])),
  (261, [(.string ⟨#[102, 105]⟩), (.int .i64 (.ofNat 0))], (.tuple #[(.agg #[(.int .i64 (.ofNat 0)), (.int .i64 (.ofNat 0)), (.int .i64 (.ofNat 0)), (.int .i64 (.ofNat 0)), (.slice none 0 0)]), (.slice none 0 0), (.int .i64 (.ofNat 0)), (.bool false), (.int .i64 (.ofNat 0))])),
  (247, [(.string ⟨#[102, 105]⟩), (.int .i64 (.ofNat 0))], (.tuple #[(.agg #[(.int .i64 (.ofNat 0)), (.int .i64 (.ofNat 0)), (.string ⟨#[]⟩), (.bool false), (.slice none 0 0), (.slice none 0 0), (.slice none 0 0), (.slice none 0 0), (.slice none 0 0)]), (.slice none 0 0), (.int .i64 (.ofNat 0)), (.int .i64 (.ofNat 6))])),
  (9, [(.string ⟨#[102, 105]⟩)], (.tuple #[(.slice none 0 0), (.int .i64 (.ofNat 6))])),
  (158, [(.string ⟨#[101, 99, 104, 111, 32, 36, 120]⟩), (.int .i64 (.ofNat 0))], (.int .i64 (.ofNat 0))),
  (121, [(.string ⟨#[101, 99, 104, 111, 32, 36, 120]⟩), (.int .i64 (.ofNat 0))], (.tuple #[(.agg #[(.int .i64 (.ofNat 1)), (.int .i64 (.ofNat 0)), (.int .i64 (.ofNat 4)), (.string ⟨#[101, 99, 104, 111]⟩)]), (.int .i64 (.ofNat 0))])),
  (158, [(.string ⟨#[101, 99, 104, 111, 32, 36, 120]⟩), (.int .i64 (.ofNat 4))], (.int .i64 (.ofNat 5))),
  (121, [(.string ⟨#[101, 99, 104, 111, 32, 36, 120]⟩), (.int .i64 (.ofNat 4))], (.tuple #[(.agg #[(.int .i64 (.ofNat 1)), (.int .i64 (.ofNat 5)), (.int .i64 (.ofNat 7)), (.string ⟨#[36, 120]⟩)]), (.int .i64 (.ofNat 0))])),
  (261, [(.string ⟨#[101, 99, 104, 111, 32, 36, 120]⟩), (.int .i64 (.ofNat 0))], (.tuple #[(.agg #[(.int .i64 (.ofNat 0)), (.int .i64 (.ofNat 0)), (.int .i64 (.ofNat 0)), (.int .i64 (.ofNat 0)), (.slice none 0 0)]), (.slice none 0 0), (.int .i64 (.ofNat 0)), (.bool false), (.int .i64 (.ofNat 0))])),
  (261, [(.string ⟨#[101, 99, 104, 111, 32, 36, 120]⟩), (.int .i64 (.ofNat 4))], (.tuple #[(.agg #[(.int .i64 (.ofNat 0)), (.int .i64 (.ofNat 0)), (.int .i64 (.ofNat 0)), (.int .i64 (.ofNat 0)), (.slice none 0 0)]), (.slice none 0 0), (.int .i64 (.ofNat 0)), (.bool false), (.int .i64 (.ofNat 0))])),
  (121, [(.string ⟨#[101, 99, 104, 111, 32, 36, 120]⟩), (.int .i64 (.ofNat 7))], (.tuple #[(.agg #[(.int .i64 (.ofNat 5)), (.int .i64 (.ofNat 7)), (.int .i64 (.ofNat 7)), (.string ⟨#[]⟩)]), (.int .i64 (.ofNat 0))])),
  (261, [(.string ⟨#[101, 99, 104, 111, 32, 36, 120]⟩), (.int .i64 (.ofNat 7))], (.tuple #[(.agg #[(.int .i64 (.ofNat 0)), (.int .i64 (.ofNat 0)), (.int .i64 (.ofNat 0)), (.int .i64 (.ofNat 0)), (.slice none 0 0)]), (.slice none 0 0), (.int .i64 (.ofNat 0)), (.bool false), (.int .i64 (.ofNat 0))])),
  (158, [(.string ⟨#[114, 101, 97, 100, 32, 120, 59, 32, 101, 99, 104, 111, 32, 36, 120]⟩), (.int .i64 (.ofNat 0))], (.int .i64 (.ofNat 0))),
  (121, [(.string ⟨#[114, 101, 97, 100, 32, 120, 59, 32, 101, 99, 104, 111, 32, 36, 120]⟩), (.int .i64 (.ofNat 0))], (.tuple #[(.agg #[(.int .i64 (.ofNat 1)), (.int .i64 (.ofNat 0)), (.int .i64 (.ofNat 4)), (.string ⟨#[114, 101, 97, 100]⟩)]), (.int .i64 (.ofNat 0))])),
  (158, [(.string ⟨#[114, 101, 97, 100, 32, 120, 59, 32, 101, 99, 104, 111, 32, 36, 120]⟩), (.int .i64 (.ofNat 4))], (.int .i64 (.ofNat 5))),
  (121, [(.string ⟨#[114, 101, 97, 100, 32, 120, 59, 32, 101, 99, 104, 111, 32, 36, 120]⟩), (.int .i64 (.ofNat 4))], (.tuple #[(.agg #[(.int .i64 (.ofNat 1)), (.int .i64 (.ofNat 5)), (.int .i64 (.ofNat 6)), (.string ⟨#[120]⟩)]), (.int .i64 (.ofNat 0))])),
  (261, [(.string ⟨#[114, 101, 97, 100, 32, 120, 59, 32, 101, 99, 104, 111, 32, 36, 120]⟩), (.int .i64 (.ofNat 0))], (.tuple #[(.agg #[(.int .i64 (.ofNat 0)), (.int .i64 (.ofNat 0)), (.int .i64 (.ofNat 0)), (.int .i64 (.ofNat 0)), (.slice none 0 0)]), (.slice none 0 0), (.int .i64 (.ofNat 0)), (.bool false), (.int .i64 (.ofNat 0))])),
  (261, [(.string ⟨#[114, 101, 97, 100, 32, 120, 59, 32, 101, 99, 104, 111, 32, 36, 120]⟩), (.int .i64 (.ofNat 4))], (.tuple #[(.agg #[(.int .i64 (.ofNat 0)), (.int .i64 (.ofNat 0)), (.int .i64 (.ofNat 0)), (.int .i64 (.ofNat 0)), (.slice none 0 0)]), (.slice none 0 0), (.int .i64 (.ofNat 0)), (.bool false), (.int .i64 (.ofNat 0))])),
  (158, [(.string ⟨#[114, 101, 97, 100, 32, 120, 59, 32, 101, 99, 104, 111, 32, 36, 120]⟩), (.int .i64 (.ofNat 6))], (.int .i64 (.ofNat 6))),
  (121, [(.string ⟨#[114, 101, 97, 100, 32, 120, 59, 32, 101, 99, 104, 111, 32, 36, 120]⟩), (.int .i64 (.ofNat 6))], (.tuple #[(.agg #[(.int .i64 (.ofNat 2)), (.int .i64 (.ofNat 6)), (.int .i64 (.ofNat 7)), (.string ⟨#[59]⟩)]), (.int .i64 (.ofNat 0))])),
  (261, [(.string ⟨#[114, 101, 97, 100, 32, 120, 59, 32, 101, 99, 104, 111, 32, 36, 120]⟩), (.int .i64 (.ofNat 6))], (.tuple #[(.agg #[(.int .i64 (.ofNat 0)), (.int .i64 (.ofNat 0)), (.int .i64 (.ofNat 0)), (.int .i64 (.ofNat 0)), (.slice none 0 0)]), (.slice none 0 0), (.int .i64 (.ofNat 0)), (.bool false), (.int .i64 (.ofNat 0))])),
  (158, [(.string ⟨#[114, 101, 97, 100, 32, 120, 59, 32, 101, 99, 104, 111, 32, 36, 120]⟩), (.int .i64 (.ofNat 7))], (.int .i64 (.ofNat 8))),
  (121, [(.string ⟨#[114, 101, 97, 100, 32, 120, 59, 32, 101, 99, 104, 111, 32, 36, 120]⟩), (.int .i64 (.ofNat 7))], (.tuple #[(.agg #[(.int .i64 (.ofNat 1)), (.int .i64 (.ofNat 8)), (.int .i64 (.ofNat 12)), (.string ⟨#[101, 99, 104, 111]⟩)]), (.int .i64 (.ofNat 0))])),
  (158, [(.string ⟨#[114, 101, 97, 100, 32, 120, 59, 32, 101, 99, 104, 111, 32, 36, 120]⟩), (.int .i64 (.ofNat 12))], (.int .i64 (.ofNat 13))),
  (121, [(.string ⟨#[114, 101, 97, 100, 32, 120, 59, 32, 101, 99, 104, 111, 32, 36, 120]⟩), (.int .i64 (.ofNat 12))], (.tuple #[(.agg #[(.int .i64 (.ofNat 1)), (.int .i64 (.ofNat 13)), (.int .i64 (.ofNat 15)), (.string ⟨#[36, 120]⟩)]), (.int .i64 (.ofNat 0))])),
  (261, [(.string ⟨#[114, 101, 97, 100, 32, 120, 59, 32, 101, 99, 104, 111, 32, 36, 120]⟩), (.int .i64 (.ofNat 7))], (.tuple #[(.agg #[(.int .i64 (.ofNat 0)), (.int .i64 (.ofNat 0)), (.int .i64 (.ofNat 0)), (.int .i64 (.ofNat 0)), (.slice none 0 0)]), (.slice none 0 0), (.int .i64 (.ofNat 0)), (.bool false), (.int .i64 (.ofNat 0))])),
  (261, [(.string ⟨#[114, 101, 97, 100, 32, 120, 59, 32, 101, 99, 104, 111, 32, 36, 120]⟩), (.int .i64 (.ofNat 12))], (.tuple #[(.agg #[(.int .i64 (.ofNat 0)), (.int .i64 (.ofNat 0)), (.int .i64 (.ofNat 0)), (.int .i64 (.ofNat 0)), (.slice none 0 0)]), (.slice none 0 0), (.int .i64 (.ofNat 0)), (.bool false), (.int .i64 (.ofNat 0))])),
  (121, [(.string ⟨#[114, 101, 97, 100, 32, 120, 59, 32, 101, 99, 104, 111, 32, 36, 120]⟩), (.int .i64 (.ofNat 15))], (.tuple #[(.agg #[(.int .i64 (.ofNat 5)), (.int .i64 (.ofNat 15)), (.int .i64 (.ofNat 15)), (.string ⟨#[]⟩)]), (.int .i64 (.ofNat 0))])),
  (261, [(.string ⟨#[114, 101, 97, 100, 32, 120, 59, 32, 101, 99, 104, 111, 32, 36, 120]⟩), (.int .i64 (.ofNat 15))], (.tuple #[(.agg #[(.int .i64 (.ofNat 0)), (.int .i64 (.ofNat 0)), (.int .i64 (.ofNat 0)), (.int .i64 (.ofNat 0)), (.slice none 0 0)]), (.slice none 0 0), (.int .i64 (.ofNat 0)), (.bool false), (.int .i64 (.ofNat 0))]))]
theorem nextTab_ok : ∀ e ∈ nextTab, closedVal Tryz.prog noOrc [] 1000 e.1 e.2.1 = some e.2.2 := by
  intro e he
  simp only [nextTab, List.mem_cons, List.not_mem_nil, or_false] at he
  rcases he with rfl | rfl | rfl | rfl | rfl | rfl | rfl | rfl | rfl | rfl | rfl | rfl | rfl | rfl | rfl | rfl | rfl | rfl | rfl | rfl | rfl | rfl | rfl | rfl | rfl | rfl | rfl | rfl | rfl | rfl | rfl | rfl | rfl | rfl | rfl | rfl | rfl | rfl | rfl | rfl | rfl | rfl | rfl | rfl | rfl | rfl | rfl | rfl | rfl | rfl | rfl | rfl | rfl | rfl | rfl | rfl | rfl | rfl | rfl | rfl | rfl | rfl | rfl | rfl | rfl | rfl | rfl | rfl | rfl | rfl | rfl | rfl | rfl | rfl | rfl | rfl | rfl | rfl | rfl | rfl | rfl | rfl | rfl
  · exact nx0
  · exact nx1
  · exact nx2
  · exact nx3
  · exact nx4
  · exact nx5
  · exact nx6
  · exact nx7
  · exact nx8
  · exact nx9
  · exact nx10
  · exact nx11
  · exact nx12
  · exact nx13
  · exact nx14
  · exact nx15
  · exact nx16
  · exact nx17
  · exact nx18
  · exact nx19
  · exact nx20
  · exact nx21
  · exact nx22
  · exact nx23
  · exact nx24
  · exact nx25
  · exact nx26
  · exact nx27
  · exact nx28
  · exact nx29
  · exact nx30
  · exact nx31
  · exact nx32
  · exact nx33
  · exact nx34
  · exact nx35
  · exact nx36
  · exact nx37
  · exact nx38
  · exact nx39
  · exact nx40
  · exact nx41
  · exact nx42
  · exact nx43
  · exact nx44
  · exact nx45
  · exact nx46
  · exact nx47
  · exact nx48
  · exact nx49
  · exact nx50
  · exact nx51
  · exact nx52
  · exact nx53
  · exact nx54
  · exact nx55
  · exact nx56
  · exact nx57
  · exact nx58
  · exact nx59
  · exact nx60
  · exact nx61
  · exact nx62
  · exact nx63
  · exact nx64
  · exact nx65
  · exact nx66
  · exact nx67
  · exact nx68
  · exact nx69
  · exact nx70
  · exact nx71
  · exact nx72
  · exact nx73
  · exact nx74
  · exact nx75
  · exact nx76
  · exact nx77
  · exact nx78
  · exact nx79
  · exact nx80
  · exact nx81
  · exact nx82
end Go.Proofs.YtegkmccpnpfooaaGreatDoor
