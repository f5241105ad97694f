/- Functions of the program made ready for the run on values, by a program of ours; each is held against the program by the kernel. No statement is proved here. -/
import Derived.Test.YtdkcfccepjimbaaGreatDoorPeB
import Derived.Test.YtdkcfccepjimbaaGreatDoorProg
import Derived.KernelRfl
set_option linter.unusedSimpArgs false
set_option linter.unusedVariables false
namespace Go.Proofs.YtdkcfccepjimbaaGreatDoor
open Go Go.EvL Go.PE
/-- jobshell/jobshelllaw11.SyntaxSames -/
def p5 : PFn := ⟨29,
  (.seq (.reg [⟨some 2, .box 28 (.tmp 0), none⟩,
     ⟨some 3, .box 28 (.tmp 1), none⟩,
     ⟨some 4, .mv (.const (.bool false)), none⟩])
  (.seq (.seq (.reg [⟨some 5, .load 28 true 9 (.tmp 2), none⟩,
      ⟨some 6, .call (.func 11) [(.tmp 5)], none⟩,
      ⟨some 7, .bin .gtr 3 (.tmp 6) (.const (.int .i64 3000)), none⟩,
      ⟨some 8, .mv (.tmp 7), none⟩,
      ⟨some 9, .load 28 true 9 (.tmp 3), (some (8, false))⟩,
      ⟨some 10, .call (.func 11) [(.tmp 9)], (some (8, false))⟩,
      ⟨some 11, .bin .gtr 3 (.tmp 10) (.const (.int .i64 3000)), (some (8, false))⟩,
      ⟨some 12, .pick (.tmp 8) (.const (.bool true)) (.tmp 11), none⟩])
   (.cond (.tmp 12)
     (.seq (.reg [⟨some 13, .call (.func 12) [], none⟩,
        ⟨some 4, .mv (.tmp 13), none⟩])
     .ret)
     (.skip)))
  (.seq (.draw [(⟨some 14, .load 28 true 9 (.tmp 2), none⟩, [2], []),
     (⟨some 15, .load 28 true 9 (.tmp 3), none⟩, [3], [0]),
     (⟨some 16, .call (.func 20) [(.tmp 14), (.tmp 15)], none⟩, [14, 15], []),
     (⟨some 17, .load 28 true 9 (.tmp 2), none⟩, [2], [2, 1, 0]),
     (⟨some 18, .load 28 true 9 (.tmp 3), none⟩, [3], [3, 2, 1, 0]),
     (⟨some 19, .call (.func 21) [(.tmp 17), (.tmp 18)], none⟩, [17, 18], []),
     (⟨some 20, .bin .eql 4 (.tmp 16) (.tmp 19), none⟩, [16, 19], []),
     (⟨some 21, .mv (.tmp 20), none⟩, [20], []),
     (⟨some 22, .load 28 true 9 (.tmp 2), (some (21, true))⟩, [2, 21], []),
     (⟨some 23, .load 28 true 9 (.tmp 2), (some (21, true))⟩, [2, 21], [8]),
     (⟨some 24, .call (.func 20) [(.tmp 22), (.tmp 23)], (some (21, true))⟩, [22, 23, 21], []),
     (⟨some 25, .pick (.tmp 21) (.tmp 24) (.const (.bool false)), none⟩, [21, 24], []),
     (⟨some 26, .mv (.tmp 25), none⟩, [25], []),
     (⟨some 27, .call (.func 12) [], (some (26, true))⟩, [26], []),
     (⟨some 28, .pick (.tmp 26) (.tmp 27) (.const (.bool false)), none⟩, [26, 27], []),
     (⟨some 4, .mv (.tmp 28), none⟩, [28], [])])
  .ret))),
  [.tmp 4], false⟩

/-- jobshell/jobshelllaw11.SyntaxWalks -/
def p6 : PFn := ⟨15,
  (.seq (.reg [⟨some 1, .box 28 (.tmp 0), none⟩,
     ⟨some 2, .mv (.const (.bool false)), none⟩])
  (.seq (.seq (.reg [⟨some 3, .load 28 true 9 (.tmp 1), none⟩,
      ⟨some 4, .call (.func 11) [(.tmp 3)], none⟩,
      ⟨some 5, .bin .gtr 3 (.tmp 4) (.const (.int .i64 3000)), none⟩])
   (.cond (.tmp 5)
     (.seq (.reg [⟨some 6, .call (.func 12) [], none⟩,
        ⟨some 2, .mv (.tmp 6), none⟩])
     .ret)
     (.skip)))
  (.seq (.draw [(⟨some 7, .load 28 true 9 (.tmp 1), none⟩, [1], []),
     (⟨some 8, .call (.func 23) [(.tmp 7)], none⟩, [7], []),
     (⟨some 9, .load 28 true 9 (.tmp 1), none⟩, [1], [1, 0]),
     (⟨some 10, .call (.func 24) [(.tmp 9)], none⟩, [9], []),
     (⟨some 11, .call (.func 22) [(.tmp 8), (.tmp 10)], none⟩, [8, 10], []),
     (⟨some 12, .mv (.tmp 11), none⟩, [11], []),
     (⟨some 13, .call (.func 12) [], (some (12, true))⟩, [12], []),
     (⟨some 14, .pick (.tmp 12) (.tmp 13) (.const (.bool false)), none⟩, [12, 13], []),
     (⟨some 2, .mv (.tmp 14), none⟩, [14], [])])
  .ret))),
  [.tmp 2], false⟩

/-- jobshell/jobshelllaw11.SyntaxPaths -/
def p9 : PFn := ⟨64,
  (.seq (.reg [⟨some 3, .box 28 (.tmp 0), none⟩,
     ⟨some 6, .mv (.const (.bool false)), none⟩])
  (.seq (.seq (.reg [⟨some 14, .load 28 true 9 (.tmp 3), none⟩,
      ⟨some 15, .call (.func 11) [(.tmp 14)], none⟩,
      ⟨some 16, .bin .gtr 3 (.tmp 15) (.const (.int .i64 3000)), none⟩,
      ⟨some 17, .mv (.tmp 16), none⟩,
      ⟨some 18, .mv (.tmp 2), (some (17, false))⟩,
      ⟨some 19, .len false (.tmp 18), (some (17, false))⟩,
      ⟨some 20, .bin .gtr 3 (.tmp 19) (.const (.int .i64 40)), (some (17, false))⟩,
      ⟨some 21, .pick (.tmp 17) (.const (.bool true)) (.tmp 20), none⟩])
   (.cond (.tmp 21)
     (.seq (.reg [⟨some 22, .call (.func 12) [], none⟩,
        ⟨some 6, .mv (.tmp 22), none⟩])
     .ret)
     (.skip)))
  (.seq (.reg [⟨some 23, .load 28 true 9 (.tmp 3), none⟩,
     ⟨some 24, .mv (.tmp 1), none⟩,
     ⟨some 25, .call (.func 30) [(.tmp 23), (.tmp 24)], none⟩,
     ⟨some 7, .mv (.tmp 25), none⟩])
  (.seq (.seq (.reg [⟨some 26, .mv (.tmp 7), none⟩,
      ⟨some 27, .load 28 true 9 (.tmp 3), none⟩,
      ⟨some 28, .mv (.tmp 1), none⟩,
      ⟨some 29, .call (.func 32) [(.tmp 27), (.tmp 28)], none⟩,
      ⟨some 30, .call (.func 31) [(.tmp 26), (.tmp 29)], none⟩,
      ⟨some 31, .un .not (.tmp 30), none⟩])
   (.cond (.tmp 31)
     (.seq (.reg [⟨some 6, .mv (.const (.bool false)), none⟩])
     .ret)
     (.skip)))
  (.seq (.reg [⟨some 33, .load 28 true 9 (.tmp 3), none⟩,
     ⟨some 34, .mv (.tmp 7), none⟩,
     ⟨some 35, .call (.func 28) [(.tmp 33), (.tmp 34)], none⟩,
     ⟨some 32, .mv (.tmp 35), none⟩,
     ⟨some 36, .ext (.tmp 32) 0, none⟩,
     ⟨some 37, .ext (.tmp 32) 1, none⟩,
     ⟨some 8, .alloc 28 (.agg #[(.int .i64 0), (.int .i64 0), (.string ⟨#[]⟩), (.bool false), (.slice none 0 0), (.slice none 0 0), (.slice none 0 0), (.slice none 0 0), (.slice none 0 0)]), none⟩,
     ⟨none, .store 28 9 (.tmp 8) (.tmp 36), none⟩,
     ⟨some 9, .mv (.tmp 37), none⟩])
  (.seq (.reg [⟨some 39, .load 28 true 9 (.tmp 3), none⟩,
     ⟨some 40, .mv (.tmp 2), none⟩,
     ⟨some 41, .call (.func 28) [(.tmp 39), (.tmp 40)], none⟩,
     ⟨some 38, .mv (.tmp 41), none⟩,
     ⟨some 42, .ext (.tmp 38) 0, none⟩,
     ⟨some 43, .ext (.tmp 38) 1, none⟩,
     ⟨some 10, .alloc 28 (.agg #[(.int .i64 0), (.int .i64 0), (.string ⟨#[]⟩), (.bool false), (.slice none 0 0), (.slice none 0 0), (.slice none 0 0), (.slice none 0 0), (.slice none 0 0)]), none⟩,
     ⟨none, .store 28 9 (.tmp 10) (.tmp 42), none⟩,
     ⟨some 11, .mv (.tmp 43), none⟩])
  (.seq (.reg [⟨some 45, .load 28 true 9 (.tmp 3), none⟩,
     ⟨some 46, .mv (.tmp 2), none⟩,
     ⟨some 47, .call (.func 29) [(.tmp 45), (.tmp 46)], none⟩,
     ⟨some 44, .mv (.tmp 47), none⟩,
     ⟨some 48, .ext (.tmp 44) 0, none⟩,
     ⟨some 49, .ext (.tmp 44) 1, none⟩,
     ⟨some 12, .alloc 28 (.agg #[(.int .i64 0), (.int .i64 0), (.string ⟨#[]⟩), (.bool false), (.slice none 0 0), (.slice none 0 0), (.slice none 0 0), (.slice none 0 0), (.slice none 0 0)]), none⟩,
     ⟨none, .store 28 9 (.tmp 12) (.tmp 48), none⟩,
     ⟨some 13, .mv (.tmp 49), none⟩])
  (.seq (.reg [⟨some 50, .mv (.tmp 9), none⟩,
     ⟨some 51, .mv (.tmp 50), none⟩,
     ⟨some 52, .mv (.tmp 11), (some (51, true))⟩,
     ⟨some 53, .mv (.tmp 13), (some (51, true))⟩,
     ⟨some 54, .bin .eql 4 (.tmp 52) (.tmp 53), (some (51, true))⟩,
     ⟨some 55, .pick (.tmp 51) (.tmp 54) (.const (.bool false)), none⟩,
     ⟨some 56, .mv (.tmp 55), none⟩,
     ⟨some 57, .load 28 true 9 (.tmp 10), (some (56, true))⟩,
     ⟨some 58, .load 28 true 9 (.tmp 12), (some (56, true))⟩,
     ⟨some 59, .call (.func 27) [(.tmp 57), (.tmp 58)], (some (56, true))⟩,
     ⟨some 60, .pick (.tmp 56) (.tmp 59) (.const (.bool false)), none⟩,
     ⟨some 61, .mv (.tmp 60), none⟩,
     ⟨some 62, .call (.func 12) [], (some (61, true))⟩,
     ⟨some 63, .pick (.tmp 61) (.tmp 62) (.const (.bool false)), none⟩,
     ⟨some 6, .mv (.tmp 63), none⟩])
  .ret)))))))),
  [.tmp 6], false⟩

/-- jobshell/jobshellref11.Weight -/
def p11 : PFn := ⟨82,
  (.seq (.reg [⟨some 1, .box 28 (.tmp 0), none⟩,
     ⟨some 2, .mv (.const (.int .i64 0)), none⟩])
  (.seq (.reg [⟨some 11, .faddr 2 (.tmp 1), none⟩,
     ⟨some 12, .load 9 false 1 (.tmp 11), none⟩,
     ⟨some 13, .len true (.tmp 12), none⟩,
     ⟨some 14, .bin .add 3 (.const (.int .i64 1)) (.tmp 13), none⟩,
     ⟨some 15, .faddr 4 (.tmp 1), none⟩,
     ⟨some 16, .load 22 false 1 (.tmp 15), none⟩,
     ⟨some 17, .len false (.tmp 16), none⟩,
     ⟨some 18, .bin .add 3 (.tmp 14) (.tmp 17), none⟩,
     ⟨some 19, .faddr 6 (.tmp 1), none⟩,
     ⟨some 20, .load 24 false 1 (.tmp 19), none⟩,
     ⟨some 21, .len false (.tmp 20), none⟩,
     ⟨some 22, .bin .add 3 (.tmp 18) (.tmp 21), none⟩,
     ⟨some 23, .faddr 8 (.tmp 1), none⟩,
     ⟨some 24, .load 26 false 1 (.tmp 23), none⟩,
     ⟨some 25, .len false (.tmp 24), none⟩,
     ⟨some 26, .bin .add 3 (.tmp 22) (.tmp 25), none⟩,
     ⟨some 3, .mv (.tmp 26), none⟩])
  (.seq (.seq (.reg [⟨some 4, .mv (.const (.int .i64 0)), none⟩])
   (.block 0
     (.loop
       (.seq (.seq (.reg [⟨some 27, .mv (.tmp 4), none⟩,
           ⟨some 28, .faddr 4 (.tmp 1), none⟩,
           ⟨some 29, .load 22 false 1 (.tmp 28), none⟩,
           ⟨some 30, .len false (.tmp 29), none⟩,
           ⟨some 31, .bin .lss 3 (.tmp 27) (.tmp 30), none⟩])
        (.cond (.tmp 31)
          (.skip)
          (.exit 0)))
       (.seq (.block 1
          (.reg [⟨some 34, .mv (.tmp 3), none⟩,
            ⟨some 35, .faddr 4 (.tmp 1), none⟩,
            ⟨some 36, .load 22 false 1 (.tmp 35), none⟩,
            ⟨some 37, .mv (.tmp 4), none⟩,
            ⟨some 38, .iaddr 4 (.tmp 36) (.tmp 37), none⟩,
            ⟨some 39, .faddr 1 (.tmp 38), none⟩,
            ⟨some 40, .load 9 false 1 (.tmp 39), none⟩,
            ⟨some 41, .len true (.tmp 40), none⟩,
            ⟨some 42, .bin .add 3 (.tmp 34) (.tmp 41), none⟩,
            ⟨some 3, .mv (.tmp 42), none⟩]))
       (.reg [⟨some 32, .mv (.tmp 4), none⟩,
         ⟨some 33, .bin .add 3 (.tmp 32) (.const (.int .i64 1)), none⟩,
         ⟨some 4, .mv (.tmp 33), none⟩]))))))
  (.seq (.reg [⟨some 43, .load 28 true 9 (.tmp 1), none⟩,
     ⟨some 44, .call (.func 38) [(.tmp 43)], none⟩,
     ⟨some 5, .mv (.tmp 44), none⟩])
  (.seq (.seq (.reg [⟨some 6, .mv (.const (.int .i64 0)), none⟩])
   (.block 2
     (.loop
       (.seq (.seq (.reg [⟨some 45, .mv (.tmp 6), none⟩,
           ⟨some 46, .mv (.tmp 5), none⟩,
           ⟨some 47, .len false (.tmp 46), none⟩,
           ⟨some 48, .bin .lss 3 (.tmp 45) (.tmp 47), none⟩])
        (.cond (.tmp 48)
          (.skip)
          (.exit 2)))
       (.seq (.block 3
          (.seq (.reg [⟨some 52, .mv (.tmp 5), none⟩,
             ⟨some 53, .mv (.tmp 6), none⟩,
             ⟨some 54, .iaddr 2 (.tmp 52) (.tmp 53), none⟩,
             ⟨some 55, .faddr 1 (.tmp 54), none⟩,
             ⟨some 56, .load 54 false 1 (.tmp 55), none⟩,
             ⟨some 57, .call (.func 39) [(.tmp 56)], none⟩,
             ⟨some 51, .mv (.tmp 57), none⟩,
             ⟨some 58, .ext (.tmp 51) 0, none⟩,
             ⟨some 59, .ext (.tmp 51) 1, none⟩,
             ⟨some 7, .mv (.tmp 58), none⟩,
             ⟨some 8, .mv (.tmp 59), none⟩])
          (.reg [⟨some 60, .mv (.tmp 3), none⟩,
            ⟨some 61, .bin .add 3 (.tmp 60) (.const (.int .i64 1)), none⟩,
            ⟨some 62, .mv (.tmp 7), none⟩,
            ⟨some 63, .bin .add 3 (.tmp 61) (.tmp 62), none⟩,
            ⟨some 64, .mv (.tmp 8), none⟩,
            ⟨some 65, .bin .add 3 (.tmp 63) (.tmp 64), none⟩,
            ⟨some 3, .mv (.tmp 65), none⟩])))
       (.reg [⟨some 49, .mv (.tmp 6), none⟩,
         ⟨some 50, .bin .add 3 (.tmp 49) (.const (.int .i64 1)), none⟩,
         ⟨some 6, .mv (.tmp 50), none⟩]))))))
  (.seq (.reg [⟨some 66, .load 28 true 9 (.tmp 1), none⟩,
     ⟨some 67, .call (.func 40) [(.tmp 66)], none⟩,
     ⟨some 9, .mv (.tmp 67), none⟩])
  (.seq (.seq (.reg [⟨some 10, .mv (.const (.int .i64 0)), none⟩])
   (.block 4
     (.loop
       (.seq (.seq (.reg [⟨some 68, .mv (.tmp 10), none⟩,
           ⟨some 69, .mv (.tmp 9), none⟩,
           ⟨some 70, .len false (.tmp 69), none⟩,
           ⟨some 71, .bin .lss 3 (.tmp 68) (.tmp 70), none⟩])
        (.cond (.tmp 71)
          (.skip)
          (.exit 4)))
       (.seq (.block 5
          (.reg [⟨some 74, .mv (.tmp 3), none⟩,
            ⟨some 75, .mv (.tmp 9), none⟩,
            ⟨some 76, .mv (.tmp 10), none⟩,
            ⟨some 77, .iaddr 9 (.tmp 75) (.tmp 76), none⟩,
            ⟨some 78, .load 28 true 9 (.tmp 77), none⟩,
            ⟨some 79, .call (.func 11) [(.tmp 78)], none⟩,
            ⟨some 80, .bin .add 3 (.tmp 74) (.tmp 79), none⟩,
            ⟨some 3, .mv (.tmp 80), none⟩]))
       (.reg [⟨some 72, .mv (.tmp 10), none⟩,
         ⟨some 73, .bin .add 3 (.tmp 72) (.const (.int .i64 1)), none⟩,
         ⟨some 10, .mv (.tmp 73), none⟩]))))))
  (.seq (.reg [⟨some 81, .mv (.tmp 3), none⟩,
     ⟨some 2, .mv (.tmp 81), none⟩])
  .ret)))))))),
  [.tmp 2], false⟩

/-- jobshell/syntax.Same -/
def p20 : PFn := ⟨59,
  (.seq (.reg [⟨some 2, .box 28 (.tmp 0), none⟩,
     ⟨some 3, .box 28 (.tmp 1), none⟩,
     ⟨some 4, .mv (.const (.bool false)), none⟩])
  (.seq (.reg [⟨some 5, .faddr 0 (.tmp 2), none⟩,
     ⟨some 6, .load 3 false 1 (.tmp 5), none⟩,
     ⟨some 7, .faddr 0 (.tmp 3), none⟩,
     ⟨some 8, .load 3 false 1 (.tmp 7), none⟩,
     ⟨some 9, .bin .eql 3 (.tmp 6) (.tmp 8), none⟩,
     ⟨some 10, .mv (.tmp 9), none⟩,
     ⟨some 11, .faddr 2 (.tmp 2), (some (10, true))⟩,
     ⟨some 12, .load 9 false 1 (.tmp 11), (some (10, true))⟩,
     ⟨some 13, .faddr 2 (.tmp 3), (some (10, true))⟩,
     ⟨some 14, .load 9 false 1 (.tmp 13), (some (10, true))⟩,
     ⟨some 15, .bin .eql 9 (.tmp 12) (.tmp 14), (some (10, true))⟩,
     ⟨some 16, .pick (.tmp 10) (.tmp 15) (.const (.bool false)), none⟩,
     ⟨some 17, .mv (.tmp 16), none⟩,
     ⟨some 18, .faddr 3 (.tmp 2), (some (17, true))⟩,
     ⟨some 19, .load 4 false 1 (.tmp 18), (some (17, true))⟩,
     ⟨some 20, .faddr 3 (.tmp 3), (some (17, true))⟩,
     ⟨some 21, .load 4 false 1 (.tmp 20), (some (17, true))⟩,
     ⟨some 22, .bin .eql 4 (.tmp 19) (.tmp 21), (some (17, true))⟩,
     ⟨some 23, .pick (.tmp 17) (.tmp 22) (.const (.bool false)), none⟩,
     ⟨some 24, .mv (.tmp 23), none⟩,
     ⟨some 25, .faddr 4 (.tmp 2), (some (24, true))⟩,
     ⟨some 26, .load 22 false 1 (.tmp 25), (some (24, true))⟩,
     ⟨some 27, .faddr 4 (.tmp 3), (some (24, true))⟩,
     ⟨some 28, .load 22 false 1 (.tmp 27), (some (24, true))⟩,
     ⟨some 29, .call (.func 45) [(.tmp 26), (.tmp 28), (.func 46)], (some (24, true))⟩,
     ⟨some 30, .pick (.tmp 24) (.tmp 29) (.const (.bool false)), none⟩,
     ⟨some 31, .mv (.tmp 30), none⟩,
     ⟨some 32, .faddr 5 (.tmp 2), (some (31, true))⟩,
     ⟨some 33, .load 23 false 1 (.tmp 32), (some (31, true))⟩,
     ⟨some 34, .faddr 5 (.tmp 3), (some (31, true))⟩,
     ⟨some 35, .load 23 false 1 (.tmp 34), (some (31, true))⟩,
     ⟨some 36, .call (.func 48) [(.tmp 33), (.tmp 35), (.func 47)], (some (31, true))⟩,
     ⟨some 37, .pick (.tmp 31) (.tmp 36) (.const (.bool false)), none⟩,
     ⟨some 38, .mv (.tmp 37), none⟩,
     ⟨some 39, .faddr 6 (.tmp 2), (some (38, true))⟩,
     ⟨some 40, .load 24 false 1 (.tmp 39), (some (38, true))⟩,
     ⟨some 41, .faddr 6 (.tmp 3), (some (38, true))⟩,
     ⟨some 42, .load 24 false 1 (.tmp 41), (some (38, true))⟩,
     ⟨some 43, .call (.func 49) [(.tmp 40), (.tmp 42), (.func 50)], (some (38, true))⟩,
     ⟨some 44, .pick (.tmp 38) (.tmp 43) (.const (.bool false)), none⟩,
     ⟨some 45, .mv (.tmp 44), none⟩,
     ⟨some 46, .faddr 7 (.tmp 2), (some (45, true))⟩,
     ⟨some 47, .load 25 false 1 (.tmp 46), (some (45, true))⟩,
     ⟨some 48, .faddr 7 (.tmp 3), (some (45, true))⟩,
     ⟨some 49, .load 25 false 1 (.tmp 48), (some (45, true))⟩,
     ⟨some 50, .call (.func 51) [(.tmp 47), (.tmp 49), (.func 20)], (some (45, true))⟩,
     ⟨some 51, .pick (.tmp 45) (.tmp 50) (.const (.bool false)), none⟩,
     ⟨some 52, .mv (.tmp 51), none⟩,
     ⟨some 53, .faddr 8 (.tmp 2), (some (52, true))⟩,
     ⟨some 54, .load 26 false 1 (.tmp 53), (some (52, true))⟩,
     ⟨some 55, .faddr 8 (.tmp 3), (some (52, true))⟩,
     ⟨some 56, .load 26 false 1 (.tmp 55), (some (52, true))⟩,
     ⟨some 57, .call (.func 52) [(.tmp 54), (.tmp 56), (.func 53)], (some (52, true))⟩,
     ⟨some 58, .pick (.tmp 52) (.tmp 57) (.const (.bool false)), none⟩,
     ⟨some 4, .mv (.tmp 58), none⟩])
  .ret)),
  [.tmp 4], false⟩

/-- jobshell/jobshellref11.Same -/
def p21 : PFn := ⟨59,
  (.seq (.reg [⟨some 2, .box 28 (.tmp 0), none⟩,
     ⟨some 3, .box 28 (.tmp 1), none⟩,
     ⟨some 4, .mv (.const (.bool false)), none⟩])
  (.seq (.seq (.reg [⟨some 5, .faddr 0 (.tmp 2), none⟩,
      ⟨some 6, .load 3 false 1 (.tmp 5), none⟩,
      ⟨some 7, .faddr 0 (.tmp 3), none⟩,
      ⟨some 8, .load 3 false 1 (.tmp 7), none⟩,
      ⟨some 9, .bin .neq 3 (.tmp 6) (.tmp 8), none⟩,
      ⟨some 10, .mv (.tmp 9), none⟩,
      ⟨some 11, .faddr 2 (.tmp 2), (some (10, false))⟩,
      ⟨some 12, .load 9 false 1 (.tmp 11), (some (10, false))⟩,
      ⟨some 13, .faddr 2 (.tmp 3), (some (10, false))⟩,
      ⟨some 14, .load 9 false 1 (.tmp 13), (some (10, false))⟩,
      ⟨some 15, .bin .neq 9 (.tmp 12) (.tmp 14), (some (10, false))⟩,
      ⟨some 16, .pick (.tmp 10) (.const (.bool true)) (.tmp 15), none⟩,
      ⟨some 17, .mv (.tmp 16), none⟩,
      ⟨some 18, .faddr 3 (.tmp 2), (some (17, false))⟩,
      ⟨some 19, .load 4 false 1 (.tmp 18), (some (17, false))⟩,
      ⟨some 20, .faddr 3 (.tmp 3), (some (17, false))⟩,
      ⟨some 21, .load 4 false 1 (.tmp 20), (some (17, false))⟩,
      ⟨some 22, .bin .neq 4 (.tmp 19) (.tmp 21), (some (17, false))⟩,
      ⟨some 23, .pick (.tmp 17) (.const (.bool true)) (.tmp 22), none⟩,
      ⟨some 24, .mv (.tmp 23), none⟩,
      ⟨some 25, .faddr 4 (.tmp 2), (some (24, false))⟩,
      ⟨some 26, .load 22 false 1 (.tmp 25), (some (24, false))⟩,
      ⟨some 27, .faddr 4 (.tmp 3), (some (24, false))⟩,
      ⟨some 28, .load 22 false 1 (.tmp 27), (some (24, false))⟩,
      ⟨some 29, .call (.func 54) [(.tmp 26), (.tmp 28)], (some (24, false))⟩,
      ⟨some 30, .un .not (.tmp 29), (some (24, false))⟩,
      ⟨some 31, .pick (.tmp 24) (.const (.bool true)) (.tmp 30), none⟩,
      ⟨some 32, .mv (.tmp 31), none⟩,
      ⟨some 33, .faddr 5 (.tmp 2), (some (32, false))⟩,
      ⟨some 34, .load 23 false 1 (.tmp 33), (some (32, false))⟩,
      ⟨some 35, .faddr 5 (.tmp 3), (some (32, false))⟩,
      ⟨some 36, .load 23 false 1 (.tmp 35), (some (32, false))⟩,
      ⟨some 37, .call (.func 55) [(.tmp 34), (.tmp 36)], (some (32, false))⟩,
      ⟨some 38, .un .not (.tmp 37), (some (32, false))⟩,
      ⟨some 39, .pick (.tmp 32) (.const (.bool true)) (.tmp 38), none⟩])
   (.cond (.tmp 39)
     (.seq (.reg [⟨some 4, .mv (.const (.bool false)), none⟩])
     .ret)
     (.skip)))
  (.seq (.reg [⟨some 40, .faddr 6 (.tmp 2), none⟩,
     ⟨some 41, .load 24 false 1 (.tmp 40), none⟩,
     ⟨some 42, .faddr 6 (.tmp 3), none⟩,
     ⟨some 43, .load 24 false 1 (.tmp 42), none⟩,
     ⟨some 44, .call (.func 56) [(.tmp 41), (.tmp 43)], none⟩,
     ⟨some 45, .mv (.tmp 44), none⟩,
     ⟨some 46, .faddr 7 (.tmp 2), (some (45, true))⟩,
     ⟨some 47, .load 25 false 1 (.tmp 46), (some (45, true))⟩,
     ⟨some 48, .faddr 7 (.tmp 3), (some (45, true))⟩,
     ⟨some 49, .load 25 false 1 (.tmp 48), (some (45, true))⟩,
     ⟨some 50, .call (.func 57) [(.tmp 47), (.tmp 49)], (some (45, true))⟩,
     ⟨some 51, .pick (.tmp 45) (.tmp 50) (.const (.bool false)), none⟩,
     ⟨some 52, .mv (.tmp 51), none⟩,
     ⟨some 53, .faddr 8 (.tmp 2), (some (52, true))⟩,
     ⟨some 54, .load 26 false 1 (.tmp 53), (some (52, true))⟩,
     ⟨some 55, .faddr 8 (.tmp 3), (some (52, true))⟩,
     ⟨some 56, .load 26 false 1 (.tmp 55), (some (52, true))⟩,
     ⟨some 57, .call (.func 58) [(.tmp 54), (.tmp 56)], (some (52, true))⟩,
     ⟨some 58, .pick (.tmp 52) (.tmp 57) (.const (.bool false)), none⟩,
     ⟨some 4, .mv (.tmp 58), none⟩])
  .ret))),
  [.tmp 4], false⟩

/-- jobshell/jobshellref11.ExactAll -/
def p22 : PFn := ⟨27,
  (.seq (.reg [⟨some 4, .mv (.const (.bool false)), none⟩])
  (.seq (.seq (.reg [⟨some 6, .mv (.tmp 0), none⟩,
      ⟨some 7, .len false (.tmp 6), none⟩,
      ⟨some 8, .mv (.tmp 1), none⟩,
      ⟨some 9, .len false (.tmp 8), none⟩,
      ⟨some 10, .bin .neq 3 (.tmp 7) (.tmp 9), none⟩])
   (.cond (.tmp 10)
     (.seq (.reg [⟨some 4, .mv (.const (.bool false)), none⟩])
     .ret)
     (.skip)))
  (.seq (.seq (.reg [⟨some 5, .mv (.const (.int .i64 0)), none⟩])
   (.block 0
     (.loop
       (.seq (.seq (.reg [⟨some 11, .mv (.tmp 5), none⟩,
           ⟨some 12, .mv (.tmp 0), none⟩,
           ⟨some 13, .len false (.tmp 12), none⟩,
           ⟨some 14, .bin .lss 3 (.tmp 11) (.tmp 13), none⟩])
        (.cond (.tmp 14)
          (.skip)
          (.exit 0)))
       (.seq (.block 1
          (.seq (.draw [(⟨some 17, .mv (.tmp 0), none⟩, [0], []),
             (⟨some 18, .mv (.tmp 5), none⟩, [5], [0]),
             (⟨some 19, .iaddr 9 (.tmp 17) (.tmp 18), none⟩, [17, 18], []),
             (⟨some 20, .load 28 true 9 (.tmp 19), none⟩, [19], []),
             (⟨some 21, .mv (.tmp 1), none⟩, [1], [3, 2, 1, 0]),
             (⟨some 22, .mv (.tmp 5), none⟩, [5], [4, 3, 2, 1, 0]),
             (⟨some 23, .iaddr 9 (.tmp 21) (.tmp 22), none⟩, [21, 22], [3, 2, 1, 0]),
             (⟨some 24, .load 28 true 9 (.tmp 23), none⟩, [23], [3, 2, 1, 0]),
             (⟨some 25, .call (.func 27) [(.tmp 20), (.tmp 24)], none⟩, [20, 24], []),
             (⟨some 26, .un .not (.tmp 25), none⟩, [25], [])])
          (.cond (.tmp 26)
            (.seq (.reg [⟨some 4, .mv (.const (.bool false)), none⟩])
            .ret)
            (.skip))))
       (.reg [⟨some 15, .mv (.tmp 5), none⟩,
         ⟨some 16, .bin .add 3 (.tmp 15) (.const (.int .i64 1)), none⟩,
         ⟨some 5, .mv (.tmp 16), none⟩]))))))
  (.seq (.reg [⟨some 4, .mv (.const (.bool true)), none⟩])
  .ret)))),
  [.tmp 4], false⟩

/-- jobshell/syntax.Walk -/
def p23 : PFn := ⟨22,
  (.seq (.reg [⟨some 1, .box 28 (.tmp 0), none⟩,
     ⟨some 2, .mv (.const (.slice none 0 0)), none⟩])
  (.seq (.reg [⟨some 6, .load 28 true 9 (.tmp 1), none⟩,
     ⟨some 7, .call (.func 41) [(.tmp 6)], none⟩,
     ⟨some 3, .mv (.tmp 7), none⟩])
  (.seq (.seq (.reg [⟨some 8, .mv (.tmp 3), none⟩,
      ⟨some 9, .len false (.tmp 8), none⟩,
      ⟨some 10, .mv (.const (.int .i64 0)), none⟩])
   (.block 0
     (.loop
       (.seq (.reg [⟨some 11, .bin .lss 3 (.tmp 10) (.tmp 9), none⟩])
       (.seq (.cond (.tmp 11)
          (.skip)
          (.exit 0))
       (.seq (.block 1
          (.seq (.reg [⟨some 12, .mv (.tmp 10), none⟩,
             ⟨some 13, .iaddr 9 (.tmp 8) (.tmp 10), none⟩,
             ⟨some 14, .load 28 true 9 (.tmp 13), none⟩,
             ⟨some 5, .alloc 28 (.agg #[(.int .i64 0), (.int .i64 0), (.string ⟨#[]⟩), (.bool false), (.slice none 0 0), (.slice none 0 0), (.slice none 0 0), (.slice none 0 0), (.slice none 0 0)]), none⟩,
             ⟨some 4, .mv (.tmp 12), none⟩,
             ⟨none, .store 28 9 (.tmp 5) (.tmp 14), none⟩])
          (.reg [⟨some 15, .mv (.tmp 3), none⟩,
            ⟨some 16, .mv (.tmp 4), none⟩,
            ⟨some 17, .load 28 true 9 (.tmp 5), none⟩,
            ⟨some 18, .call (.func 59) [(.tmp 17)], none⟩,
            ⟨some 19, .iaddr 9 (.tmp 15) (.tmp 16), none⟩,
            ⟨none, .store 28 9 (.tmp 19) (.tmp 18), none⟩])))
       (.reg [⟨some 20, .bin .add 3 (.tmp 10) (.const (.int .i64 1)), none⟩,
         ⟨some 10, .mv (.tmp 20), none⟩])))))))
  (.seq (.reg [⟨some 21, .mv (.tmp 3), none⟩,
     ⟨some 2, .mv (.tmp 21), none⟩])
  .ret)))),
  [.tmp 2], false⟩

/-- jobshell/jobshellref11.Walk -/
def p24 : PFn := ⟨24,
  (.seq (.reg [⟨some 1, .box 28 (.tmp 0), none⟩,
     ⟨some 2, .mv (.const (.slice none 0 0)), none⟩])
  (.seq (.reg [⟨some 6, .load 28 true 9 (.tmp 1), none⟩,
     ⟨some 7, .bslice 28 1 [(.int .i64 0), (.int .i64 0), (.string ⟨#[]⟩), (.bool false), (.slice none 0 0), (.slice none 0 0), (.slice none 0 0), (.slice none 0 0), (.slice none 0 0)] [(0, 9, (.tmp 6))], none⟩,
     ⟨some 3, .mv (.tmp 7), none⟩])
  (.seq (.reg [⟨some 8, .load 28 true 9 (.tmp 1), none⟩,
     ⟨some 9, .call (.func 40) [(.tmp 8)], none⟩,
     ⟨some 4, .mv (.tmp 9), none⟩])
  (.seq (.seq (.reg [⟨some 5, .mv (.const (.int .i64 0)), none⟩])
   (.block 0
     (.loop
       (.seq (.seq (.reg [⟨some 10, .mv (.tmp 5), none⟩,
           ⟨some 11, .mv (.tmp 4), none⟩,
           ⟨some 12, .len false (.tmp 11), none⟩,
           ⟨some 13, .bin .lss 3 (.tmp 10) (.tmp 12), none⟩])
        (.cond (.tmp 13)
          (.skip)
          (.exit 0)))
       (.seq (.block 1
          (.reg [⟨some 16, .mv (.tmp 3), none⟩,
            ⟨some 17, .mv (.tmp 4), none⟩,
            ⟨some 18, .mv (.tmp 5), none⟩,
            ⟨some 19, .iaddr 9 (.tmp 17) (.tmp 18), none⟩,
            ⟨some 20, .load 28 true 9 (.tmp 19), none⟩,
            ⟨some 21, .call (.func 24) [(.tmp 20)], none⟩,
            ⟨some 22, .app 28 9 160 (.tmp 16) (.tmp 21), none⟩,
            ⟨some 3, .mv (.tmp 22), none⟩]))
       (.reg [⟨some 14, .mv (.tmp 5), none⟩,
         ⟨some 15, .bin .add 3 (.tmp 14) (.const (.int .i64 1)), none⟩,
         ⟨some 5, .mv (.tmp 15), none⟩]))))))
  (.seq (.reg [⟨some 23, .mv (.tmp 3), none⟩,
     ⟨some 2, .mv (.tmp 23), none⟩])
  .ret))))),
  [.tmp 2], false⟩

/-- jobshell/jobshellref11.Exact -/
def p27 : PFn := ⟨15,
  (.seq (.reg [⟨some 2, .box 28 (.tmp 0), none⟩,
     ⟨some 3, .box 28 (.tmp 1), none⟩,
     ⟨some 4, .mv (.const (.bool false)), none⟩])
  (.seq (.draw [(⟨some 5, .load 28 true 9 (.tmp 2), none⟩, [2], []),
     (⟨some 6, .load 28 true 9 (.tmp 3), none⟩, [3], [0]),
     (⟨some 7, .call (.func 21) [(.tmp 5), (.tmp 6)], none⟩, [5, 6], []),
     (⟨some 8, .mv (.tmp 7), none⟩, [7], []),
     (⟨some 9, .load 28 true 9 (.tmp 2), (some (8, true))⟩, [2, 8], []),
     (⟨some 10, .call (.func 62) [(.tmp 9)], (some (8, true))⟩, [9, 8], []),
     (⟨some 11, .load 28 true 9 (.tmp 3), (some (8, true))⟩, [3, 8], [5, 4]),
     (⟨some 12, .call (.func 62) [(.tmp 11)], (some (8, true))⟩, [11, 8], []),
     (⟨some 13, .call (.func 31) [(.tmp 10), (.tmp 12)], (some (8, true))⟩, [10, 12, 8], []),
     (⟨some 14, .pick (.tmp 8) (.tmp 13) (.const (.bool false)), none⟩, [8, 13], []),
     (⟨some 4, .mv (.tmp 14), none⟩, [14], [])])
  .ret)),
  [.tmp 4], false⟩

/-- jobshell/syntax.Kid -/
def p28 : PFn := ⟨33,
  (.seq (.reg [⟨some 2, .box 28 (.tmp 0), none⟩,
     ⟨some 4, .alloc 28 (.agg #[(.int .i64 0), (.int .i64 0), (.string ⟨#[]⟩), (.bool false), (.slice none 0 0), (.slice none 0 0), (.slice none 0 0), (.slice none 0 0), (.slice none 0 0)]), none⟩,
     ⟨some 5, .mv (.const (.bool false)), none⟩])
  (.seq (.seq (.reg [⟨some 9, .mv (.tmp 1), none⟩,
      ⟨some 10, .len false (.tmp 9), none⟩,
      ⟨some 11, .mv (.const (.int .i64 0)), none⟩])
   (.block 0
     (.loop
       (.seq (.reg [⟨some 12, .bin .lss 3 (.tmp 11) (.tmp 10), none⟩])
       (.seq (.cond (.tmp 12)
          (.skip)
          (.exit 0))
       (.seq (.block 1
          (.seq (.reg [⟨some 13, .iaddr 1 (.tmp 9) (.tmp 11), none⟩,
             ⟨some 14, .load 3 false 1 (.tmp 13), none⟩,
             ⟨some 7, .mv (.tmp 14), none⟩])
          (.seq (.reg [⟨some 15, .load 28 true 9 (.tmp 2), none⟩,
             ⟨some 16, .call (.func 44) [(.tmp 15)], none⟩,
             ⟨some 8, .mv (.tmp 16), none⟩])
          (.seq (.seq (.reg [⟨some 17, .mv (.tmp 7), none⟩,
              ⟨some 18, .bin .lss 3 (.tmp 17) (.const (.int .i64 0)), none⟩,
              ⟨some 19, .mv (.tmp 18), none⟩,
              ⟨some 20, .mv (.tmp 7), (some (19, false))⟩,
              ⟨some 21, .mv (.tmp 8), (some (19, false))⟩,
              ⟨some 22, .len false (.tmp 21), (some (19, false))⟩,
              ⟨some 23, .bin .geq 3 (.tmp 20) (.tmp 22), (some (19, false))⟩,
              ⟨some 24, .pick (.tmp 19) (.const (.bool true)) (.tmp 23), none⟩])
           (.cond (.tmp 24)
             (.seq (.reg [⟨some 25, .build [(.int .i64 0), (.int .i64 0), (.string ⟨#[]⟩), (.bool false), (.slice none 0 0), (.slice none 0 0), (.slice none 0 0), (.slice none 0 0), (.slice none 0 0)] [], none⟩,
                ⟨none, .store 28 9 (.tmp 4) (.tmp 25), none⟩,
                ⟨some 5, .mv (.const (.bool false)), none⟩])
             .ret)
             (.skip)))
          (.reg [⟨some 26, .mv (.tmp 8), none⟩,
            ⟨some 27, .mv (.tmp 7), none⟩,
            ⟨some 28, .iaddr 9 (.tmp 26) (.tmp 27), none⟩,
            ⟨some 29, .load 28 true 9 (.tmp 28), none⟩,
            ⟨none, .store 28 9 (.tmp 2) (.tmp 29), none⟩])))))
       (.reg [⟨some 30, .bin .add 3 (.tmp 11) (.const (.int .i64 1)), none⟩,
         ⟨some 11, .mv (.tmp 30), none⟩])))))))
  (.seq (.reg [⟨some 31, .load 28 true 9 (.tmp 2), none⟩,
     ⟨some 32, .call (.func 59) [(.tmp 31)], none⟩,
     ⟨none, .store 28 9 (.tmp 4) (.tmp 32), none⟩,
     ⟨some 5, .mv (.const (.bool true)), none⟩])
  .ret))),
  [.cell 4 true 9, .tmp 5], false⟩

/-- jobshell/jobshellref11.Kid -/
def p29 : PFn := ⟨37,
  (.seq (.reg [⟨some 2, .box 28 (.tmp 0), none⟩,
     ⟨some 4, .alloc 28 (.agg #[(.int .i64 0), (.int .i64 0), (.string ⟨#[]⟩), (.bool false), (.slice none 0 0), (.slice none 0 0), (.slice none 0 0), (.slice none 0 0), (.slice none 0 0)]), none⟩,
     ⟨some 5, .mv (.const (.bool false)), none⟩])
  (.seq (.seq (.reg [⟨some 7, .mv (.tmp 1), none⟩,
      ⟨some 8, .len false (.tmp 7), none⟩,
      ⟨some 9, .bin .eql 3 (.tmp 8) (.const (.int .i64 0)), none⟩])
   (.cond (.tmp 9)
     (.seq (.reg [⟨some 10, .load 28 true 9 (.tmp 2), none⟩,
        ⟨none, .store 28 9 (.tmp 4) (.tmp 10), none⟩,
        ⟨some 5, .mv (.const (.bool true)), none⟩])
     .ret)
     (.skip)))
  (.seq (.reg [⟨some 11, .load 28 true 9 (.tmp 2), none⟩,
     ⟨some 12, .call (.func 40) [(.tmp 11)], none⟩,
     ⟨some 6, .mv (.tmp 12), none⟩])
  (.seq (.seq (.reg [⟨some 13, .mv (.tmp 1), none⟩,
      ⟨some 14, .iaddr 1 (.tmp 13) (.const (.int .i64 0)), none⟩,
      ⟨some 15, .load 3 false 1 (.tmp 14), none⟩,
      ⟨some 16, .bin .lss 3 (.tmp 15) (.const (.int .i64 0)), none⟩,
      ⟨some 17, .mv (.tmp 16), none⟩,
      ⟨some 18, .mv (.tmp 1), (some (17, false))⟩,
      ⟨some 19, .iaddr 1 (.tmp 18) (.const (.int .i64 0)), (some (17, false))⟩,
      ⟨some 20, .load 3 false 1 (.tmp 19), (some (17, false))⟩,
      ⟨some 21, .mv (.tmp 6), (some (17, false))⟩,
      ⟨some 22, .len false (.tmp 21), (some (17, false))⟩,
      ⟨some 23, .bin .geq 3 (.tmp 20) (.tmp 22), (some (17, false))⟩,
      ⟨some 24, .pick (.tmp 17) (.const (.bool true)) (.tmp 23), none⟩])
   (.cond (.tmp 24)
     (.seq (.reg [⟨some 25, .build [(.int .i64 0), (.int .i64 0), (.string ⟨#[]⟩), (.bool false), (.slice none 0 0), (.slice none 0 0), (.slice none 0 0), (.slice none 0 0), (.slice none 0 0)] [], none⟩,
        ⟨none, .store 28 9 (.tmp 4) (.tmp 25), none⟩,
        ⟨some 5, .mv (.const (.bool false)), none⟩])
     .ret)
     (.skip)))
  (.seq (.draw [(⟨some 26, .mv (.tmp 6), none⟩, [6], []),
     (⟨some 27, .mv (.tmp 1), none⟩, [1], [0]),
     (⟨some 28, .iaddr 1 (.tmp 27) (.const (.int .i64 0)), none⟩, [27], [0]),
     (⟨some 29, .load 3 false 1 (.tmp 28), none⟩, [28], [0]),
     (⟨some 30, .iaddr 9 (.tmp 26) (.tmp 29), none⟩, [26, 29], []),
     (⟨some 31, .load 28 true 9 (.tmp 30), none⟩, [30], []),
     (⟨some 32, .mv (.tmp 1), none⟩, [1], [5, 4, 3, 2, 1, 0]),
     (⟨some 33, .slc 3 1 (.tmp 32) (some (.const (.int .i64 1))) none, none⟩, [32], [5, 4, 3, 2, 1, 0]),
     (⟨some 34, .call (.func 29) [(.tmp 31), (.tmp 33)], none⟩, [31, 33], []),
     (⟨some 35, .ext (.tmp 34) 0, none⟩, [34], []),
     (⟨some 36, .ext (.tmp 34) 1, none⟩, [34], [9]),
     (⟨none, .store 28 9 (.tmp 4) (.tmp 35), none⟩, [4, 35], []),
     (⟨some 5, .mv (.tmp 36), none⟩, [36], [])])
  .ret))))),
  [.cell 4 true 9, .tmp 5], false⟩

/-- jobshell/syntax.At -/
def p30 : PFn := ⟨37,
  (.seq (.reg [⟨some 2, .box 28 (.tmp 0), none⟩,
     ⟨some 4, .mv (.const (.slice none 0 0)), none⟩])
  (.seq (.reg [⟨some 5, .mv (.const (.slice none 0 0)), none⟩])
  (.block 0
    (.loop
      (.block 1
        (.seq (.reg [⟨some 8, .load 28 true 9 (.tmp 2), none⟩,
           ⟨some 9, .call (.func 44) [(.tmp 8)], none⟩,
           ⟨some 6, .mv (.tmp 9), none⟩])
        (.seq (.reg [⟨some 10, .mv (.tmp 6), none⟩,
           ⟨some 11, .len false (.tmp 10), none⟩,
           ⟨some 12, .bin .sub 3 (.tmp 11) (.const (.int .i64 1)), none⟩,
           ⟨some 7, .mv (.tmp 12), none⟩])
        (.seq (.block 2
           (.loop
             (.seq (.seq (.reg [⟨some 13, .mv (.tmp 7), none⟩,
                 ⟨some 14, .bin .geq 3 (.tmp 13) (.const (.int .i64 0)), none⟩,
                 ⟨some 15, .mv (.tmp 14), none⟩,
                 ⟨some 16, .mv (.tmp 6), (some (15, true))⟩,
                 ⟨some 17, .mv (.tmp 7), (some (15, true))⟩,
                 ⟨some 18, .iaddr 9 (.tmp 16) (.tmp 17), (some (15, true))⟩,
                 ⟨some 19, .faddr 1 (.tmp 18), (some (15, true))⟩,
                 ⟨some 20, .load 3 false 1 (.tmp 19), (some (15, true))⟩,
                 ⟨some 21, .mv (.tmp 1), (some (15, true))⟩,
                 ⟨some 22, .bin .gtr 3 (.tmp 20) (.tmp 21), (some (15, true))⟩,
                 ⟨some 23, .pick (.tmp 15) (.tmp 22) (.const (.bool false)), none⟩])
              (.cond (.tmp 23)
                (.skip)
                (.exit 2)))
             (.block 3
               (.reg [⟨some 24, .mv (.tmp 7), none⟩,
                 ⟨some 25, .bin .sub 3 (.tmp 24) (.const (.int .i64 1)), none⟩,
                 ⟨some 7, .mv (.tmp 25), none⟩])))))
        (.seq (.seq (.reg [⟨some 26, .mv (.tmp 7), none⟩,
            ⟨some 27, .bin .lss 3 (.tmp 26) (.const (.int .i64 0)), none⟩])
         (.cond (.tmp 27)
           (.seq (.reg [⟨some 28, .mv (.tmp 5), none⟩,
              ⟨some 4, .mv (.tmp 28), none⟩])
           .ret)
           (.skip)))
        (.seq (.reg [⟨some 29, .mv (.tmp 5), none⟩,
           ⟨some 30, .mv (.tmp 7), none⟩,
           ⟨some 31, .bslice 3 1 [(.int .i64 0)] [(0, 1, (.tmp 30))], none⟩,
           ⟨some 32, .app 3 1 8 (.tmp 29) (.tmp 31), none⟩,
           ⟨some 5, .mv (.tmp 32), none⟩])
        (.reg [⟨some 33, .mv (.tmp 6), none⟩,
          ⟨some 34, .mv (.tmp 7), none⟩,
          ⟨some 35, .iaddr 9 (.tmp 33) (.tmp 34), none⟩,
          ⟨some 36, .load 28 true 9 (.tmp 35), none⟩,
          ⟨none, .store 28 9 (.tmp 2) (.tmp 36), none⟩]))))))))))),
  [.tmp 4], false⟩

/-- jobshell/jobshellref11.SamePath -/
def p31 : PFn := ⟨26,
  (.seq (.reg [⟨some 4, .mv (.const (.bool false)), none⟩])
  (.seq (.seq (.reg [⟨some 6, .mv (.tmp 0), none⟩,
      ⟨some 7, .len false (.tmp 6), none⟩,
      ⟨some 8, .mv (.tmp 1), none⟩,
      ⟨some 9, .len false (.tmp 8), none⟩,
      ⟨some 10, .bin .neq 3 (.tmp 7) (.tmp 9), none⟩])
   (.cond (.tmp 10)
     (.seq (.reg [⟨some 4, .mv (.const (.bool false)), none⟩])
     .ret)
     (.skip)))
  (.seq (.seq (.reg [⟨some 5, .mv (.const (.int .i64 0)), none⟩])
   (.block 0
     (.loop
       (.seq (.seq (.reg [⟨some 11, .mv (.tmp 5), none⟩,
           ⟨some 12, .mv (.tmp 0), none⟩,
           ⟨some 13, .len false (.tmp 12), none⟩,
           ⟨some 14, .bin .lss 3 (.tmp 11) (.tmp 13), none⟩])
        (.cond (.tmp 14)
          (.skip)
          (.exit 0)))
       (.seq (.block 1
          (.seq (.draw [(⟨some 17, .mv (.tmp 0), none⟩, [0], []),
             (⟨some 18, .mv (.tmp 5), none⟩, [5], [0]),
             (⟨some 19, .iaddr 1 (.tmp 17) (.tmp 18), none⟩, [17, 18], []),
             (⟨some 20, .load 3 false 1 (.tmp 19), none⟩, [19], []),
             (⟨some 21, .mv (.tmp 1), none⟩, [1], [3, 2, 1, 0]),
             (⟨some 22, .mv (.tmp 5), none⟩, [5], [4, 3, 2, 1, 0]),
             (⟨some 23, .iaddr 1 (.tmp 21) (.tmp 22), none⟩, [21, 22], [3, 2, 1, 0]),
             (⟨some 24, .load 3 false 1 (.tmp 23), none⟩, [23], [3, 2, 1, 0]),
             (⟨some 25, .bin .neq 3 (.tmp 20) (.tmp 24), none⟩, [20, 24], [])])
          (.cond (.tmp 25)
            (.seq (.reg [⟨some 4, .mv (.const (.bool false)), none⟩])
            .ret)
            (.skip))))
       (.reg [⟨some 15, .mv (.tmp 5), none⟩,
         ⟨some 16, .bin .add 3 (.tmp 15) (.const (.int .i64 1)), none⟩,
         ⟨some 5, .mv (.tmp 16), none⟩]))))))
  (.seq (.reg [⟨some 4, .mv (.const (.bool true)), none⟩])
  .ret)))),
  [.tmp 4], false⟩

/-- jobshell/jobshellref11.At -/
def p32 : PFn := ⟨35,
  (.seq (.reg [⟨some 2, .box 28 (.tmp 0), none⟩,
     ⟨some 4, .mv (.const (.slice none 0 0)), none⟩])
  (.seq (.reg [⟨some 8, .load 28 true 9 (.tmp 2), none⟩,
     ⟨some 9, .call (.func 40) [(.tmp 8)], none⟩,
     ⟨some 5, .mv (.tmp 9), none⟩,
     ⟨some 6, .mv (.const (.int .i64 (-1))), none⟩])
  (.seq (.seq (.reg [⟨some 7, .mv (.const (.int .i64 0)), none⟩])
   (.block 0
     (.loop
       (.seq (.seq (.reg [⟨some 10, .mv (.tmp 7), none⟩,
           ⟨some 11, .mv (.tmp 5), none⟩,
           ⟨some 12, .len false (.tmp 11), none⟩,
           ⟨some 13, .bin .lss 3 (.tmp 10) (.tmp 12), none⟩])
        (.cond (.tmp 13)
          (.skip)
          (.exit 0)))
       (.seq (.block 1
          (.seq (.reg [⟨some 16, .mv (.tmp 5), none⟩,
             ⟨some 17, .mv (.tmp 7), none⟩,
             ⟨some 18, .iaddr 9 (.tmp 16) (.tmp 17), none⟩,
             ⟨some 19, .faddr 1 (.tmp 18), none⟩,
             ⟨some 20, .load 3 false 1 (.tmp 19), none⟩,
             ⟨some 21, .mv (.tmp 1), none⟩,
             ⟨some 22, .bin .leq 3 (.tmp 20) (.tmp 21), none⟩])
          (.cond (.tmp 22)
            (.reg [⟨some 23, .mv (.tmp 7), none⟩,
              ⟨some 6, .mv (.tmp 23), none⟩])
            (.skip))))
       (.reg [⟨some 14, .mv (.tmp 7), none⟩,
         ⟨some 15, .bin .add 3 (.tmp 14) (.const (.int .i64 1)), none⟩,
         ⟨some 7, .mv (.tmp 15), none⟩]))))))
  (.seq (.seq (.reg [⟨some 24, .mv (.tmp 6), none⟩,
      ⟨some 25, .bin .lss 3 (.tmp 24) (.const (.int .i64 0)), none⟩])
   (.cond (.tmp 25)
     (.seq (.reg [⟨some 4, .mv (.const (.slice none 0 0)), none⟩])
     .ret)
     (.skip)))
  (.seq (.reg [⟨some 26, .mv (.tmp 6), none⟩,
     ⟨some 27, .bslice 3 1 [(.int .i64 0)] [(0, 1, (.tmp 26))], none⟩,
     ⟨some 28, .mv (.tmp 5), none⟩,
     ⟨some 29, .mv (.tmp 6), none⟩,
     ⟨some 30, .iaddr 9 (.tmp 28) (.tmp 29), none⟩,
     ⟨some 31, .load 28 true 9 (.tmp 30), none⟩,
     ⟨some 32, .mv (.tmp 1), none⟩,
     ⟨some 33, .call (.func 32) [(.tmp 31), (.tmp 32)], none⟩,
     ⟨some 34, .app 3 1 8 (.tmp 27) (.tmp 33), none⟩,
     ⟨some 4, .mv (.tmp 34), none⟩])
  .ret))))),
  [.tmp 4], false⟩

/-- jobshell/jobshellref11.Words -/
def p38 : PFn := ⟨59,
  (.seq (.reg [⟨some 1, .box 28 (.tmp 0), none⟩,
     ⟨some 2, .mv (.const (.slice none 0 0)), none⟩])
  (.seq (.reg [⟨some 3, .mv (.const (.slice none 0 0)), none⟩])
  (.seq (.seq (.reg [⟨some 4, .mv (.const (.int .i64 0)), none⟩])
   (.block 0
     (.loop
       (.seq (.seq (.reg [⟨some 7, .mv (.tmp 4), none⟩,
           ⟨some 8, .faddr 4 (.tmp 1), none⟩,
           ⟨some 9, .load 22 false 1 (.tmp 8), none⟩,
           ⟨some 10, .len false (.tmp 9), none⟩,
           ⟨some 11, .bin .lss 3 (.tmp 7) (.tmp 10), none⟩])
        (.cond (.tmp 11)
          (.skip)
          (.exit 0)))
       (.seq (.block 1
          (.reg [⟨some 14, .mv (.tmp 3), none⟩,
            ⟨some 15, .faddr 4 (.tmp 1), none⟩,
            ⟨some 16, .load 22 false 1 (.tmp 15), none⟩,
            ⟨some 17, .mv (.tmp 4), none⟩,
            ⟨some 18, .iaddr 4 (.tmp 16) (.tmp 17), none⟩,
            ⟨some 19, .faddr 2 (.tmp 18), none⟩,
            ⟨some 20, .load 56 true 2 (.tmp 19), none⟩,
            ⟨some 21, .bslice 56 1 [(.int .i64 0), (.slice none 0 0)] [(0, 2, (.tmp 20))], none⟩,
            ⟨some 22, .app 56 2 32 (.tmp 14) (.tmp 21), none⟩,
            ⟨some 3, .mv (.tmp 22), none⟩]))
       (.reg [⟨some 12, .mv (.tmp 4), none⟩,
         ⟨some 13, .bin .add 3 (.tmp 12) (.const (.int .i64 1)), none⟩,
         ⟨some 4, .mv (.tmp 13), none⟩]))))))
  (.seq (.reg [⟨some 23, .mv (.tmp 3), none⟩,
     ⟨some 24, .faddr 5 (.tmp 1), none⟩,
     ⟨some 25, .load 23 false 1 (.tmp 24), none⟩,
     ⟨some 26, .app 56 2 32 (.tmp 23) (.tmp 25), none⟩,
     ⟨some 3, .mv (.tmp 26), none⟩])
  (.seq (.seq (.reg [⟨some 5, .mv (.const (.int .i64 0)), none⟩])
   (.block 2
     (.loop
       (.seq (.seq (.reg [⟨some 27, .mv (.tmp 5), none⟩,
           ⟨some 28, .faddr 6 (.tmp 1), none⟩,
           ⟨some 29, .load 24 false 1 (.tmp 28), none⟩,
           ⟨some 30, .len false (.tmp 29), none⟩,
           ⟨some 31, .bin .lss 3 (.tmp 27) (.tmp 30), none⟩])
        (.cond (.tmp 31)
          (.skip)
          (.exit 2)))
       (.seq (.block 3
          (.reg [⟨some 34, .mv (.tmp 3), none⟩,
            ⟨some 35, .faddr 6 (.tmp 1), none⟩,
            ⟨some 36, .load 24 false 1 (.tmp 35), none⟩,
            ⟨some 37, .mv (.tmp 5), none⟩,
            ⟨some 38, .iaddr 5 (.tmp 36) (.tmp 37), none⟩,
            ⟨some 39, .faddr 3 (.tmp 38), none⟩,
            ⟨some 40, .load 56 true 2 (.tmp 39), none⟩,
            ⟨some 41, .bslice 56 1 [(.int .i64 0), (.slice none 0 0)] [(0, 2, (.tmp 40))], none⟩,
            ⟨some 42, .app 56 2 32 (.tmp 34) (.tmp 41), none⟩,
            ⟨some 3, .mv (.tmp 42), none⟩]))
       (.reg [⟨some 32, .mv (.tmp 5), none⟩,
         ⟨some 33, .bin .add 3 (.tmp 32) (.const (.int .i64 1)), none⟩,
         ⟨some 5, .mv (.tmp 33), none⟩]))))))
  (.seq (.seq (.reg [⟨some 6, .mv (.const (.int .i64 0)), none⟩])
   (.block 4
     (.loop
       (.seq (.seq (.reg [⟨some 43, .mv (.tmp 6), none⟩,
           ⟨some 44, .faddr 8 (.tmp 1), none⟩,
           ⟨some 45, .load 26 false 1 (.tmp 44), none⟩,
           ⟨some 46, .len false (.tmp 45), none⟩,
           ⟨some 47, .bin .lss 3 (.tmp 43) (.tmp 46), none⟩])
        (.cond (.tmp 47)
          (.skip)
          (.exit 4)))
       (.seq (.block 5
          (.reg [⟨some 50, .mv (.tmp 3), none⟩,
            ⟨some 51, .faddr 8 (.tmp 1), none⟩,
            ⟨some 52, .load 26 false 1 (.tmp 51), none⟩,
            ⟨some 53, .mv (.tmp 6), none⟩,
            ⟨some 54, .iaddr 2 (.tmp 52) (.tmp 53), none⟩,
            ⟨some 55, .faddr 0 (.tmp 54), none⟩,
            ⟨some 56, .load 23 false 1 (.tmp 55), none⟩,
            ⟨some 57, .app 56 2 32 (.tmp 50) (.tmp 56), none⟩,
            ⟨some 3, .mv (.tmp 57), none⟩]))
       (.reg [⟨some 48, .mv (.tmp 6), none⟩,
         ⟨some 49, .bin .add 3 (.tmp 48) (.const (.int .i64 1)), none⟩,
         ⟨some 6, .mv (.tmp 49), none⟩]))))))
  (.seq (.reg [⟨some 58, .mv (.tmp 3), none⟩,
     ⟨some 2, .mv (.tmp 58), none⟩])
  .ret))))))),
  [.tmp 2], false⟩

/-- jobshell/jobshellref08.Count -/
def p39 : PFn := ⟨41,
  (.seq (.reg [⟨some 2, .mv (.const (.int .i64 0)), none⟩,
     ⟨some 3, .mv (.const (.int .i64 0)), none⟩])
  (.seq (.reg [⟨some 9, .mv (.tmp 0), none⟩,
     ⟨some 10, .len false (.tmp 9), none⟩,
     ⟨some 4, .mv (.tmp 10), none⟩,
     ⟨some 5, .mv (.const (.int .i64 0)), none⟩])
  (.seq (.seq (.reg [⟨some 6, .mv (.const (.int .i64 0)), none⟩])
   (.block 0
     (.loop
       (.seq (.seq (.reg [⟨some 11, .mv (.tmp 6), none⟩,
           ⟨some 12, .mv (.tmp 0), none⟩,
           ⟨some 13, .len false (.tmp 12), none⟩,
           ⟨some 14, .bin .lss 3 (.tmp 11) (.tmp 13), none⟩])
        (.cond (.tmp 14)
          (.skip)
          (.exit 0)))
       (.seq (.block 1
          (.seq (.reg [⟨some 18, .mv (.tmp 0), none⟩,
             ⟨some 19, .mv (.tmp 6), none⟩,
             ⟨some 20, .iaddr 5 (.tmp 18) (.tmp 19), none⟩,
             ⟨some 21, .faddr 4 (.tmp 20), none⟩,
             ⟨some 22, .load 54 false 1 (.tmp 21), none⟩,
             ⟨some 23, .call (.func 39) [(.tmp 22)], none⟩,
             ⟨some 17, .mv (.tmp 23), none⟩,
             ⟨some 24, .ext (.tmp 17) 0, none⟩,
             ⟨some 25, .ext (.tmp 17) 1, none⟩,
             ⟨some 7, .mv (.tmp 24), none⟩,
             ⟨some 8, .mv (.tmp 25), none⟩])
          (.seq (.reg [⟨some 26, .mv (.tmp 4), none⟩,
             ⟨some 27, .mv (.tmp 7), none⟩,
             ⟨some 28, .bin .add 3 (.tmp 26) (.tmp 27), none⟩,
             ⟨some 4, .mv (.tmp 28), none⟩])
          (.reg [⟨some 29, .mv (.tmp 5), none⟩,
            ⟨some 30, .mv (.tmp 8), none⟩,
            ⟨some 31, .bin .add 3 (.tmp 29) (.tmp 30), none⟩,
            ⟨some 32, .mv (.tmp 0), none⟩,
            ⟨some 33, .mv (.tmp 6), none⟩,
            ⟨some 34, .iaddr 5 (.tmp 32) (.tmp 33), none⟩,
            ⟨some 35, .faddr 1 (.tmp 34), none⟩,
            ⟨some 36, .load 9 false 1 (.tmp 35), none⟩,
            ⟨some 37, .len true (.tmp 36), none⟩,
            ⟨some 38, .bin .add 3 (.tmp 31) (.tmp 37), none⟩,
            ⟨some 5, .mv (.tmp 38), none⟩]))))
       (.reg [⟨some 15, .mv (.tmp 6), none⟩,
         ⟨some 16, .bin .add 3 (.tmp 15) (.const (.int .i64 1)), none⟩,
         ⟨some 6, .mv (.tmp 16), none⟩]))))))
  (.seq (.reg [⟨some 39, .mv (.tmp 4), none⟩,
     ⟨some 40, .mv (.tmp 5), none⟩,
     ⟨some 2, .mv (.tmp 39), none⟩,
     ⟨some 3, .mv (.tmp 40), none⟩])
  .ret)))),
  [.tmp 2, .tmp 3], false⟩

/-- jobshell/jobshellref11.Kids -/
def p40 : PFn := ⟨25,
  (.seq (.reg [⟨some 1, .box 28 (.tmp 0), none⟩,
     ⟨some 2, .mv (.const (.slice none 0 0)), none⟩])
  (.seq (.reg [⟨some 3, .mv (.const (.slice none 0 0)), none⟩])
  (.seq (.reg [⟨some 5, .mv (.tmp 3), none⟩,
     ⟨some 6, .faddr 7 (.tmp 1), none⟩,
     ⟨some 7, .load 25 false 1 (.tmp 6), none⟩,
     ⟨some 8, .app 28 9 160 (.tmp 5) (.tmp 7), none⟩,
     ⟨some 3, .mv (.tmp 8), none⟩])
  (.seq (.seq (.reg [⟨some 4, .mv (.const (.int .i64 0)), none⟩])
   (.block 0
     (.loop
       (.seq (.seq (.reg [⟨some 9, .mv (.tmp 4), none⟩,
           ⟨some 10, .faddr 8 (.tmp 1), none⟩,
           ⟨some 11, .load 26 false 1 (.tmp 10), none⟩,
           ⟨some 12, .len false (.tmp 11), none⟩,
           ⟨some 13, .bin .lss 3 (.tmp 9) (.tmp 12), none⟩])
        (.cond (.tmp 13)
          (.skip)
          (.exit 0)))
       (.seq (.block 1
          (.reg [⟨some 16, .mv (.tmp 3), none⟩,
            ⟨some 17, .faddr 8 (.tmp 1), none⟩,
            ⟨some 18, .load 26 false 1 (.tmp 17), none⟩,
            ⟨some 19, .mv (.tmp 4), none⟩,
            ⟨some 20, .iaddr 2 (.tmp 18) (.tmp 19), none⟩,
            ⟨some 21, .faddr 1 (.tmp 20), none⟩,
            ⟨some 22, .load 25 false 1 (.tmp 21), none⟩,
            ⟨some 23, .app 28 9 160 (.tmp 16) (.tmp 22), none⟩,
            ⟨some 3, .mv (.tmp 23), none⟩]))
       (.reg [⟨some 14, .mv (.tmp 4), none⟩,
         ⟨some 15, .bin .add 3 (.tmp 14) (.const (.int .i64 1)), none⟩,
         ⟨some 4, .mv (.tmp 15), none⟩]))))))
  (.seq (.reg [⟨some 24, .mv (.tmp 3), none⟩,
     ⟨some 2, .mv (.tmp 24), none⟩])
  .ret))))),
  [.tmp 2], false⟩

/-- jobshell/syntax.preorder -/
def p41 : PFn := ⟨10,
  (.seq (.reg [⟨some 1, .box 28 (.tmp 0), none⟩,
     ⟨some 2, .mv (.const (.slice none 0 0)), none⟩])
  (.seq (.reg [⟨some 3, .alloc 25 (.slice none 0 0), none⟩])
  (.seq (.reg [⟨some 4, .alloc 103 .nilFunc, none⟩])
  (.seq (.reg [⟨some 5, .mkfn 81 [] [(.tmp 3), (.tmp 4)], none⟩,
     ⟨none, .store 103 1 (.tmp 4) (.tmp 5), none⟩])
  (.seq (.reg [⟨some 6, .load 103 false 1 (.tmp 4), none⟩,
     ⟨some 7, .load 28 true 9 (.tmp 1), none⟩,
     ⟨some 8, .call (.tmp 6) [(.tmp 7)], none⟩])
  (.seq (.reg [⟨some 9, .load 25 false 1 (.tmp 3), none⟩,
     ⟨some 2, .mv (.tmp 9), none⟩])
  .ret)))))),
  [.tmp 2], true⟩

/-- jobshell/syntax.children -/
def p44 : PFn := ⟨28,
  (.seq (.reg [⟨some 1, .box 28 (.tmp 0), none⟩,
     ⟨some 2, .mv (.const (.slice none 0 0)), none⟩])
  (.seq (.reg [⟨some 6, .faddr 7 (.tmp 1), none⟩,
     ⟨some 7, .load 25 false 1 (.tmp 6), none⟩,
     ⟨some 8, .faddr 7 (.tmp 1), none⟩,
     ⟨some 9, .load 25 false 1 (.tmp 8), none⟩,
     ⟨some 10, .len false (.tmp 9), none⟩,
     ⟨some 11, .faddr 7 (.tmp 1), none⟩,
     ⟨some 12, .load 25 false 1 (.tmp 11), none⟩,
     ⟨some 13, .len false (.tmp 12), none⟩,
     ⟨some 14, .slc3 28 9 (.tmp 7) (.tmp 10) (.tmp 13), none⟩,
     ⟨some 3, .mv (.tmp 14), none⟩])
  (.seq (.seq (.reg [⟨some 15, .faddr 8 (.tmp 1), none⟩,
      ⟨some 16, .load 26 false 1 (.tmp 15), none⟩,
      ⟨some 17, .len false (.tmp 16), none⟩,
      ⟨some 18, .mv (.const (.int .i64 0)), none⟩])
   (.block 0
     (.loop
       (.seq (.reg [⟨some 19, .bin .lss 3 (.tmp 18) (.tmp 17), none⟩])
       (.seq (.cond (.tmp 19)
          (.skip)
          (.exit 0))
       (.seq (.block 1
          (.seq (.reg [⟨some 20, .iaddr 2 (.tmp 16) (.tmp 18), none⟩,
             ⟨some 21, .load 75 true 2 (.tmp 20), none⟩,
             ⟨some 5, .alloc 75 (.agg #[(.slice none 0 0), (.slice none 0 0)]), none⟩,
             ⟨none, .store 75 2 (.tmp 5) (.tmp 21), none⟩])
          (.reg [⟨some 22, .mv (.tmp 3), none⟩,
            ⟨some 23, .faddr 1 (.tmp 5), none⟩,
            ⟨some 24, .load 25 false 1 (.tmp 23), none⟩,
            ⟨some 25, .app 28 9 160 (.tmp 22) (.tmp 24), none⟩,
            ⟨some 3, .mv (.tmp 25), none⟩])))
       (.reg [⟨some 26, .bin .add 3 (.tmp 18) (.const (.int .i64 1)), none⟩,
         ⟨some 18, .mv (.tmp 26), none⟩])))))))
  (.seq (.reg [⟨some 27, .mv (.tmp 3), none⟩,
     ⟨some 2, .mv (.tmp 27), none⟩])
  .ret)))),
  [.tmp 2], false⟩

/-- slices.EqualFunc[[]jobshell/api.Assign,[]jobshell/api.Assign,jobshell/api.Assign,jobshell/api.Assign] -/
def p45 : PFn := ⟨32,
  (.seq (.reg [⟨some 6, .mv (.const (.bool false)), none⟩])
  (.seq (.seq (.reg [⟨some 10, .mv (.tmp 0), none⟩,
      ⟨some 11, .len false (.tmp 10), none⟩,
      ⟨some 12, .mv (.tmp 1), none⟩,
      ⟨some 13, .len false (.tmp 12), none⟩,
      ⟨some 14, .bin .neq 3 (.tmp 11) (.tmp 13), none⟩])
   (.cond (.tmp 14)
     (.seq (.reg [⟨some 6, .mv (.const (.bool false)), none⟩])
     .ret)
     (.skip)))
  (.seq (.seq (.reg [⟨some 15, .mv (.tmp 0), none⟩,
      ⟨some 16, .len false (.tmp 15), none⟩,
      ⟨some 17, .mv (.const (.int .i64 0)), none⟩])
   (.block 0
     (.loop
       (.seq (.reg [⟨some 18, .bin .lss 3 (.tmp 17) (.tmp 16), none⟩])
       (.seq (.cond (.tmp 18)
          (.skip)
          (.exit 0))
       (.seq (.block 1
          (.seq (.reg [⟨some 19, .mv (.tmp 17), none⟩,
             ⟨some 20, .iaddr 4 (.tmp 15) (.tmp 17), none⟩,
             ⟨some 21, .load 58 true 4 (.tmp 20), none⟩,
             ⟨some 8, .alloc 58 (.agg #[(.int .i64 0), (.string ⟨#[]⟩), (.int .i64 0), (.slice none 0 0)]), none⟩,
             ⟨some 7, .mv (.tmp 19), none⟩,
             ⟨none, .store 58 4 (.tmp 8) (.tmp 21), none⟩])
          (.seq (.reg [⟨some 22, .mv (.tmp 1), none⟩,
             ⟨some 23, .mv (.tmp 7), none⟩,
             ⟨some 24, .iaddr 4 (.tmp 22) (.tmp 23), none⟩,
             ⟨some 25, .load 58 true 4 (.tmp 24), none⟩,
             ⟨some 9, .alloc 58 (.agg #[(.int .i64 0), (.string ⟨#[]⟩), (.int .i64 0), (.slice none 0 0)]), none⟩,
             ⟨none, .store 58 4 (.tmp 9) (.tmp 25), none⟩])
          (.seq (.reg [⟨some 26, .mv (.tmp 2), none⟩,
             ⟨some 27, .load 58 true 4 (.tmp 8), none⟩,
             ⟨some 28, .load 58 true 4 (.tmp 9), none⟩,
             ⟨some 29, .call (.tmp 26) [(.tmp 27), (.tmp 28)], none⟩,
             ⟨some 30, .un .not (.tmp 29), none⟩])
          (.cond (.tmp 30)
            (.seq (.reg [⟨some 6, .mv (.const (.bool false)), none⟩])
            .ret)
            (.skip))))))
       (.reg [⟨some 31, .bin .add 3 (.tmp 17) (.const (.int .i64 1)), none⟩,
         ⟨some 17, .mv (.tmp 31), none⟩])))))))
  (.seq (.reg [⟨some 6, .mv (.const (.bool true)), none⟩])
  .ret)))),
  [.tmp 6], false⟩

/-- jobshell/syntax.Same$1 -/
def p46 : PFn := ⟨17,
  (.seq (.reg [⟨some 2, .box 58 (.tmp 0), none⟩,
     ⟨some 3, .box 58 (.tmp 1), none⟩,
     ⟨some 4, .mv (.const (.bool false)), none⟩])
  (.seq (.reg [⟨some 5, .faddr 1 (.tmp 2), none⟩,
     ⟨some 6, .load 9 false 1 (.tmp 5), none⟩,
     ⟨some 7, .faddr 1 (.tmp 3), none⟩,
     ⟨some 8, .load 9 false 1 (.tmp 7), none⟩,
     ⟨some 9, .bin .eql 9 (.tmp 6) (.tmp 8), none⟩,
     ⟨some 10, .mv (.tmp 9), none⟩,
     ⟨some 11, .faddr 2 (.tmp 2), (some (10, true))⟩,
     ⟨some 12, .load 56 true 2 (.tmp 11), (some (10, true))⟩,
     ⟨some 13, .faddr 2 (.tmp 3), (some (10, true))⟩,
     ⟨some 14, .load 56 true 2 (.tmp 13), (some (10, true))⟩,
     ⟨some 15, .call (.func 47) [(.tmp 12), (.tmp 14)], (some (10, true))⟩,
     ⟨some 16, .pick (.tmp 10) (.tmp 15) (.const (.bool false)), none⟩,
     ⟨some 4, .mv (.tmp 16), none⟩])
  .ret)),
  [.tmp 4], false⟩

/-- jobshell/syntax.sameWord -/
def p47 : PFn := ⟨10,
  (.seq (.reg [⟨some 2, .box 56 (.tmp 0), none⟩,
     ⟨some 3, .box 56 (.tmp 1), none⟩,
     ⟨some 4, .mv (.const (.bool false)), none⟩])
  (.seq (.reg [⟨some 5, .faddr 1 (.tmp 2), none⟩,
     ⟨some 6, .load 54 false 1 (.tmp 5), none⟩,
     ⟨some 7, .faddr 1 (.tmp 3), none⟩,
     ⟨some 8, .load 54 false 1 (.tmp 7), none⟩,
     ⟨some 9, .call (.func 86) [(.tmp 6), (.tmp 8)], none⟩,
     ⟨some 4, .mv (.tmp 9), none⟩])
  .ret)),
  [.tmp 4], false⟩

/-- slices.EqualFunc[[]jobshell/api.Word,[]jobshell/api.Word,jobshell/api.Word,jobshell/api.Word] -/
def p48 : PFn := ⟨32,
  (.seq (.reg [⟨some 6, .mv (.const (.bool false)), none⟩])
  (.seq (.seq (.reg [⟨some 10, .mv (.tmp 0), none⟩,
      ⟨some 11, .len false (.tmp 10), none⟩,
      ⟨some 12, .mv (.tmp 1), none⟩,
      ⟨some 13, .len false (.tmp 12), none⟩,
      ⟨some 14, .bin .neq 3 (.tmp 11) (.tmp 13), none⟩])
   (.cond (.tmp 14)
     (.seq (.reg [⟨some 6, .mv (.const (.bool false)), none⟩])
     .ret)
     (.skip)))
  (.seq (.seq (.reg [⟨some 15, .mv (.tmp 0), none⟩,
      ⟨some 16, .len false (.tmp 15), none⟩,
      ⟨some 17, .mv (.const (.int .i64 0)), none⟩])
   (.block 0
     (.loop
       (.seq (.reg [⟨some 18, .bin .lss 3 (.tmp 17) (.tmp 16), none⟩])
       (.seq (.cond (.tmp 18)
          (.skip)
          (.exit 0))
       (.seq (.block 1
          (.seq (.reg [⟨some 19, .mv (.tmp 17), none⟩,
             ⟨some 20, .iaddr 2 (.tmp 15) (.tmp 17), none⟩,
             ⟨some 21, .load 56 true 2 (.tmp 20), none⟩,
             ⟨some 8, .alloc 56 (.agg #[(.int .i64 0), (.slice none 0 0)]), none⟩,
             ⟨some 7, .mv (.tmp 19), none⟩,
             ⟨none, .store 56 2 (.tmp 8) (.tmp 21), none⟩])
          (.seq (.reg [⟨some 22, .mv (.tmp 1), none⟩,
             ⟨some 23, .mv (.tmp 7), none⟩,
             ⟨some 24, .iaddr 2 (.tmp 22) (.tmp 23), none⟩,
             ⟨some 25, .load 56 true 2 (.tmp 24), none⟩,
             ⟨some 9, .alloc 56 (.agg #[(.int .i64 0), (.slice none 0 0)]), none⟩,
             ⟨none, .store 56 2 (.tmp 9) (.tmp 25), none⟩])
          (.seq (.reg [⟨some 26, .mv (.tmp 2), none⟩,
             ⟨some 27, .load 56 true 2 (.tmp 8), none⟩,
             ⟨some 28, .load 56 true 2 (.tmp 9), none⟩,
             ⟨some 29, .call (.tmp 26) [(.tmp 27), (.tmp 28)], none⟩,
             ⟨some 30, .un .not (.tmp 29), none⟩])
          (.cond (.tmp 30)
            (.seq (.reg [⟨some 6, .mv (.const (.bool false)), none⟩])
            .ret)
            (.skip))))))
       (.reg [⟨some 31, .bin .add 3 (.tmp 17) (.const (.int .i64 1)), none⟩,
         ⟨some 17, .mv (.tmp 31), none⟩])))))))
  (.seq (.reg [⟨some 6, .mv (.const (.bool true)), none⟩])
  .ret)))),
  [.tmp 6], false⟩

/-- slices.EqualFunc[[]jobshell/api.Redir,[]jobshell/api.Redir,jobshell/api.Redir,jobshell/api.Redir] -/
def p49 : PFn := ⟨32,
  (.seq (.reg [⟨some 6, .mv (.const (.bool false)), none⟩])
  (.seq (.seq (.reg [⟨some 10, .mv (.tmp 0), none⟩,
      ⟨some 11, .len false (.tmp 10), none⟩,
      ⟨some 12, .mv (.tmp 1), none⟩,
      ⟨some 13, .len false (.tmp 12), none⟩,
      ⟨some 14, .bin .neq 3 (.tmp 11) (.tmp 13), none⟩])
   (.cond (.tmp 14)
     (.seq (.reg [⟨some 6, .mv (.const (.bool false)), none⟩])
     .ret)
     (.skip)))
  (.seq (.seq (.reg [⟨some 15, .mv (.tmp 0), none⟩,
      ⟨some 16, .len false (.tmp 15), none⟩,
      ⟨some 17, .mv (.const (.int .i64 0)), none⟩])
   (.block 0
     (.loop
       (.seq (.reg [⟨some 18, .bin .lss 3 (.tmp 17) (.tmp 16), none⟩])
       (.seq (.cond (.tmp 18)
          (.skip)
          (.exit 0))
       (.seq (.block 1
          (.seq (.reg [⟨some 19, .mv (.tmp 17), none⟩,
             ⟨some 20, .iaddr 5 (.tmp 15) (.tmp 17), none⟩,
             ⟨some 21, .load 70 true 5 (.tmp 20), none⟩,
             ⟨some 8, .alloc 70 (.agg #[(.int .i64 0), (.int .i64 0), (.int .i64 0), (.int .i64 0), (.slice none 0 0)]), none⟩,
             ⟨some 7, .mv (.tmp 19), none⟩,
             ⟨none, .store 70 5 (.tmp 8) (.tmp 21), none⟩])
          (.seq (.reg [⟨some 22, .mv (.tmp 1), none⟩,
             ⟨some 23, .mv (.tmp 7), none⟩,
             ⟨some 24, .iaddr 5 (.tmp 22) (.tmp 23), none⟩,
             ⟨some 25, .load 70 true 5 (.tmp 24), none⟩,
             ⟨some 9, .alloc 70 (.agg #[(.int .i64 0), (.int .i64 0), (.int .i64 0), (.int .i64 0), (.slice none 0 0)]), none⟩,
             ⟨none, .store 70 5 (.tmp 9) (.tmp 25), none⟩])
          (.seq (.reg [⟨some 26, .mv (.tmp 2), none⟩,
             ⟨some 27, .load 70 true 5 (.tmp 8), none⟩,
             ⟨some 28, .load 70 true 5 (.tmp 9), none⟩,
             ⟨some 29, .call (.tmp 26) [(.tmp 27), (.tmp 28)], none⟩,
             ⟨some 30, .un .not (.tmp 29), none⟩])
          (.cond (.tmp 30)
            (.seq (.reg [⟨some 6, .mv (.const (.bool false)), none⟩])
            .ret)
            (.skip))))))
       (.reg [⟨some 31, .bin .add 3 (.tmp 17) (.const (.int .i64 1)), none⟩,
         ⟨some 17, .mv (.tmp 31), none⟩])))))))
  (.seq (.reg [⟨some 6, .mv (.const (.bool true)), none⟩])
  .ret)))),
  [.tmp 6], false⟩

/-- jobshell/syntax.Same$2 -/
def p50 : PFn := ⟨24,
  (.seq (.reg [⟨some 2, .box 70 (.tmp 0), none⟩,
     ⟨some 3, .box 70 (.tmp 1), none⟩,
     ⟨some 4, .mv (.const (.bool false)), none⟩])
  (.seq (.reg [⟨some 5, .faddr 1 (.tmp 2), none⟩,
     ⟨some 6, .load 3 false 1 (.tmp 5), none⟩,
     ⟨some 7, .faddr 1 (.tmp 3), none⟩,
     ⟨some 8, .load 3 false 1 (.tmp 7), none⟩,
     ⟨some 9, .bin .eql 3 (.tmp 6) (.tmp 8), none⟩,
     ⟨some 10, .mv (.tmp 9), none⟩,
     ⟨some 11, .faddr 2 (.tmp 2), (some (10, true))⟩,
     ⟨some 12, .load 3 false 1 (.tmp 11), (some (10, true))⟩,
     ⟨some 13, .faddr 2 (.tmp 3), (some (10, true))⟩,
     ⟨some 14, .load 3 false 1 (.tmp 13), (some (10, true))⟩,
     ⟨some 15, .bin .eql 3 (.tmp 12) (.tmp 14), (some (10, true))⟩,
     ⟨some 16, .pick (.tmp 10) (.tmp 15) (.const (.bool false)), none⟩,
     ⟨some 17, .mv (.tmp 16), none⟩,
     ⟨some 18, .faddr 3 (.tmp 2), (some (17, true))⟩,
     ⟨some 19, .load 56 true 2 (.tmp 18), (some (17, true))⟩,
     ⟨some 20, .faddr 3 (.tmp 3), (some (17, true))⟩,
     ⟨some 21, .load 56 true 2 (.tmp 20), (some (17, true))⟩,
     ⟨some 22, .call (.func 47) [(.tmp 19), (.tmp 21)], (some (17, true))⟩,
     ⟨some 23, .pick (.tmp 17) (.tmp 22) (.const (.bool false)), none⟩,
     ⟨some 4, .mv (.tmp 23), none⟩])
  .ret)),
  [.tmp 4], false⟩

/-- slices.EqualFunc[[]jobshell/api.Node,[]jobshell/api.Node,jobshell/api.Node,jobshell/api.Node] -/
def p51 : PFn := ⟨32,
  (.seq (.reg [⟨some 6, .mv (.const (.bool false)), none⟩])
  (.seq (.seq (.reg [⟨some 10, .mv (.tmp 0), none⟩,
      ⟨some 11, .len false (.tmp 10), none⟩,
      ⟨some 12, .mv (.tmp 1), none⟩,
      ⟨some 13, .len false (.tmp 12), none⟩,
      ⟨some 14, .bin .neq 3 (.tmp 11) (.tmp 13), none⟩])
   (.cond (.tmp 14)
     (.seq (.reg [⟨some 6, .mv (.const (.bool false)), none⟩])
     .ret)
     (.skip)))
  (.seq (.seq (.reg [⟨some 15, .mv (.tmp 0), none⟩,
      ⟨some 16, .len false (.tmp 15), none⟩,
      ⟨some 17, .mv (.const (.int .i64 0)), none⟩])
   (.block 0
     (.loop
       (.seq (.reg [⟨some 18, .bin .lss 3 (.tmp 17) (.tmp 16), none⟩])
       (.seq (.cond (.tmp 18)
          (.skip)
          (.exit 0))
       (.seq (.block 1
          (.seq (.reg [⟨some 19, .mv (.tmp 17), none⟩,
             ⟨some 20, .iaddr 9 (.tmp 15) (.tmp 17), none⟩,
             ⟨some 21, .load 28 true 9 (.tmp 20), none⟩,
             ⟨some 8, .alloc 28 (.agg #[(.int .i64 0), (.int .i64 0), (.string ⟨#[]⟩), (.bool false), (.slice none 0 0), (.slice none 0 0), (.slice none 0 0), (.slice none 0 0), (.slice none 0 0)]), none⟩,
             ⟨some 7, .mv (.tmp 19), none⟩,
             ⟨none, .store 28 9 (.tmp 8) (.tmp 21), none⟩])
          (.seq (.reg [⟨some 22, .mv (.tmp 1), none⟩,
             ⟨some 23, .mv (.tmp 7), none⟩,
             ⟨some 24, .iaddr 9 (.tmp 22) (.tmp 23), none⟩,
             ⟨some 25, .load 28 true 9 (.tmp 24), none⟩,
             ⟨some 9, .alloc 28 (.agg #[(.int .i64 0), (.int .i64 0), (.string ⟨#[]⟩), (.bool false), (.slice none 0 0), (.slice none 0 0), (.slice none 0 0), (.slice none 0 0), (.slice none 0 0)]), none⟩,
             ⟨none, .store 28 9 (.tmp 9) (.tmp 25), none⟩])
          (.seq (.reg [⟨some 26, .mv (.tmp 2), none⟩,
             ⟨some 27, .load 28 true 9 (.tmp 8), none⟩,
             ⟨some 28, .load 28 true 9 (.tmp 9), none⟩,
             ⟨some 29, .call (.tmp 26) [(.tmp 27), (.tmp 28)], none⟩,
             ⟨some 30, .un .not (.tmp 29), none⟩])
          (.cond (.tmp 30)
            (.seq (.reg [⟨some 6, .mv (.const (.bool false)), none⟩])
            .ret)
            (.skip))))))
       (.reg [⟨some 31, .bin .add 3 (.tmp 17) (.const (.int .i64 1)), none⟩,
         ⟨some 17, .mv (.tmp 31), none⟩])))))))
  (.seq (.reg [⟨some 6, .mv (.const (.bool true)), none⟩])
  .ret)))),
  [.tmp 6], false⟩

/-- slices.EqualFunc[[]jobshell/api.Item,[]jobshell/api.Item,jobshell/api.Item,jobshell/api.Item] -/
def p52 : PFn := ⟨32,
  (.seq (.reg [⟨some 6, .mv (.const (.bool false)), none⟩])
  (.seq (.seq (.reg [⟨some 10, .mv (.tmp 0), none⟩,
      ⟨some 11, .len false (.tmp 10), none⟩,
      ⟨some 12, .mv (.tmp 1), none⟩,
      ⟨some 13, .len false (.tmp 12), none⟩,
      ⟨some 14, .bin .neq 3 (.tmp 11) (.tmp 13), none⟩])
   (.cond (.tmp 14)
     (.seq (.reg [⟨some 6, .mv (.const (.bool false)), none⟩])
     .ret)
     (.skip)))
  (.seq (.seq (.reg [⟨some 15, .mv (.tmp 0), none⟩,
      ⟨some 16, .len false (.tmp 15), none⟩,
      ⟨some 17, .mv (.const (.int .i64 0)), none⟩])
   (.block 0
     (.loop
       (.seq (.reg [⟨some 18, .bin .lss 3 (.tmp 17) (.tmp 16), none⟩])
       (.seq (.cond (.tmp 18)
          (.skip)
          (.exit 0))
       (.seq (.block 1
          (.seq (.reg [⟨some 19, .mv (.tmp 17), none⟩,
             ⟨some 20, .iaddr 2 (.tmp 15) (.tmp 17), none⟩,
             ⟨some 21, .load 75 true 2 (.tmp 20), none⟩,
             ⟨some 8, .alloc 75 (.agg #[(.slice none 0 0), (.slice none 0 0)]), none⟩,
             ⟨some 7, .mv (.tmp 19), none⟩,
             ⟨none, .store 75 2 (.tmp 8) (.tmp 21), none⟩])
          (.seq (.reg [⟨some 22, .mv (.tmp 1), none⟩,
             ⟨some 23, .mv (.tmp 7), none⟩,
             ⟨some 24, .iaddr 2 (.tmp 22) (.tmp 23), none⟩,
             ⟨some 25, .load 75 true 2 (.tmp 24), none⟩,
             ⟨some 9, .alloc 75 (.agg #[(.slice none 0 0), (.slice none 0 0)]), none⟩,
             ⟨none, .store 75 2 (.tmp 9) (.tmp 25), none⟩])
          (.seq (.reg [⟨some 26, .mv (.tmp 2), none⟩,
             ⟨some 27, .load 75 true 2 (.tmp 8), none⟩,
             ⟨some 28, .load 75 true 2 (.tmp 9), none⟩,
             ⟨some 29, .call (.tmp 26) [(.tmp 27), (.tmp 28)], none⟩,
             ⟨some 30, .un .not (.tmp 29), none⟩])
          (.cond (.tmp 30)
            (.seq (.reg [⟨some 6, .mv (.const (.bool false)), none⟩])
            .ret)
            (.skip))))))
       (.reg [⟨some 31, .bin .add 3 (.tmp 17) (.const (.int .i64 1)), none⟩,
         ⟨some 17, .mv (.tmp 31), none⟩])))))))
  (.seq (.reg [⟨some 6, .mv (.const (.bool true)), none⟩])
  .ret)))),
  [.tmp 6], false⟩

/-- jobshell/syntax.Same$3 -/
def p53 : PFn := ⟨17,
  (.seq (.reg [⟨some 2, .box 75 (.tmp 0), none⟩,
     ⟨some 3, .box 75 (.tmp 1), none⟩,
     ⟨some 4, .mv (.const (.bool false)), none⟩])
  (.seq (.reg [⟨some 5, .faddr 0 (.tmp 2), none⟩,
     ⟨some 6, .load 23 false 1 (.tmp 5), none⟩,
     ⟨some 7, .faddr 0 (.tmp 3), none⟩,
     ⟨some 8, .load 23 false 1 (.tmp 7), none⟩,
     ⟨some 9, .call (.func 48) [(.tmp 6), (.tmp 8), (.func 47)], none⟩,
     ⟨some 10, .mv (.tmp 9), none⟩,
     ⟨some 11, .faddr 1 (.tmp 2), (some (10, true))⟩,
     ⟨some 12, .load 25 false 1 (.tmp 11), (some (10, true))⟩,
     ⟨some 13, .faddr 1 (.tmp 3), (some (10, true))⟩,
     ⟨some 14, .load 25 false 1 (.tmp 13), (some (10, true))⟩,
     ⟨some 15, .call (.func 51) [(.tmp 12), (.tmp 14), (.func 20)], (some (10, true))⟩,
     ⟨some 16, .pick (.tmp 10) (.tmp 15) (.const (.bool false)), none⟩,
     ⟨some 4, .mv (.tmp 16), none⟩])
  .ret)),
  [.tmp 4], false⟩

/-- jobshell/jobshellref11.sameAssigns -/
def p54 : PFn := ⟨44,
  (.seq (.reg [⟨some 4, .mv (.const (.bool false)), none⟩])
  (.seq (.seq (.reg [⟨some 6, .mv (.tmp 0), none⟩,
      ⟨some 7, .len false (.tmp 6), none⟩,
      ⟨some 8, .mv (.tmp 1), none⟩,
      ⟨some 9, .len false (.tmp 8), none⟩,
      ⟨some 10, .bin .neq 3 (.tmp 7) (.tmp 9), none⟩])
   (.cond (.tmp 10)
     (.seq (.reg [⟨some 4, .mv (.const (.bool false)), none⟩])
     .ret)
     (.skip)))
  (.seq (.seq (.reg [⟨some 5, .mv (.const (.int .i64 0)), none⟩])
   (.block 0
     (.loop
       (.seq (.seq (.reg [⟨some 11, .mv (.tmp 5), none⟩,
           ⟨some 12, .mv (.tmp 0), none⟩,
           ⟨some 13, .len false (.tmp 12), none⟩,
           ⟨some 14, .bin .lss 3 (.tmp 11) (.tmp 13), none⟩])
        (.cond (.tmp 14)
          (.skip)
          (.exit 0)))
       (.seq (.block 1
          (.seq (.draw [(⟨some 17, .mv (.tmp 0), none⟩, [0], []),
             (⟨some 18, .mv (.tmp 5), none⟩, [5], [0]),
             (⟨some 19, .iaddr 4 (.tmp 17) (.tmp 18), none⟩, [17, 18], []),
             (⟨some 20, .faddr 1 (.tmp 19), none⟩, [19], []),
             (⟨some 21, .load 9 false 1 (.tmp 20), none⟩, [20], []),
             (⟨some 22, .mv (.tmp 1), none⟩, [1], [4, 3, 2, 1, 0]),
             (⟨some 23, .mv (.tmp 5), none⟩, [5], [5, 4, 3, 2, 1, 0]),
             (⟨some 24, .iaddr 4 (.tmp 22) (.tmp 23), none⟩, [22, 23], [4, 3, 2, 1, 0]),
             (⟨some 25, .faddr 1 (.tmp 24), none⟩, [24], [4, 3, 2, 1, 0]),
             (⟨some 26, .load 9 false 1 (.tmp 25), none⟩, [25], [4, 3, 2, 1, 0]),
             (⟨some 27, .bin .neq 9 (.tmp 21) (.tmp 26), none⟩, [21, 26], []),
             (⟨some 28, .mv (.tmp 27), none⟩, [27], []),
             (⟨some 29, .mv (.tmp 0), (some (28, false))⟩, [0, 28], []),
             (⟨some 30, .mv (.tmp 5), (some (28, false))⟩, [5, 28], [12]),
             (⟨some 31, .iaddr 4 (.tmp 29) (.tmp 30), (some (28, false))⟩, [29, 30, 28], []),
             (⟨some 32, .faddr 2 (.tmp 31), (some (28, false))⟩, [31, 28], []),
             (⟨some 33, .faddr 1 (.tmp 32), (some (28, false))⟩, [32, 28], []),
             (⟨some 34, .load 54 false 1 (.tmp 33), (some (28, false))⟩, [33, 28], []),
             (⟨some 35, .mv (.tmp 1), (some (28, false))⟩, [1, 28], [17, 16, 15, 14, 13, 12]),
             (⟨some 36, .mv (.tmp 5), (some (28, false))⟩, [5, 28], [18, 17, 16, 15, 14, 13, 12]),
             (⟨some 37, .iaddr 4 (.tmp 35) (.tmp 36), (some (28, false))⟩, [35, 36, 28], [17, 16, 15, 14, 13, 12]),
             (⟨some 38, .faddr 2 (.tmp 37), (some (28, false))⟩, [37, 28], [17, 16, 15, 14, 13, 12]),
             (⟨some 39, .faddr 1 (.tmp 38), (some (28, false))⟩, [38, 28], [17, 16, 15, 14, 13, 12]),
             (⟨some 40, .load 54 false 1 (.tmp 39), (some (28, false))⟩, [39, 28], [17, 16, 15, 14, 13, 12]),
             (⟨some 41, .call (.func 87) [(.tmp 34), (.tmp 40)], (some (28, false))⟩, [34, 40, 28], []),
             (⟨some 42, .un .not (.tmp 41), (some (28, false))⟩, [41, 28], []),
             (⟨some 43, .pick (.tmp 28) (.const (.bool true)) (.tmp 42), none⟩, [28, 42], [])])
          (.cond (.tmp 43)
            (.seq (.reg [⟨some 4, .mv (.const (.bool false)), none⟩])
            .ret)
            (.skip))))
       (.reg [⟨some 15, .mv (.tmp 5), none⟩,
         ⟨some 16, .bin .add 3 (.tmp 15) (.const (.int .i64 1)), none⟩,
         ⟨some 5, .mv (.tmp 16), none⟩]))))))
  (.seq (.reg [⟨some 4, .mv (.const (.bool true)), none⟩])
  .ret)))),
  [.tmp 4], false⟩

/-- jobshell/jobshellref11.sameWords -/
def p55 : PFn := ⟨29,
  (.seq (.reg [⟨some 4, .mv (.const (.bool false)), none⟩])
  (.seq (.seq (.reg [⟨some 6, .mv (.tmp 0), none⟩,
      ⟨some 7, .len false (.tmp 6), none⟩,
      ⟨some 8, .mv (.tmp 1), none⟩,
      ⟨some 9, .len false (.tmp 8), none⟩,
      ⟨some 10, .bin .neq 3 (.tmp 7) (.tmp 9), none⟩])
   (.cond (.tmp 10)
     (.seq (.reg [⟨some 4, .mv (.const (.bool false)), none⟩])
     .ret)
     (.skip)))
  (.seq (.seq (.reg [⟨some 5, .mv (.const (.int .i64 0)), none⟩])
   (.block 0
     (.loop
       (.seq (.seq (.reg [⟨some 11, .mv (.tmp 5), none⟩,
           ⟨some 12, .mv (.tmp 0), none⟩,
           ⟨some 13, .len false (.tmp 12), none⟩,
           ⟨some 14, .bin .lss 3 (.tmp 11) (.tmp 13), none⟩])
        (.cond (.tmp 14)
          (.skip)
          (.exit 0)))
       (.seq (.block 1
          (.seq (.draw [(⟨some 17, .mv (.tmp 0), none⟩, [0], []),
             (⟨some 18, .mv (.tmp 5), none⟩, [5], [0]),
             (⟨some 19, .iaddr 2 (.tmp 17) (.tmp 18), none⟩, [17, 18], []),
             (⟨some 20, .faddr 1 (.tmp 19), none⟩, [19], []),
             (⟨some 21, .load 54 false 1 (.tmp 20), none⟩, [20], []),
             (⟨some 22, .mv (.tmp 1), none⟩, [1], [4, 3, 2, 1, 0]),
             (⟨some 23, .mv (.tmp 5), none⟩, [5], [5, 4, 3, 2, 1, 0]),
             (⟨some 24, .iaddr 2 (.tmp 22) (.tmp 23), none⟩, [22, 23], [4, 3, 2, 1, 0]),
             (⟨some 25, .faddr 1 (.tmp 24), none⟩, [24], [4, 3, 2, 1, 0]),
             (⟨some 26, .load 54 false 1 (.tmp 25), none⟩, [25], [4, 3, 2, 1, 0]),
             (⟨some 27, .call (.func 87) [(.tmp 21), (.tmp 26)], none⟩, [21, 26], []),
             (⟨some 28, .un .not (.tmp 27), none⟩, [27], [])])
          (.cond (.tmp 28)
            (.seq (.reg [⟨some 4, .mv (.const (.bool false)), none⟩])
            .ret)
            (.skip))))
       (.reg [⟨some 15, .mv (.tmp 5), none⟩,
         ⟨some 16, .bin .add 3 (.tmp 15) (.const (.int .i64 1)), none⟩,
         ⟨some 5, .mv (.tmp 16), none⟩]))))))
  (.seq (.reg [⟨some 4, .mv (.const (.bool true)), none⟩])
  .ret)))),
  [.tmp 4], false⟩

/-- jobshell/jobshellref11.SameRedirs -/
def p56 : PFn := ⟨57,
  (.seq (.reg [⟨some 4, .mv (.const (.bool false)), none⟩])
  (.seq (.seq (.reg [⟨some 6, .mv (.tmp 0), none⟩,
      ⟨some 7, .len false (.tmp 6), none⟩,
      ⟨some 8, .mv (.tmp 1), none⟩,
      ⟨some 9, .len false (.tmp 8), none⟩,
      ⟨some 10, .bin .neq 3 (.tmp 7) (.tmp 9), none⟩])
   (.cond (.tmp 10)
     (.seq (.reg [⟨some 4, .mv (.const (.bool false)), none⟩])
     .ret)
     (.skip)))
  (.seq (.seq (.reg [⟨some 5, .mv (.const (.int .i64 0)), none⟩])
   (.block 0
     (.loop
       (.seq (.seq (.reg [⟨some 11, .mv (.tmp 5), none⟩,
           ⟨some 12, .mv (.tmp 0), none⟩,
           ⟨some 13, .len false (.tmp 12), none⟩,
           ⟨some 14, .bin .lss 3 (.tmp 11) (.tmp 13), none⟩])
        (.cond (.tmp 14)
          (.skip)
          (.exit 0)))
       (.seq (.block 1
          (.seq (.draw [(⟨some 17, .mv (.tmp 0), none⟩, [0], []),
             (⟨some 18, .mv (.tmp 5), none⟩, [5], [0]),
             (⟨some 19, .iaddr 5 (.tmp 17) (.tmp 18), none⟩, [17, 18], []),
             (⟨some 20, .faddr 1 (.tmp 19), none⟩, [19], []),
             (⟨some 21, .load 3 false 1 (.tmp 20), none⟩, [20], []),
             (⟨some 22, .mv (.tmp 1), none⟩, [1], [4, 3, 2, 1, 0]),
             (⟨some 23, .mv (.tmp 5), none⟩, [5], [5, 4, 3, 2, 1, 0]),
             (⟨some 24, .iaddr 5 (.tmp 22) (.tmp 23), none⟩, [22, 23], [4, 3, 2, 1, 0]),
             (⟨some 25, .faddr 1 (.tmp 24), none⟩, [24], [4, 3, 2, 1, 0]),
             (⟨some 26, .load 3 false 1 (.tmp 25), none⟩, [25], [4, 3, 2, 1, 0]),
             (⟨some 27, .bin .neq 3 (.tmp 21) (.tmp 26), none⟩, [21, 26], []),
             (⟨some 28, .mv (.tmp 27), none⟩, [27], []),
             (⟨some 29, .mv (.tmp 0), (some (28, false))⟩, [0, 28], []),
             (⟨some 30, .mv (.tmp 5), (some (28, false))⟩, [5, 28], [12]),
             (⟨some 31, .iaddr 5 (.tmp 29) (.tmp 30), (some (28, false))⟩, [29, 30, 28], []),
             (⟨some 32, .faddr 2 (.tmp 31), (some (28, false))⟩, [31, 28], []),
             (⟨some 33, .load 3 false 1 (.tmp 32), (some (28, false))⟩, [32, 28], []),
             (⟨some 34, .mv (.tmp 1), (some (28, false))⟩, [1, 28], [16, 15, 14, 13, 12]),
             (⟨some 35, .mv (.tmp 5), (some (28, false))⟩, [5, 28], [17, 16, 15, 14, 13, 12]),
             (⟨some 36, .iaddr 5 (.tmp 34) (.tmp 35), (some (28, false))⟩, [34, 35, 28], [16, 15, 14, 13, 12]),
             (⟨some 37, .faddr 2 (.tmp 36), (some (28, false))⟩, [36, 28], [16, 15, 14, 13, 12]),
             (⟨some 38, .load 3 false 1 (.tmp 37), (some (28, false))⟩, [37, 28], [16, 15, 14, 13, 12]),
             (⟨some 39, .bin .neq 3 (.tmp 33) (.tmp 38), (some (28, false))⟩, [33, 38, 28], []),
             (⟨some 40, .pick (.tmp 28) (.const (.bool true)) (.tmp 39), none⟩, [28, 39], []),
             (⟨some 41, .mv (.tmp 40), none⟩, [40], []),
             (⟨some 42, .mv (.tmp 0), (some (41, false))⟩, [0, 41], []),
             (⟨some 43, .mv (.tmp 5), (some (41, false))⟩, [5, 41], [25]),
             (⟨some 44, .iaddr 5 (.tmp 42) (.tmp 43), (some (41, false))⟩, [42, 43, 41], []),
             (⟨some 45, .faddr 3 (.tmp 44), (some (41, false))⟩, [44, 41], []),
             (⟨some 46, .faddr 1 (.tmp 45), (some (41, false))⟩, [45, 41], []),
             (⟨some 47, .load 54 false 1 (.tmp 46), (some (41, false))⟩, [46, 41], []),
             (⟨some 48, .mv (.tmp 1), (some (41, false))⟩, [1, 41], [30, 29, 28, 27, 26, 25]),
             (⟨some 49, .mv (.tmp 5), (some (41, false))⟩, [5, 41], [31, 30, 29, 28, 27, 26, 25]),
             (⟨some 50, .iaddr 5 (.tmp 48) (.tmp 49), (some (41, false))⟩, [48, 49, 41], [30, 29, 28, 27, 26, 25]),
             (⟨some 51, .faddr 3 (.tmp 50), (some (41, false))⟩, [50, 41], [30, 29, 28, 27, 26, 25]),
             (⟨some 52, .faddr 1 (.tmp 51), (some (41, false))⟩, [51, 41], [30, 29, 28, 27, 26, 25]),
             (⟨some 53, .load 54 false 1 (.tmp 52), (some (41, false))⟩, [52, 41], [30, 29, 28, 27, 26, 25]),
             (⟨some 54, .call (.func 87) [(.tmp 47), (.tmp 53)], (some (41, false))⟩, [47, 53, 41], []),
             (⟨some 55, .un .not (.tmp 54), (some (41, false))⟩, [54, 41], []),
             (⟨some 56, .pick (.tmp 41) (.const (.bool true)) (.tmp 55), none⟩, [41, 55], [])])
          (.cond (.tmp 56)
            (.seq (.reg [⟨some 4, .mv (.const (.bool false)), none⟩])
            .ret)
            (.skip))))
       (.reg [⟨some 15, .mv (.tmp 5), none⟩,
         ⟨some 16, .bin .add 3 (.tmp 15) (.const (.int .i64 1)), none⟩,
         ⟨some 5, .mv (.tmp 16), none⟩]))))))
  (.seq (.reg [⟨some 4, .mv (.const (.bool true)), none⟩])
  .ret)))),
  [.tmp 4], false⟩

/-- jobshell/jobshellref11.SameAll -/
def p57 : PFn := ⟨27,
  (.seq (.reg [⟨some 4, .mv (.const (.bool false)), none⟩])
  (.seq (.seq (.reg [⟨some 6, .mv (.tmp 0), none⟩,
      ⟨some 7, .len false (.tmp 6), none⟩,
      ⟨some 8, .mv (.tmp 1), none⟩,
      ⟨some 9, .len false (.tmp 8), none⟩,
      ⟨some 10, .bin .neq 3 (.tmp 7) (.tmp 9), none⟩])
   (.cond (.tmp 10)
     (.seq (.reg [⟨some 4, .mv (.const (.bool false)), none⟩])
     .ret)
     (.skip)))
  (.seq (.seq (.reg [⟨some 5, .mv (.const (.int .i64 0)), none⟩])
   (.block 0
     (.loop
       (.seq (.seq (.reg [⟨some 11, .mv (.tmp 5), none⟩,
           ⟨some 12, .mv (.tmp 0), none⟩,
           ⟨some 13, .len false (.tmp 12), none⟩,
           ⟨some 14, .bin .lss 3 (.tmp 11) (.tmp 13), none⟩])
        (.cond (.tmp 14)
          (.skip)
          (.exit 0)))
       (.seq (.block 1
          (.seq (.draw [(⟨some 17, .mv (.tmp 0), none⟩, [0], []),
             (⟨some 18, .mv (.tmp 5), none⟩, [5], [0]),
             (⟨some 19, .iaddr 9 (.tmp 17) (.tmp 18), none⟩, [17, 18], []),
             (⟨some 20, .load 28 true 9 (.tmp 19), none⟩, [19], []),
             (⟨some 21, .mv (.tmp 1), none⟩, [1], [3, 2, 1, 0]),
             (⟨some 22, .mv (.tmp 5), none⟩, [5], [4, 3, 2, 1, 0]),
             (⟨some 23, .iaddr 9 (.tmp 21) (.tmp 22), none⟩, [21, 22], [3, 2, 1, 0]),
             (⟨some 24, .load 28 true 9 (.tmp 23), none⟩, [23], [3, 2, 1, 0]),
             (⟨some 25, .call (.func 21) [(.tmp 20), (.tmp 24)], none⟩, [20, 24], []),
             (⟨some 26, .un .not (.tmp 25), none⟩, [25], [])])
          (.cond (.tmp 26)
            (.seq (.reg [⟨some 4, .mv (.const (.bool false)), none⟩])
            .ret)
            (.skip))))
       (.reg [⟨some 15, .mv (.tmp 5), none⟩,
         ⟨some 16, .bin .add 3 (.tmp 15) (.const (.int .i64 1)), none⟩,
         ⟨some 5, .mv (.tmp 16), none⟩]))))))
  (.seq (.reg [⟨some 4, .mv (.const (.bool true)), none⟩])
  .ret)))),
  [.tmp 4], false⟩

/-- jobshell/jobshellref11.sameItems -/
def p58 : PFn := ⟨43,
  (.seq (.reg [⟨some 4, .mv (.const (.bool false)), none⟩])
  (.seq (.seq (.reg [⟨some 6, .mv (.tmp 0), none⟩,
      ⟨some 7, .len false (.tmp 6), none⟩,
      ⟨some 8, .mv (.tmp 1), none⟩,
      ⟨some 9, .len false (.tmp 8), none⟩,
      ⟨some 10, .bin .neq 3 (.tmp 7) (.tmp 9), none⟩])
   (.cond (.tmp 10)
     (.seq (.reg [⟨some 4, .mv (.const (.bool false)), none⟩])
     .ret)
     (.skip)))
  (.seq (.seq (.reg [⟨some 5, .mv (.const (.int .i64 0)), none⟩])
   (.block 0
     (.loop
       (.seq (.seq (.reg [⟨some 11, .mv (.tmp 5), none⟩,
           ⟨some 12, .mv (.tmp 0), none⟩,
           ⟨some 13, .len false (.tmp 12), none⟩,
           ⟨some 14, .bin .lss 3 (.tmp 11) (.tmp 13), none⟩])
        (.cond (.tmp 14)
          (.skip)
          (.exit 0)))
       (.seq (.block 1
          (.seq (.draw [(⟨some 17, .mv (.tmp 0), none⟩, [0], []),
             (⟨some 18, .mv (.tmp 5), none⟩, [5], [0]),
             (⟨some 19, .iaddr 2 (.tmp 17) (.tmp 18), none⟩, [17, 18], []),
             (⟨some 20, .faddr 0 (.tmp 19), none⟩, [19], []),
             (⟨some 21, .load 23 false 1 (.tmp 20), none⟩, [20], []),
             (⟨some 22, .mv (.tmp 1), none⟩, [1], [4, 3, 2, 1, 0]),
             (⟨some 23, .mv (.tmp 5), none⟩, [5], [5, 4, 3, 2, 1, 0]),
             (⟨some 24, .iaddr 2 (.tmp 22) (.tmp 23), none⟩, [22, 23], [4, 3, 2, 1, 0]),
             (⟨some 25, .faddr 0 (.tmp 24), none⟩, [24], [4, 3, 2, 1, 0]),
             (⟨some 26, .load 23 false 1 (.tmp 25), none⟩, [25], [4, 3, 2, 1, 0]),
             (⟨some 27, .call (.func 55) [(.tmp 21), (.tmp 26)], none⟩, [21, 26], []),
             (⟨some 28, .un .not (.tmp 27), none⟩, [27], []),
             (⟨some 29, .mv (.tmp 28), none⟩, [28], []),
             (⟨some 30, .mv (.tmp 0), (some (29, false))⟩, [0, 29], []),
             (⟨some 31, .mv (.tmp 5), (some (29, false))⟩, [5, 29], [13]),
             (⟨some 32, .iaddr 2 (.tmp 30) (.tmp 31), (some (29, false))⟩, [30, 31, 29], []),
             (⟨some 33, .faddr 1 (.tmp 32), (some (29, false))⟩, [32, 29], []),
             (⟨some 34, .load 25 false 1 (.tmp 33), (some (29, false))⟩, [33, 29], []),
             (⟨some 35, .mv (.tmp 1), (some (29, false))⟩, [1, 29], [17, 16, 15, 14, 13]),
             (⟨some 36, .mv (.tmp 5), (some (29, false))⟩, [5, 29], [18, 17, 16, 15, 14, 13]),
             (⟨some 37, .iaddr 2 (.tmp 35) (.tmp 36), (some (29, false))⟩, [35, 36, 29], [17, 16, 15, 14, 13]),
             (⟨some 38, .faddr 1 (.tmp 37), (some (29, false))⟩, [37, 29], [17, 16, 15, 14, 13]),
             (⟨some 39, .load 25 false 1 (.tmp 38), (some (29, false))⟩, [38, 29], [17, 16, 15, 14, 13]),
             (⟨some 40, .call (.func 57) [(.tmp 34), (.tmp 39)], (some (29, false))⟩, [34, 39, 29], []),
             (⟨some 41, .un .not (.tmp 40), (some (29, false))⟩, [40, 29], []),
             (⟨some 42, .pick (.tmp 29) (.const (.bool true)) (.tmp 41), none⟩, [29, 41], [])])
          (.cond (.tmp 42)
            (.seq (.reg [⟨some 4, .mv (.const (.bool false)), none⟩])
            .ret)
            (.skip))))
       (.reg [⟨some 15, .mv (.tmp 5), none⟩,
         ⟨some 16, .bin .add 3 (.tmp 15) (.const (.int .i64 1)), none⟩,
         ⟨some 5, .mv (.tmp 16), none⟩]))))))
  (.seq (.reg [⟨some 4, .mv (.const (.bool true)), none⟩])
  .ret)))),
  [.tmp 4], false⟩

/-- jobshell/syntax.copyNode -/
def p59 : PFn := ⟨24,
  (.seq (.reg [⟨some 1, .box 28 (.tmp 0), none⟩,
     ⟨some 2, .alloc 28 (.agg #[(.int .i64 0), (.int .i64 0), (.string ⟨#[]⟩), (.bool false), (.slice none 0 0), (.slice none 0 0), (.slice none 0 0), (.slice none 0 0), (.slice none 0 0)]), none⟩])
  (.seq (.reg [⟨some 3, .faddr 4 (.tmp 1), none⟩,
     ⟨some 4, .load 22 false 1 (.tmp 3), none⟩,
     ⟨some 5, .call (.func 88) [(.tmp 4), (.func 89)], none⟩,
     ⟨some 6, .faddr 4 (.tmp 1), none⟩,
     ⟨none, .store 22 1 (.tmp 6) (.tmp 5), none⟩])
  (.seq (.reg [⟨some 7, .faddr 5 (.tmp 1), none⟩,
     ⟨some 8, .load 23 false 1 (.tmp 7), none⟩,
     ⟨some 9, .call (.func 91) [(.tmp 8), (.func 90)], none⟩,
     ⟨some 10, .faddr 5 (.tmp 1), none⟩,
     ⟨none, .store 23 1 (.tmp 10) (.tmp 9), none⟩])
  (.seq (.reg [⟨some 11, .faddr 6 (.tmp 1), none⟩,
     ⟨some 12, .load 24 false 1 (.tmp 11), none⟩,
     ⟨some 13, .call (.func 92) [(.tmp 12), (.func 93)], none⟩,
     ⟨some 14, .faddr 6 (.tmp 1), none⟩,
     ⟨none, .store 24 1 (.tmp 14) (.tmp 13), none⟩])
  (.seq (.reg [⟨some 15, .faddr 7 (.tmp 1), none⟩,
     ⟨some 16, .load 25 false 1 (.tmp 15), none⟩,
     ⟨some 17, .call (.func 94) [(.tmp 16), (.func 59)], none⟩,
     ⟨some 18, .faddr 7 (.tmp 1), none⟩,
     ⟨none, .store 25 1 (.tmp 18) (.tmp 17), none⟩])
  (.seq (.reg [⟨some 19, .faddr 8 (.tmp 1), none⟩,
     ⟨some 20, .load 26 false 1 (.tmp 19), none⟩,
     ⟨some 21, .call (.func 95) [(.tmp 20), (.func 96)], none⟩,
     ⟨some 22, .faddr 8 (.tmp 1), none⟩,
     ⟨none, .store 26 1 (.tmp 22) (.tmp 21), none⟩])
  (.seq (.reg [⟨some 23, .load 28 true 9 (.tmp 1), none⟩,
     ⟨none, .store 28 9 (.tmp 2) (.tmp 23), none⟩])
  .ret))))))),
  [.cell 2 true 9], false⟩

/-- jobshell/jobshellref11.positions -/
def p62 : PFn := ⟨77,
  (.seq (.reg [⟨some 1, .box 28 (.tmp 0), none⟩,
     ⟨some 2, .mv (.const (.slice none 0 0)), none⟩])
  (.seq (.reg [⟨some 10, .faddr 1 (.tmp 1), none⟩,
     ⟨some 11, .load 3 false 1 (.tmp 10), none⟩,
     ⟨some 12, .bslice 3 1 [(.int .i64 0)] [(0, 1, (.tmp 11))], none⟩,
     ⟨some 3, .mv (.tmp 12), none⟩])
  (.seq (.seq (.reg [⟨some 4, .mv (.const (.int .i64 0)), none⟩])
   (.block 0
     (.loop
       (.seq (.seq (.reg [⟨some 13, .mv (.tmp 4), none⟩,
           ⟨some 14, .faddr 4 (.tmp 1), none⟩,
           ⟨some 15, .load 22 false 1 (.tmp 14), none⟩,
           ⟨some 16, .len false (.tmp 15), none⟩,
           ⟨some 17, .bin .lss 3 (.tmp 13) (.tmp 16), none⟩])
        (.cond (.tmp 17)
          (.skip)
          (.exit 0)))
       (.seq (.block 1
          (.reg [⟨some 20, .mv (.tmp 3), none⟩,
            ⟨some 21, .faddr 4 (.tmp 1), none⟩,
            ⟨some 22, .load 22 false 1 (.tmp 21), none⟩,
            ⟨some 23, .mv (.tmp 4), none⟩,
            ⟨some 24, .iaddr 4 (.tmp 22) (.tmp 23), none⟩,
            ⟨some 25, .faddr 0 (.tmp 24), none⟩,
            ⟨some 26, .load 3 false 1 (.tmp 25), none⟩,
            ⟨some 27, .bslice 3 1 [(.int .i64 0)] [(0, 1, (.tmp 26))], none⟩,
            ⟨some 28, .app 3 1 8 (.tmp 20) (.tmp 27), none⟩,
            ⟨some 3, .mv (.tmp 28), none⟩]))
       (.reg [⟨some 18, .mv (.tmp 4), none⟩,
         ⟨some 19, .bin .add 3 (.tmp 18) (.const (.int .i64 1)), none⟩,
         ⟨some 4, .mv (.tmp 19), none⟩]))))))
  (.seq (.seq (.reg [⟨some 5, .mv (.const (.int .i64 0)), none⟩])
   (.block 2
     (.loop
       (.seq (.seq (.reg [⟨some 29, .mv (.tmp 5), none⟩,
           ⟨some 30, .faddr 6 (.tmp 1), none⟩,
           ⟨some 31, .load 24 false 1 (.tmp 30), none⟩,
           ⟨some 32, .len false (.tmp 31), none⟩,
           ⟨some 33, .bin .lss 3 (.tmp 29) (.tmp 32), none⟩])
        (.cond (.tmp 33)
          (.skip)
          (.exit 2)))
       (.seq (.block 3
          (.reg [⟨some 36, .mv (.tmp 3), none⟩,
            ⟨some 37, .faddr 6 (.tmp 1), none⟩,
            ⟨some 38, .load 24 false 1 (.tmp 37), none⟩,
            ⟨some 39, .mv (.tmp 5), none⟩,
            ⟨some 40, .iaddr 5 (.tmp 38) (.tmp 39), none⟩,
            ⟨some 41, .faddr 0 (.tmp 40), none⟩,
            ⟨some 42, .load 3 false 1 (.tmp 41), none⟩,
            ⟨some 43, .bslice 3 1 [(.int .i64 0)] [(0, 1, (.tmp 42))], none⟩,
            ⟨some 44, .app 3 1 8 (.tmp 36) (.tmp 43), none⟩,
            ⟨some 3, .mv (.tmp 44), none⟩]))
       (.reg [⟨some 34, .mv (.tmp 5), none⟩,
         ⟨some 35, .bin .add 3 (.tmp 34) (.const (.int .i64 1)), none⟩,
         ⟨some 5, .mv (.tmp 35), none⟩]))))))
  (.seq (.reg [⟨some 45, .load 28 true 9 (.tmp 1), none⟩,
     ⟨some 46, .call (.func 38) [(.tmp 45)], none⟩,
     ⟨some 6, .mv (.tmp 46), none⟩])
  (.seq (.seq (.reg [⟨some 7, .mv (.const (.int .i64 0)), none⟩])
   (.block 4
     (.loop
       (.seq (.seq (.reg [⟨some 47, .mv (.tmp 7), none⟩,
           ⟨some 48, .mv (.tmp 6), none⟩,
           ⟨some 49, .len false (.tmp 48), none⟩,
           ⟨some 50, .bin .lss 3 (.tmp 47) (.tmp 49), none⟩])
        (.cond (.tmp 50)
          (.skip)
          (.exit 4)))
       (.seq (.block 5
          (.reg [⟨some 53, .mv (.tmp 3), none⟩,
            ⟨some 54, .mv (.tmp 6), none⟩,
            ⟨some 55, .mv (.tmp 7), none⟩,
            ⟨some 56, .iaddr 2 (.tmp 54) (.tmp 55), none⟩,
            ⟨some 57, .faddr 0 (.tmp 56), none⟩,
            ⟨some 58, .load 3 false 1 (.tmp 57), none⟩,
            ⟨some 59, .bslice 3 1 [(.int .i64 0)] [(0, 1, (.tmp 58))], none⟩,
            ⟨some 60, .app 3 1 8 (.tmp 53) (.tmp 59), none⟩,
            ⟨some 3, .mv (.tmp 60), none⟩]))
       (.reg [⟨some 51, .mv (.tmp 7), none⟩,
         ⟨some 52, .bin .add 3 (.tmp 51) (.const (.int .i64 1)), none⟩,
         ⟨some 7, .mv (.tmp 52), none⟩]))))))
  (.seq (.reg [⟨some 61, .load 28 true 9 (.tmp 1), none⟩,
     ⟨some 62, .call (.func 40) [(.tmp 61)], none⟩,
     ⟨some 8, .mv (.tmp 62), none⟩])
  (.seq (.seq (.reg [⟨some 9, .mv (.const (.int .i64 0)), none⟩])
   (.block 6
     (.loop
       (.seq (.seq (.reg [⟨some 63, .mv (.tmp 9), none⟩,
           ⟨some 64, .mv (.tmp 8), none⟩,
           ⟨some 65, .len false (.tmp 64), none⟩,
           ⟨some 66, .bin .lss 3 (.tmp 63) (.tmp 65), none⟩])
        (.cond (.tmp 66)
          (.skip)
          (.exit 6)))
       (.seq (.block 7
          (.reg [⟨some 69, .mv (.tmp 3), none⟩,
            ⟨some 70, .mv (.tmp 8), none⟩,
            ⟨some 71, .mv (.tmp 9), none⟩,
            ⟨some 72, .iaddr 9 (.tmp 70) (.tmp 71), none⟩,
            ⟨some 73, .load 28 true 9 (.tmp 72), none⟩,
            ⟨some 74, .call (.func 62) [(.tmp 73)], none⟩,
            ⟨some 75, .app 3 1 8 (.tmp 69) (.tmp 74), none⟩,
            ⟨some 3, .mv (.tmp 75), none⟩]))
       (.reg [⟨some 67, .mv (.tmp 9), none⟩,
         ⟨some 68, .bin .add 3 (.tmp 67) (.const (.int .i64 1)), none⟩,
         ⟨some 9, .mv (.tmp 68), none⟩]))))))
  (.seq (.reg [⟨some 76, .mv (.tmp 3), none⟩,
     ⟨some 2, .mv (.tmp 76), none⟩])
  .ret))))))))),
  [.tmp 2], false⟩

/-- jobshell/syntax.preorder$1 -/
def p81 : PFn := ⟨23,
  (.seq (.reg [⟨some 3, .box 28 (.tmp 0), none⟩])
  (.seq (.draw [(⟨some 6, .load 25 false 1 (.tmp 1), none⟩, [1], []),
     (⟨some 7, .load 28 true 9 (.tmp 3), none⟩, [3], [0]),
     (⟨some 8, .len false (.tmp 6), none⟩, [6], [1]),
     (⟨some 9, .bslice 28 1 [(.int .i64 0), (.int .i64 0), (.string ⟨#[]⟩), (.bool false), (.slice none 0 0), (.slice none 0 0), (.slice none 0 0), (.slice none 0 0), (.slice none 0 0)] [(0, 9, (.const (.agg #[(.int .i64 0), (.int .i64 0), (.string ⟨#[]⟩), (.bool false), (.slice none 0 0), (.slice none 0 0), (.slice none 0 0), (.slice none 0 0), (.slice none 0 0)])))], none⟩, [], [2, 1, 0]),
     (⟨some 10, .app 28 9 160 (.tmp 6) (.tmp 9), none⟩, [6, 9], []),
     (⟨some 11, .iaddr 9 (.tmp 10) (.tmp 8), none⟩, [10, 8], []),
     (⟨none, .store 28 9 (.tmp 11) (.tmp 7), none⟩, [11, 7], []),
     (⟨none, .store 25 1 (.tmp 1) (.tmp 10), none⟩, [1, 10], [6, 5])])
  (.seq (.reg [⟨some 12, .load 28 true 9 (.tmp 3), none⟩,
     ⟨some 13, .call (.func 44) [(.tmp 12)], none⟩,
     ⟨some 14, .len false (.tmp 13), none⟩,
     ⟨some 15, .mv (.const (.int .i64 0)), none⟩])
  (.block 0
    (.loop
      (.seq (.reg [⟨some 16, .bin .lss 3 (.tmp 15) (.tmp 14), none⟩])
      (.seq (.cond (.tmp 16)
         (.skip)
         (.exit 0))
      (.seq (.block 1
         (.seq (.reg [⟨some 17, .iaddr 9 (.tmp 13) (.tmp 15), none⟩,
            ⟨some 18, .load 28 true 9 (.tmp 17), none⟩,
            ⟨some 5, .alloc 28 (.agg #[(.int .i64 0), (.int .i64 0), (.string ⟨#[]⟩), (.bool false), (.slice none 0 0), (.slice none 0 0), (.slice none 0 0), (.slice none 0 0), (.slice none 0 0)]), none⟩,
            ⟨none, .store 28 9 (.tmp 5) (.tmp 18), none⟩])
         (.reg [⟨some 19, .load 103 false 1 (.tmp 2), none⟩,
           ⟨some 20, .load 28 true 9 (.tmp 5), none⟩,
           ⟨some 21, .call (.tmp 19) [(.tmp 20)], none⟩])))
      (.reg [⟨some 22, .bin .add 3 (.tmp 15) (.const (.int .i64 1)), none⟩,
        ⟨some 15, .mv (.tmp 22), none⟩]))))))))),
  [], true⟩

/-- jobshell/words.Same -/
def p86 : PFn := ⟨8,
  (.seq (.reg [⟨some 4, .mv (.const (.bool false)), none⟩])
  (.seq (.reg [⟨some 5, .mv (.tmp 0), none⟩,
     ⟨some 6, .mv (.tmp 1), none⟩,
     ⟨some 7, .call (.func 132) [(.tmp 5), (.tmp 6), (.func 133)], none⟩,
     ⟨some 4, .mv (.tmp 7), none⟩])
  .ret)),
  [.tmp 4], false⟩

/-- jobshell/jobshellref08.Same -/
def p87 : PFn := ⟨61,
  (.seq (.reg [⟨some 4, .mv (.const (.bool false)), none⟩])
  (.seq (.seq (.reg [⟨some 8, .mv (.tmp 0), none⟩,
      ⟨some 9, .len false (.tmp 8), none⟩,
      ⟨some 10, .mv (.tmp 1), none⟩,
      ⟨some 11, .len false (.tmp 10), none⟩,
      ⟨some 12, .bin .neq 3 (.tmp 9) (.tmp 11), none⟩])
   (.cond (.tmp 12)
     (.seq (.reg [⟨some 4, .mv (.const (.bool false)), none⟩])
     .ret)
     (.skip)))
  (.seq (.seq (.reg [⟨some 5, .mv (.const (.int .i64 0)), none⟩])
   (.block 0
     (.loop
       (.seq (.seq (.reg [⟨some 13, .mv (.tmp 5), none⟩,
           ⟨some 14, .mv (.tmp 0), none⟩,
           ⟨some 15, .len false (.tmp 14), none⟩,
           ⟨some 16, .bin .lss 3 (.tmp 13) (.tmp 15), none⟩])
        (.cond (.tmp 16)
          (.skip)
          (.exit 0)))
       (.seq (.block 1
          (.seq (.draw [(⟨some 19, .mv (.tmp 0), none⟩, [0], []),
             (⟨some 20, .mv (.tmp 5), none⟩, [5], [0]),
             (⟨some 21, .iaddr 5 (.tmp 19) (.tmp 20), none⟩, [19, 20], []),
             (⟨some 22, .load 63 true 5 (.tmp 21), none⟩, [21], []),
             (⟨some 23, .mv (.tmp 1), none⟩, [1], [3, 2, 1, 0]),
             (⟨some 24, .mv (.tmp 5), none⟩, [5], [4, 3, 2, 1, 0]),
             (⟨some 25, .iaddr 5 (.tmp 23) (.tmp 24), none⟩, [23, 24], [3, 2, 1, 0]),
             (⟨some 26, .load 63 true 5 (.tmp 25), none⟩, [25], [3, 2, 1, 0]),
             (⟨some 6, .alloc 63 (.agg #[(.int .i64 0), (.string ⟨#[]⟩), (.int .i64 0), (.bool false), (.slice none 0 0)]), none⟩, [], [7, 6, 5, 4, 3, 2, 1, 0]),
             (⟨some 7, .alloc 63 (.agg #[(.int .i64 0), (.string ⟨#[]⟩), (.int .i64 0), (.bool false), (.slice none 0 0)]), none⟩, [], [8, 7, 6, 5, 4, 3, 2, 1, 0]),
             (⟨none, .store 63 5 (.tmp 6) (.tmp 22), none⟩, [6, 22], [7, 6, 5, 4]),
             (⟨none, .store 63 5 (.tmp 7) (.tmp 26), none⟩, [7, 26], [])])
          (.seq (.reg [⟨some 27, .faddr 0 (.tmp 6), none⟩,
             ⟨some 28, .load 3 false 1 (.tmp 27), none⟩,
             ⟨some 29, .faddr 0 (.tmp 7), none⟩,
             ⟨some 30, .load 3 false 1 (.tmp 29), none⟩,
             ⟨some 31, .bin .neq 3 (.tmp 28) (.tmp 30), none⟩,
             ⟨some 32, .mv (.tmp 31), none⟩,
             ⟨some 33, .faddr 1 (.tmp 6), (some (32, false))⟩,
             ⟨some 34, .load 9 false 1 (.tmp 33), (some (32, false))⟩,
             ⟨some 35, .faddr 1 (.tmp 7), (some (32, false))⟩,
             ⟨some 36, .load 9 false 1 (.tmp 35), (some (32, false))⟩,
             ⟨some 37, .bin .neq 9 (.tmp 34) (.tmp 36), (some (32, false))⟩,
             ⟨some 38, .pick (.tmp 32) (.const (.bool true)) (.tmp 37), none⟩,
             ⟨some 39, .mv (.tmp 38), none⟩,
             ⟨some 40, .faddr 2 (.tmp 6), (some (39, false))⟩,
             ⟨some 41, .load 3 false 1 (.tmp 40), (some (39, false))⟩,
             ⟨some 42, .faddr 2 (.tmp 7), (some (39, false))⟩,
             ⟨some 43, .load 3 false 1 (.tmp 42), (some (39, false))⟩,
             ⟨some 44, .bin .neq 3 (.tmp 41) (.tmp 43), (some (39, false))⟩,
             ⟨some 45, .pick (.tmp 39) (.const (.bool true)) (.tmp 44), none⟩,
             ⟨some 46, .mv (.tmp 45), none⟩,
             ⟨some 47, .faddr 3 (.tmp 6), (some (46, false))⟩,
             ⟨some 48, .load 4 false 1 (.tmp 47), (some (46, false))⟩,
             ⟨some 49, .faddr 3 (.tmp 7), (some (46, false))⟩,
             ⟨some 50, .load 4 false 1 (.tmp 49), (some (46, false))⟩,
             ⟨some 51, .bin .neq 4 (.tmp 48) (.tmp 50), (some (46, false))⟩,
             ⟨some 52, .pick (.tmp 46) (.const (.bool true)) (.tmp 51), none⟩,
             ⟨some 53, .mv (.tmp 52), none⟩,
             ⟨some 54, .faddr 4 (.tmp 6), (some (53, false))⟩,
             ⟨some 55, .load 54 false 1 (.tmp 54), (some (53, false))⟩,
             ⟨some 56, .faddr 4 (.tmp 7), (some (53, false))⟩,
             ⟨some 57, .load 54 false 1 (.tmp 56), (some (53, false))⟩,
             ⟨some 58, .call (.func 87) [(.tmp 55), (.tmp 57)], (some (53, false))⟩,
             ⟨some 59, .un .not (.tmp 58), (some (53, false))⟩,
             ⟨some 60, .pick (.tmp 53) (.const (.bool true)) (.tmp 59), none⟩])
          (.cond (.tmp 60)
            (.seq (.reg [⟨some 4, .mv (.const (.bool false)), none⟩])
            .ret)
            (.skip)))))
       (.reg [⟨some 17, .mv (.tmp 5), none⟩,
         ⟨some 18, .bin .add 3 (.tmp 17) (.const (.int .i64 1)), none⟩,
         ⟨some 5, .mv (.tmp 18), none⟩]))))))
  (.seq (.reg [⟨some 4, .mv (.const (.bool true)), none⟩])
  .ret)))),
  [.tmp 4], false⟩

/-- jobshell/syntax.copies[jobshell/api.Assign] -/
def p88 : PFn := ⟨22,
  (.seq (.reg [⟨some 4, .mv (.const (.slice none 0 0)), none⟩])
  (.seq (.reg [⟨some 5, .mv (.const (.slice none 0 0)), none⟩])
  (.seq (.seq (.reg [⟨some 8, .mv (.tmp 0), none⟩,
      ⟨some 9, .len false (.tmp 8), none⟩,
      ⟨some 10, .mv (.const (.int .i64 0)), none⟩])
   (.block 0
     (.loop
       (.seq (.reg [⟨some 11, .bin .lss 3 (.tmp 10) (.tmp 9), none⟩])
       (.seq (.cond (.tmp 11)
          (.skip)
          (.exit 0))
       (.seq (.block 1
          (.seq (.reg [⟨some 12, .iaddr 4 (.tmp 8) (.tmp 10), none⟩,
             ⟨some 13, .load 58 true 4 (.tmp 12), none⟩,
             ⟨some 7, .alloc 58 (.agg #[(.int .i64 0), (.string ⟨#[]⟩), (.int .i64 0), (.slice none 0 0)]), none⟩,
             ⟨none, .store 58 4 (.tmp 7) (.tmp 13), none⟩])
          (.reg [⟨some 14, .mv (.tmp 5), none⟩,
            ⟨some 15, .mv (.tmp 1), none⟩,
            ⟨some 16, .load 58 true 4 (.tmp 7), none⟩,
            ⟨some 17, .call (.tmp 15) [(.tmp 16)], none⟩,
            ⟨some 18, .bslice 58 1 [(.int .i64 0), (.string ⟨#[]⟩), (.int .i64 0), (.slice none 0 0)] [(0, 4, (.tmp 17))], none⟩,
            ⟨some 19, .app 58 4 56 (.tmp 14) (.tmp 18), none⟩,
            ⟨some 5, .mv (.tmp 19), none⟩])))
       (.reg [⟨some 20, .bin .add 3 (.tmp 10) (.const (.int .i64 1)), none⟩,
         ⟨some 10, .mv (.tmp 20), none⟩])))))))
  (.seq (.reg [⟨some 21, .mv (.tmp 5), none⟩,
     ⟨some 4, .mv (.tmp 21), none⟩])
  .ret)))),
  [.tmp 4], false⟩

/-- jobshell/syntax.copyNode$1 -/
def p89 : PFn := ⟨8,
  (.seq (.reg [⟨some 1, .box 58 (.tmp 0), none⟩,
     ⟨some 2, .alloc 58 (.agg #[(.int .i64 0), (.string ⟨#[]⟩), (.int .i64 0), (.slice none 0 0)]), none⟩])
  (.seq (.reg [⟨some 3, .faddr 2 (.tmp 1), none⟩,
     ⟨some 4, .load 56 true 2 (.tmp 3), none⟩,
     ⟨some 5, .call (.func 90) [(.tmp 4)], none⟩,
     ⟨some 6, .faddr 2 (.tmp 1), none⟩,
     ⟨none, .store 56 2 (.tmp 6) (.tmp 5), none⟩])
  (.seq (.reg [⟨some 7, .load 58 true 4 (.tmp 1), none⟩,
     ⟨none, .store 58 4 (.tmp 2) (.tmp 7), none⟩])
  .ret))),
  [.cell 2 true 4], false⟩

/-- jobshell/syntax.copyWord -/
def p90 : PFn := ⟨8,
  (.seq (.reg [⟨some 1, .box 56 (.tmp 0), none⟩,
     ⟨some 2, .alloc 56 (.agg #[(.int .i64 0), (.slice none 0 0)]), none⟩])
  (.seq (.reg [⟨some 3, .faddr 1 (.tmp 1), none⟩,
     ⟨some 4, .load 54 false 1 (.tmp 3), none⟩,
     ⟨some 5, .call (.func 134) [(.tmp 4), (.func 135)], none⟩,
     ⟨some 6, .faddr 1 (.tmp 1), none⟩,
     ⟨none, .store 54 1 (.tmp 6) (.tmp 5), none⟩])
  (.seq (.reg [⟨some 7, .load 56 true 2 (.tmp 1), none⟩,
     ⟨none, .store 56 2 (.tmp 2) (.tmp 7), none⟩])
  .ret))),
  [.cell 2 true 2], false⟩

/-- jobshell/syntax.copies[jobshell/api.Word] -/
def p91 : PFn := ⟨22,
  (.seq (.reg [⟨some 4, .mv (.const (.slice none 0 0)), none⟩])
  (.seq (.reg [⟨some 5, .mv (.const (.slice none 0 0)), none⟩])
  (.seq (.seq (.reg [⟨some 8, .mv (.tmp 0), none⟩,
      ⟨some 9, .len false (.tmp 8), none⟩,
      ⟨some 10, .mv (.const (.int .i64 0)), none⟩])
   (.block 0
     (.loop
       (.seq (.reg [⟨some 11, .bin .lss 3 (.tmp 10) (.tmp 9), none⟩])
       (.seq (.cond (.tmp 11)
          (.skip)
          (.exit 0))
       (.seq (.block 1
          (.seq (.reg [⟨some 12, .iaddr 2 (.tmp 8) (.tmp 10), none⟩,
             ⟨some 13, .load 56 true 2 (.tmp 12), none⟩,
             ⟨some 7, .alloc 56 (.agg #[(.int .i64 0), (.slice none 0 0)]), none⟩,
             ⟨none, .store 56 2 (.tmp 7) (.tmp 13), none⟩])
          (.reg [⟨some 14, .mv (.tmp 5), none⟩,
            ⟨some 15, .mv (.tmp 1), none⟩,
            ⟨some 16, .load 56 true 2 (.tmp 7), none⟩,
            ⟨some 17, .call (.tmp 15) [(.tmp 16)], none⟩,
            ⟨some 18, .bslice 56 1 [(.int .i64 0), (.slice none 0 0)] [(0, 2, (.tmp 17))], none⟩,
            ⟨some 19, .app 56 2 32 (.tmp 14) (.tmp 18), none⟩,
            ⟨some 5, .mv (.tmp 19), none⟩])))
       (.reg [⟨some 20, .bin .add 3 (.tmp 10) (.const (.int .i64 1)), none⟩,
         ⟨some 10, .mv (.tmp 20), none⟩])))))))
  (.seq (.reg [⟨some 21, .mv (.tmp 5), none⟩,
     ⟨some 4, .mv (.tmp 21), none⟩])
  .ret)))),
  [.tmp 4], false⟩

/-- jobshell/syntax.copies[jobshell/api.Redir] -/
def p92 : PFn := ⟨22,
  (.seq (.reg [⟨some 4, .mv (.const (.slice none 0 0)), none⟩])
  (.seq (.reg [⟨some 5, .mv (.const (.slice none 0 0)), none⟩])
  (.seq (.seq (.reg [⟨some 8, .mv (.tmp 0), none⟩,
      ⟨some 9, .len false (.tmp 8), none⟩,
      ⟨some 10, .mv (.const (.int .i64 0)), none⟩])
   (.block 0
     (.loop
       (.seq (.reg [⟨some 11, .bin .lss 3 (.tmp 10) (.tmp 9), none⟩])
       (.seq (.cond (.tmp 11)
          (.skip)
          (.exit 0))
       (.seq (.block 1
          (.seq (.reg [⟨some 12, .iaddr 5 (.tmp 8) (.tmp 10), none⟩,
             ⟨some 13, .load 70 true 5 (.tmp 12), none⟩,
             ⟨some 7, .alloc 70 (.agg #[(.int .i64 0), (.int .i64 0), (.int .i64 0), (.int .i64 0), (.slice none 0 0)]), none⟩,
             ⟨none, .store 70 5 (.tmp 7) (.tmp 13), none⟩])
          (.reg [⟨some 14, .mv (.tmp 5), none⟩,
            ⟨some 15, .mv (.tmp 1), none⟩,
            ⟨some 16, .load 70 true 5 (.tmp 7), none⟩,
            ⟨some 17, .call (.tmp 15) [(.tmp 16)], none⟩,
            ⟨some 18, .bslice 70 1 [(.int .i64 0), (.int .i64 0), (.int .i64 0), (.int .i64 0), (.slice none 0 0)] [(0, 5, (.tmp 17))], none⟩,
            ⟨some 19, .app 70 5 56 (.tmp 14) (.tmp 18), none⟩,
            ⟨some 5, .mv (.tmp 19), none⟩])))
       (.reg [⟨some 20, .bin .add 3 (.tmp 10) (.const (.int .i64 1)), none⟩,
         ⟨some 10, .mv (.tmp 20), none⟩])))))))
  (.seq (.reg [⟨some 21, .mv (.tmp 5), none⟩,
     ⟨some 4, .mv (.tmp 21), none⟩])
  .ret)))),
  [.tmp 4], false⟩

/-- jobshell/syntax.copyNode$2 -/
def p93 : PFn := ⟨8,
  (.seq (.reg [⟨some 1, .box 70 (.tmp 0), none⟩,
     ⟨some 2, .alloc 70 (.agg #[(.int .i64 0), (.int .i64 0), (.int .i64 0), (.int .i64 0), (.slice none 0 0)]), none⟩])
  (.seq (.reg [⟨some 3, .faddr 3 (.tmp 1), none⟩,
     ⟨some 4, .load 56 true 2 (.tmp 3), none⟩,
     ⟨some 5, .call (.func 90) [(.tmp 4)], none⟩,
     ⟨some 6, .faddr 3 (.tmp 1), none⟩,
     ⟨none, .store 56 2 (.tmp 6) (.tmp 5), none⟩])
  (.seq (.reg [⟨some 7, .load 70 true 5 (.tmp 1), none⟩,
     ⟨none, .store 70 5 (.tmp 2) (.tmp 7), none⟩])
  .ret))),
  [.cell 2 true 5], false⟩

/-- jobshell/syntax.copies[jobshell/api.Node] -/
def p94 : PFn := ⟨22,
  (.seq (.reg [⟨some 4, .mv (.const (.slice none 0 0)), none⟩])
  (.seq (.reg [⟨some 5, .mv (.const (.slice none 0 0)), none⟩])
  (.seq (.seq (.reg [⟨some 8, .mv (.tmp 0), none⟩,
      ⟨some 9, .len false (.tmp 8), none⟩,
      ⟨some 10, .mv (.const (.int .i64 0)), none⟩])
   (.block 0
     (.loop
       (.seq (.reg [⟨some 11, .bin .lss 3 (.tmp 10) (.tmp 9), none⟩])
       (.seq (.cond (.tmp 11)
          (.skip)
          (.exit 0))
       (.seq (.block 1
          (.seq (.reg [⟨some 12, .iaddr 9 (.tmp 8) (.tmp 10), none⟩,
             ⟨some 13, .load 28 true 9 (.tmp 12), none⟩,
             ⟨some 7, .alloc 28 (.agg #[(.int .i64 0), (.int .i64 0), (.string ⟨#[]⟩), (.bool false), (.slice none 0 0), (.slice none 0 0), (.slice none 0 0), (.slice none 0 0), (.slice none 0 0)]), none⟩,
             ⟨none, .store 28 9 (.tmp 7) (.tmp 13), none⟩])
          (.reg [⟨some 14, .mv (.tmp 5), none⟩,
            ⟨some 15, .mv (.tmp 1), none⟩,
            ⟨some 16, .load 28 true 9 (.tmp 7), none⟩,
            ⟨some 17, .call (.tmp 15) [(.tmp 16)], none⟩,
            ⟨some 18, .bslice 28 1 [(.int .i64 0), (.int .i64 0), (.string ⟨#[]⟩), (.bool false), (.slice none 0 0), (.slice none 0 0), (.slice none 0 0), (.slice none 0 0), (.slice none 0 0)] [(0, 9, (.tmp 17))], none⟩,
            ⟨some 19, .app 28 9 160 (.tmp 14) (.tmp 18), none⟩,
            ⟨some 5, .mv (.tmp 19), none⟩])))
       (.reg [⟨some 20, .bin .add 3 (.tmp 10) (.const (.int .i64 1)), none⟩,
         ⟨some 10, .mv (.tmp 20), none⟩])))))))
  (.seq (.reg [⟨some 21, .mv (.tmp 5), none⟩,
     ⟨some 4, .mv (.tmp 21), none⟩])
  .ret)))),
  [.tmp 4], false⟩

/-- jobshell/syntax.copies[jobshell/api.Item] -/
def p95 : PFn := ⟨22,
  (.seq (.reg [⟨some 4, .mv (.const (.slice none 0 0)), none⟩])
  (.seq (.reg [⟨some 5, .mv (.const (.slice none 0 0)), none⟩])
  (.seq (.seq (.reg [⟨some 8, .mv (.tmp 0), none⟩,
      ⟨some 9, .len false (.tmp 8), none⟩,
      ⟨some 10, .mv (.const (.int .i64 0)), none⟩])
   (.block 0
     (.loop
       (.seq (.reg [⟨some 11, .bin .lss 3 (.tmp 10) (.tmp 9), none⟩])
       (.seq (.cond (.tmp 11)
          (.skip)
          (.exit 0))
       (.seq (.block 1
          (.seq (.reg [⟨some 12, .iaddr 2 (.tmp 8) (.tmp 10), none⟩,
             ⟨some 13, .load 75 true 2 (.tmp 12), none⟩,
             ⟨some 7, .alloc 75 (.agg #[(.slice none 0 0), (.slice none 0 0)]), none⟩,
             ⟨none, .store 75 2 (.tmp 7) (.tmp 13), none⟩])
          (.reg [⟨some 14, .mv (.tmp 5), none⟩,
            ⟨some 15, .mv (.tmp 1), none⟩,
            ⟨some 16, .load 75 true 2 (.tmp 7), none⟩,
            ⟨some 17, .call (.tmp 15) [(.tmp 16)], none⟩,
            ⟨some 18, .bslice 75 1 [(.slice none 0 0), (.slice none 0 0)] [(0, 2, (.tmp 17))], none⟩,
            ⟨some 19, .app 75 2 48 (.tmp 14) (.tmp 18), none⟩,
            ⟨some 5, .mv (.tmp 19), none⟩])))
       (.reg [⟨some 20, .bin .add 3 (.tmp 10) (.const (.int .i64 1)), none⟩,
         ⟨some 10, .mv (.tmp 20), none⟩])))))))
  (.seq (.reg [⟨some 21, .mv (.tmp 5), none⟩,
     ⟨some 4, .mv (.tmp 21), none⟩])
  .ret)))),
  [.tmp 4], false⟩

/-- jobshell/syntax.copyNode$3 -/
def p96 : PFn := ⟨10,
  (.seq (.reg [⟨some 1, .box 75 (.tmp 0), none⟩,
     ⟨some 2, .alloc 75 (.agg #[(.slice none 0 0), (.slice none 0 0)]), none⟩])
  (.seq (.draw [(⟨some 3, .faddr 0 (.tmp 1), none⟩, [1], []),
     (⟨some 4, .load 23 false 1 (.tmp 3), none⟩, [3], []),
     (⟨some 5, .call (.func 91) [(.tmp 4), (.func 90)], none⟩, [4], []),
     (⟨some 6, .faddr 1 (.tmp 1), none⟩, [1], [2, 1, 0]),
     (⟨some 7, .load 25 false 1 (.tmp 6), none⟩, [6], [2, 1, 0]),
     (⟨some 8, .call (.func 94) [(.tmp 7), (.func 59)], none⟩, [7], []),
     (⟨some 9, .build [(.slice none 0 0), (.slice none 0 0)] [(0, 1, (.tmp 5)), (1, 1, (.tmp 8))], none⟩, [5, 8], []),
     (⟨none, .store 75 2 (.tmp 2) (.tmp 9), none⟩, [2, 9], [])])
  .ret)),
  [.cell 2 true 2], false⟩

/-- slices.EqualFunc[[]jobshell/api.Part,[]jobshell/api.Part,jobshell/api.Part,jobshell/api.Part] -/
def p132 : PFn := ⟨32,
  (.seq (.reg [⟨some 6, .mv (.const (.bool false)), none⟩])
  (.seq (.seq (.reg [⟨some 10, .mv (.tmp 0), none⟩,
      ⟨some 11, .len false (.tmp 10), none⟩,
      ⟨some 12, .mv (.tmp 1), none⟩,
      ⟨some 13, .len false (.tmp 12), none⟩,
      ⟨some 14, .bin .neq 3 (.tmp 11) (.tmp 13), none⟩])
   (.cond (.tmp 14)
     (.seq (.reg [⟨some 6, .mv (.const (.bool false)), none⟩])
     .ret)
     (.skip)))
  (.seq (.seq (.reg [⟨some 15, .mv (.tmp 0), none⟩,
      ⟨some 16, .len false (.tmp 15), none⟩,
      ⟨some 17, .mv (.const (.int .i64 0)), none⟩])
   (.block 0
     (.loop
       (.seq (.reg [⟨some 18, .bin .lss 3 (.tmp 17) (.tmp 16), none⟩])
       (.seq (.cond (.tmp 18)
          (.skip)
          (.exit 0))
       (.seq (.block 1
          (.seq (.reg [⟨some 19, .mv (.tmp 17), none⟩,
             ⟨some 20, .iaddr 5 (.tmp 15) (.tmp 17), none⟩,
             ⟨some 21, .load 63 true 5 (.tmp 20), none⟩,
             ⟨some 8, .alloc 63 (.agg #[(.int .i64 0), (.string ⟨#[]⟩), (.int .i64 0), (.bool false), (.slice none 0 0)]), none⟩,
             ⟨some 7, .mv (.tmp 19), none⟩,
             ⟨none, .store 63 5 (.tmp 8) (.tmp 21), none⟩])
          (.seq (.reg [⟨some 22, .mv (.tmp 1), none⟩,
             ⟨some 23, .mv (.tmp 7), none⟩,
             ⟨some 24, .iaddr 5 (.tmp 22) (.tmp 23), none⟩,
             ⟨some 25, .load 63 true 5 (.tmp 24), none⟩,
             ⟨some 9, .alloc 63 (.agg #[(.int .i64 0), (.string ⟨#[]⟩), (.int .i64 0), (.bool false), (.slice none 0 0)]), none⟩,
             ⟨none, .store 63 5 (.tmp 9) (.tmp 25), none⟩])
          (.seq (.reg [⟨some 26, .mv (.tmp 2), none⟩,
             ⟨some 27, .load 63 true 5 (.tmp 8), none⟩,
             ⟨some 28, .load 63 true 5 (.tmp 9), none⟩,
             ⟨some 29, .call (.tmp 26) [(.tmp 27), (.tmp 28)], none⟩,
             ⟨some 30, .un .not (.tmp 29), none⟩])
          (.cond (.tmp 30)
            (.seq (.reg [⟨some 6, .mv (.const (.bool false)), none⟩])
            .ret)
            (.skip))))))
       (.reg [⟨some 31, .bin .add 3 (.tmp 17) (.const (.int .i64 1)), none⟩,
         ⟨some 17, .mv (.tmp 31), none⟩])))))))
  (.seq (.reg [⟨some 6, .mv (.const (.bool true)), none⟩])
  .ret)))),
  [.tmp 6], false⟩

/-- jobshell/words.Same$1 -/
def p133 : PFn := ⟨38,
  (.seq (.reg [⟨some 2, .box 63 (.tmp 0), none⟩,
     ⟨some 3, .box 63 (.tmp 1), none⟩,
     ⟨some 4, .mv (.const (.bool false)), none⟩])
  (.seq (.reg [⟨some 5, .faddr 0 (.tmp 2), none⟩,
     ⟨some 6, .load 3 false 1 (.tmp 5), none⟩,
     ⟨some 7, .faddr 0 (.tmp 3), none⟩,
     ⟨some 8, .load 3 false 1 (.tmp 7), none⟩,
     ⟨some 9, .bin .eql 3 (.tmp 6) (.tmp 8), none⟩,
     ⟨some 10, .mv (.tmp 9), none⟩,
     ⟨some 11, .faddr 1 (.tmp 2), (some (10, true))⟩,
     ⟨some 12, .load 9 false 1 (.tmp 11), (some (10, true))⟩,
     ⟨some 13, .faddr 1 (.tmp 3), (some (10, true))⟩,
     ⟨some 14, .load 9 false 1 (.tmp 13), (some (10, true))⟩,
     ⟨some 15, .bin .eql 9 (.tmp 12) (.tmp 14), (some (10, true))⟩,
     ⟨some 16, .pick (.tmp 10) (.tmp 15) (.const (.bool false)), none⟩,
     ⟨some 17, .mv (.tmp 16), none⟩,
     ⟨some 18, .faddr 2 (.tmp 2), (some (17, true))⟩,
     ⟨some 19, .load 3 false 1 (.tmp 18), (some (17, true))⟩,
     ⟨some 20, .faddr 2 (.tmp 3), (some (17, true))⟩,
     ⟨some 21, .load 3 false 1 (.tmp 20), (some (17, true))⟩,
     ⟨some 22, .bin .eql 3 (.tmp 19) (.tmp 21), (some (17, true))⟩,
     ⟨some 23, .pick (.tmp 17) (.tmp 22) (.const (.bool false)), none⟩,
     ⟨some 24, .mv (.tmp 23), none⟩,
     ⟨some 25, .faddr 3 (.tmp 2), (some (24, true))⟩,
     ⟨some 26, .load 4 false 1 (.tmp 25), (some (24, true))⟩,
     ⟨some 27, .faddr 3 (.tmp 3), (some (24, true))⟩,
     ⟨some 28, .load 4 false 1 (.tmp 27), (some (24, true))⟩,
     ⟨some 29, .bin .eql 4 (.tmp 26) (.tmp 28), (some (24, true))⟩,
     ⟨some 30, .pick (.tmp 24) (.tmp 29) (.const (.bool false)), none⟩,
     ⟨some 31, .mv (.tmp 30), none⟩,
     ⟨some 32, .faddr 4 (.tmp 2), (some (31, true))⟩,
     ⟨some 33, .load 54 false 1 (.tmp 32), (some (31, true))⟩,
     ⟨some 34, .faddr 4 (.tmp 3), (some (31, true))⟩,
     ⟨some 35, .load 54 false 1 (.tmp 34), (some (31, true))⟩,
     ⟨some 36, .call (.func 86) [(.tmp 33), (.tmp 35)], (some (31, true))⟩,
     ⟨some 37, .pick (.tmp 31) (.tmp 36) (.const (.bool false)), none⟩,
     ⟨some 4, .mv (.tmp 37), none⟩])
  .ret)),
  [.tmp 4], false⟩

/-- jobshell/syntax.copies[jobshell/api.Part] -/
def p134 : PFn := ⟨22,
  (.seq (.reg [⟨some 4, .mv (.const (.slice none 0 0)), none⟩])
  (.seq (.reg [⟨some 5, .mv (.const (.slice none 0 0)), none⟩])
  (.seq (.seq (.reg [⟨some 8, .mv (.tmp 0), none⟩,
      ⟨some 9, .len false (.tmp 8), none⟩,
      ⟨some 10, .mv (.const (.int .i64 0)), none⟩])
   (.block 0
     (.loop
       (.seq (.reg [⟨some 11, .bin .lss 3 (.tmp 10) (.tmp 9), none⟩])
       (.seq (.cond (.tmp 11)
          (.skip)
          (.exit 0))
       (.seq (.block 1
          (.seq (.reg [⟨some 12, .iaddr 5 (.tmp 8) (.tmp 10), none⟩,
             ⟨some 13, .load 63 true 5 (.tmp 12), none⟩,
             ⟨some 7, .alloc 63 (.agg #[(.int .i64 0), (.string ⟨#[]⟩), (.int .i64 0), (.bool false), (.slice none 0 0)]), none⟩,
             ⟨none, .store 63 5 (.tmp 7) (.tmp 13), none⟩])
          (.reg [⟨some 14, .mv (.tmp 5), none⟩,
            ⟨some 15, .mv (.tmp 1), none⟩,
            ⟨some 16, .load 63 true 5 (.tmp 7), none⟩,
            ⟨some 17, .call (.tmp 15) [(.tmp 16)], none⟩,
            ⟨some 18, .bslice 63 1 [(.int .i64 0), (.string ⟨#[]⟩), (.int .i64 0), (.bool false), (.slice none 0 0)] [(0, 5, (.tmp 17))], none⟩,
            ⟨some 19, .app 63 5 64 (.tmp 14) (.tmp 18), none⟩,
            ⟨some 5, .mv (.tmp 19), none⟩])))
       (.reg [⟨some 20, .bin .add 3 (.tmp 10) (.const (.int .i64 1)), none⟩,
         ⟨some 10, .mv (.tmp 20), none⟩])))))))
  (.seq (.reg [⟨some 21, .mv (.tmp 5), none⟩,
     ⟨some 4, .mv (.tmp 21), none⟩])
  .ret)))),
  [.tmp 4], false⟩

/-- jobshell/syntax.copyPart -/
def p135 : PFn := ⟨8,
  (.seq (.reg [⟨some 1, .box 63 (.tmp 0), none⟩,
     ⟨some 2, .alloc 63 (.agg #[(.int .i64 0), (.string ⟨#[]⟩), (.int .i64 0), (.bool false), (.slice none 0 0)]), none⟩])
  (.seq (.reg [⟨some 3, .faddr 4 (.tmp 1), none⟩,
     ⟨some 4, .load 54 false 1 (.tmp 3), none⟩,
     ⟨some 5, .call (.func 134) [(.tmp 4), (.func 135)], none⟩,
     ⟨some 6, .faddr 4 (.tmp 1), none⟩,
     ⟨none, .store 54 1 (.tmp 6) (.tmp 5), none⟩])
  (.seq (.reg [⟨some 7, .load 63 true 5 (.tmp 1), none⟩,
     ⟨none, .store 63 5 (.tmp 2) (.tmp 7), none⟩])
  .ret))),
  [.cell 2 true 5], false⟩
def Γ : Nat → Option PFn
  | 5 => some p5
  | 6 => some p6
  | 9 => some p9
  | 11 => some p11
  | 20 => some p20
  | 21 => some p21
  | 22 => some p22
  | 23 => some p23
  | 24 => some p24
  | 27 => some p27
  | 28 => some p28
  | 29 => some p29
  | 30 => some p30
  | 31 => some p31
  | 32 => some p32
  | 38 => some p38
  | 39 => some p39
  | 40 => some p40
  | 41 => some p41
  | 44 => some p44
  | 45 => some p45
  | 46 => some p46
  | 47 => some p47
  | 48 => some p48
  | 49 => some p49
  | 50 => some p50
  | 51 => some p51
  | 52 => some p52
  | 53 => some p53
  | 54 => some p54
  | 55 => some p55
  | 56 => some p56
  | 57 => some p57
  | 58 => some p58
  | 59 => some p59
  | 62 => some p62
  | 81 => some p81
  | 86 => some p86
  | 87 => some p87
  | 88 => some p88
  | 89 => some p89
  | 90 => some p90
  | 91 => some p91
  | 92 => some p92
  | 93 => some p93
  | 94 => some p94
  | 95 => some p95
  | 96 => some p96
  | 132 => some p132
  | 133 => some p133
  | 134 => some p134
  | 135 => some p135
  | _ => none
theorem c5 : compF Tryz.prog Tryz.f5 p5.keep = some p5 := by kernel_rfl
theorem c6 : compF Tryz.prog Tryz.f6 p6.keep = some p6 := by kernel_rfl
theorem c9 : compF Tryz.prog Tryz.f9 p9.keep = some p9 := by kernel_rfl
theorem c11 : compF Tryz.prog Tryz.f11 p11.keep = some p11 := by kernel_rfl
theorem c20 : compF Tryz.prog Tryz.f20 p20.keep = some p20 := by kernel_rfl
theorem c21 : compF Tryz.prog Tryz.f21 p21.keep = some p21 := by kernel_rfl
theorem c22 : compF Tryz.prog Tryz.f22 p22.keep = some p22 := by kernel_rfl
theorem c23 : compF Tryz.prog Tryz.f23 p23.keep = some p23 := by kernel_rfl
theorem c24 : compF Tryz.prog Tryz.f24 p24.keep = some p24 := by kernel_rfl
theorem c27 : compF Tryz.prog Tryz.f27 p27.keep = some p27 := by kernel_rfl
theorem c28 : compF Tryz.prog Tryz.f28 p28.keep = some p28 := by kernel_rfl
theorem c29 : compF Tryz.prog Tryz.f29 p29.keep = some p29 := by kernel_rfl
theorem c30 : compF Tryz.prog Tryz.f30 p30.keep = some p30 := by kernel_rfl
theorem c31 : compF Tryz.prog Tryz.f31 p31.keep = some p31 := by kernel_rfl
theorem c32 : compF Tryz.prog Tryz.f32 p32.keep = some p32 := by kernel_rfl
theorem c38 : compF Tryz.prog Tryz.f38 p38.keep = some p38 := by kernel_rfl
theorem c39 : compF Tryz.prog Tryz.f39 p39.keep = some p39 := by kernel_rfl
theorem c40 : compF Tryz.prog Tryz.f40 p40.keep = some p40 := by kernel_rfl
theorem c41 : compF Tryz.prog Tryz.f41 p41.keep = some p41 := by kernel_rfl
theorem c44 : compF Tryz.prog Tryz.f44 p44.keep = some p44 := by kernel_rfl
theorem c45 : compF Tryz.prog Tryz.f45 p45.keep = some p45 := by kernel_rfl
theorem c46 : compF Tryz.prog Tryz.f46 p46.keep = some p46 := by kernel_rfl
theorem c47 : compF Tryz.prog Tryz.f47 p47.keep = some p47 := by kernel_rfl
theorem c48 : compF Tryz.prog Tryz.f48 p48.keep = some p48 := by kernel_rfl
theorem c49 : compF Tryz.prog Tryz.f49 p49.keep = some p49 := by kernel_rfl
theorem c50 : compF Tryz.prog Tryz.f50 p50.keep = some p50 := by kernel_rfl
theorem c51 : compF Tryz.prog Tryz.f51 p51.keep = some p51 := by kernel_rfl
theorem c52 : compF Tryz.prog Tryz.f52 p52.keep = some p52 := by kernel_rfl
theorem c53 : compF Tryz.prog Tryz.f53 p53.keep = some p53 := by kernel_rfl
theorem c54 : compF Tryz.prog Tryz.f54 p54.keep = some p54 := by kernel_rfl
theorem c55 : compF Tryz.prog Tryz.f55 p55.keep = some p55 := by kernel_rfl
theorem c56 : compF Tryz.prog Tryz.f56 p56.keep = some p56 := by kernel_rfl
theorem c57 : compF Tryz.prog Tryz.f57 p57.keep = some p57 := by kernel_rfl
theorem c58 : compF Tryz.prog Tryz.f58 p58.keep = some p58 := by kernel_rfl
theorem c59 : compF Tryz.prog Tryz.f59 p59.keep = some p59 := by kernel_rfl
theorem c62 : compF Tryz.prog Tryz.f62 p62.keep = some p62 := by kernel_rfl
theorem c81 : compF Tryz.prog Tryz.f81 p81.keep = some p81 := by kernel_rfl
theorem c86 : compF Tryz.prog Tryz.f86 p86.keep = some p86 := by kernel_rfl
theorem c87 : compF Tryz.prog Tryz.f87 p87.keep = some p87 := by kernel_rfl
theorem c88 : compF Tryz.prog Tryz.f88 p88.keep = some p88 := by kernel_rfl
theorem c89 : compF Tryz.prog Tryz.f89 p89.keep = some p89 := by kernel_rfl
theorem c90 : compF Tryz.prog Tryz.f90 p90.keep = some p90 := by kernel_rfl
theorem c91 : compF Tryz.prog Tryz.f91 p91.keep = some p91 := by kernel_rfl
theorem c92 : compF Tryz.prog Tryz.f92 p92.keep = some p92 := by kernel_rfl
theorem c93 : compF Tryz.prog Tryz.f93 p93.keep = some p93 := by kernel_rfl
theorem c94 : compF Tryz.prog Tryz.f94 p94.keep = some p94 := by kernel_rfl
theorem c95 : compF Tryz.prog Tryz.f95 p95.keep = some p95 := by kernel_rfl
theorem c96 : compF Tryz.prog Tryz.f96 p96.keep = some p96 := by kernel_rfl
theorem c132 : compF Tryz.prog Tryz.f132 p132.keep = some p132 := by kernel_rfl
theorem c133 : compF Tryz.prog Tryz.f133 p133.keep = some p133 := by kernel_rfl
theorem c134 : compF Tryz.prog Tryz.f134 p134.keep = some p134 := by kernel_rfl
theorem c135 : compF Tryz.prog Tryz.f135 p135.keep = some p135 := by kernel_rfl
theorem tab_ok : TabOK Tryz.prog Γ := by
  intro g pf h
  unfold Γ at h
  split at h
  all_goals first | cases h; done | injection h with h; subst h
  · exact ⟨_, _, Tryz.func5, c5⟩
  · exact ⟨_, _, Tryz.func6, c6⟩
  · exact ⟨_, _, Tryz.func9, c9⟩
  · exact ⟨_, _, Tryz.func11, c11⟩
  · exact ⟨_, _, Tryz.func20, c20⟩
  · exact ⟨_, _, Tryz.func21, c21⟩
  · exact ⟨_, _, Tryz.func22, c22⟩
  · exact ⟨_, _, Tryz.func23, c23⟩
  · exact ⟨_, _, Tryz.func24, c24⟩
  · exact ⟨_, _, Tryz.func27, c27⟩
  · exact ⟨_, _, Tryz.func28, c28⟩
  · exact ⟨_, _, Tryz.func29, c29⟩
  · exact ⟨_, _, Tryz.func30, c30⟩
  · exact ⟨_, _, Tryz.func31, c31⟩
  · exact ⟨_, _, Tryz.func32, c32⟩
  · exact ⟨_, _, Tryz.func38, c38⟩
  · exact ⟨_, _, Tryz.func39, c39⟩
  · exact ⟨_, _, Tryz.func40, c40⟩
  · exact ⟨_, _, Tryz.func41, c41⟩
  · exact ⟨_, _, Tryz.func44, c44⟩
  · exact ⟨_, _, Tryz.func45, c45⟩
  · exact ⟨_, _, Tryz.func46, c46⟩
  · exact ⟨_, _, Tryz.func47, c47⟩
  · exact ⟨_, _, Tryz.func48, c48⟩
  · exact ⟨_, _, Tryz.func49, c49⟩
  · exact ⟨_, _, Tryz.func50, c50⟩
  · exact ⟨_, _, Tryz.func51, c51⟩
  · exact ⟨_, _, Tryz.func52, c52⟩
  · exact ⟨_, _, Tryz.func53, c53⟩
  · exact ⟨_, _, Tryz.func54, c54⟩
  · exact ⟨_, _, Tryz.func55, c55⟩
  · exact ⟨_, _, Tryz.func56, c56⟩
  · exact ⟨_, _, Tryz.func57, c57⟩
  · exact ⟨_, _, Tryz.func58, c58⟩
  · exact ⟨_, _, Tryz.func59, c59⟩
  · exact ⟨_, _, Tryz.func62, c62⟩
  · exact ⟨_, _, Tryz.func81, c81⟩
  · exact ⟨_, _, Tryz.func86, c86⟩
  · exact ⟨_, _, Tryz.func87, c87⟩
  · exact ⟨_, _, Tryz.func88, c88⟩
  · exact ⟨_, _, Tryz.func89, c89⟩
  · exact ⟨_, _, Tryz.func90, c90⟩
  · exact ⟨_, _, Tryz.func91, c91⟩
  · exact ⟨_, _, Tryz.func92, c92⟩
  · exact ⟨_, _, Tryz.func93, c93⟩
  · exact ⟨_, _, Tryz.func94, c94⟩
  · exact ⟨_, _, Tryz.func95, c95⟩
  · exact ⟨_, _, Tryz.func96, c96⟩
  · exact ⟨_, _, Tryz.func132, c132⟩
  · exact ⟨_, _, Tryz.func133, c133⟩
  · exact ⟨_, _, Tryz.func134, c134⟩
  · exact ⟨_, _, Tryz.func135, c135⟩
end Go.Proofs.YtdkcfccepjimbaaGreatDoor
