/- What functions of the program and of the reference compute, on values. No statement is proved here. -/
import Derived.Test.YtflfflfodghgpaaGreatDoorPeB
set_option linter.unusedSimpArgs false
set_option linter.unusedVariables false
namespace Go.Proofs.YtflfflfodghgpaaGreatDoor
open Go Go.EvL Go.PE
/-- jobshell/jobshellref11.Weight -/
def p15 : PFn := ⟨82,
  (.seq (.reg [⟨some 1, .box 28 (.tmp 0), none⟩,
     ⟨some 2, .mv (.const (.int .i64 0)), none⟩])
  (.seq (.reg [⟨some 11, .faddr 2 (.tmp 1), none⟩,
     ⟨some 12, .load 9 false 1 (.tmp 11), none⟩,
     ⟨some 13, .len true (.tmp 12), none⟩,
     ⟨some 14, .bin .add 3 (.const (.int .i64 1)) (.tmp 13), none⟩,
     ⟨some 15, .faddr 4 (.tmp 1), none⟩,
     ⟨some 16, .load 22 false 1 (.tmp 15), none⟩,
     ⟨some 17, .len false (.tmp 16), none⟩,
     ⟨some 18, .bin .add 3 (.tmp 14) (.tmp 17), none⟩,
     ⟨some 19, .faddr 6 (.tmp 1), none⟩,
     ⟨some 20, .load 24 false 1 (.tmp 19), none⟩,
     ⟨some 21, .len false (.tmp 20), none⟩,
     ⟨some 22, .bin .add 3 (.tmp 18) (.tmp 21), none⟩,
     ⟨some 23, .faddr 8 (.tmp 1), none⟩,
     ⟨some 24, .load 26 false 1 (.tmp 23), none⟩,
     ⟨some 25, .len false (.tmp 24), none⟩,
     ⟨some 26, .bin .add 3 (.tmp 22) (.tmp 25), none⟩,
     ⟨some 3, .mv (.tmp 26), none⟩])
  (.seq (.seq (.reg [⟨some 4, .mv (.const (.int .i64 0)), none⟩])
   (.block 0
     (.loop
       (.seq (.seq (.reg [⟨some 27, .mv (.tmp 4), none⟩,
           ⟨some 28, .faddr 4 (.tmp 1), none⟩,
           ⟨some 29, .load 22 false 1 (.tmp 28), none⟩,
           ⟨some 30, .len false (.tmp 29), none⟩,
           ⟨some 31, .bin .lss 3 (.tmp 27) (.tmp 30), none⟩])
        (.cond (.tmp 31)
          (.skip)
          (.exit 0)))
       (.seq (.block 1
          (.reg [⟨some 34, .mv (.tmp 3), none⟩,
            ⟨some 35, .faddr 4 (.tmp 1), none⟩,
            ⟨some 36, .load 22 false 1 (.tmp 35), none⟩,
            ⟨some 37, .mv (.tmp 4), none⟩,
            ⟨some 38, .iaddr 4 (.tmp 36) (.tmp 37), none⟩,
            ⟨some 39, .faddr 1 (.tmp 38), none⟩,
            ⟨some 40, .load 9 false 1 (.tmp 39), none⟩,
            ⟨some 41, .len true (.tmp 40), none⟩,
            ⟨some 42, .bin .add 3 (.tmp 34) (.tmp 41), none⟩,
            ⟨some 3, .mv (.tmp 42), none⟩]))
       (.reg [⟨some 32, .mv (.tmp 4), none⟩,
         ⟨some 33, .bin .add 3 (.tmp 32) (.const (.int .i64 1)), none⟩,
         ⟨some 4, .mv (.tmp 33), none⟩]))))))
  (.seq (.reg [⟨some 43, .load 28 true 9 (.tmp 1), none⟩,
     ⟨some 44, .call (.func 57) [(.tmp 43)], none⟩,
     ⟨some 5, .mv (.tmp 44), none⟩])
  (.seq (.seq (.reg [⟨some 6, .mv (.const (.int .i64 0)), none⟩])
   (.block 2
     (.loop
       (.seq (.seq (.reg [⟨some 45, .mv (.tmp 6), none⟩,
           ⟨some 46, .mv (.tmp 5), none⟩,
           ⟨some 47, .len false (.tmp 46), none⟩,
           ⟨some 48, .bin .lss 3 (.tmp 45) (.tmp 47), none⟩])
        (.cond (.tmp 48)
          (.skip)
          (.exit 2)))
       (.seq (.block 3
          (.seq (.reg [⟨some 52, .mv (.tmp 5), none⟩,
             ⟨some 53, .mv (.tmp 6), none⟩,
             ⟨some 54, .iaddr 2 (.tmp 52) (.tmp 53), none⟩,
             ⟨some 55, .faddr 1 (.tmp 54), none⟩,
             ⟨some 56, .load 80 false 1 (.tmp 55), none⟩,
             ⟨some 57, .call (.func 58) [(.tmp 56)], none⟩,
             ⟨some 51, .mv (.tmp 57), none⟩,
             ⟨some 58, .ext (.tmp 51) 0, none⟩,
             ⟨some 59, .ext (.tmp 51) 1, none⟩,
             ⟨some 7, .mv (.tmp 58), none⟩,
             ⟨some 8, .mv (.tmp 59), none⟩])
          (.reg [⟨some 60, .mv (.tmp 3), none⟩,
            ⟨some 61, .bin .add 3 (.tmp 60) (.const (.int .i64 1)), none⟩,
            ⟨some 62, .mv (.tmp 7), none⟩,
            ⟨some 63, .bin .add 3 (.tmp 61) (.tmp 62), none⟩,
            ⟨some 64, .mv (.tmp 8), none⟩,
            ⟨some 65, .bin .add 3 (.tmp 63) (.tmp 64), none⟩,
            ⟨some 3, .mv (.tmp 65), none⟩])))
       (.reg [⟨some 49, .mv (.tmp 6), none⟩,
         ⟨some 50, .bin .add 3 (.tmp 49) (.const (.int .i64 1)), none⟩,
         ⟨some 6, .mv (.tmp 50), none⟩]))))))
  (.seq (.reg [⟨some 66, .load 28 true 9 (.tmp 1), none⟩,
     ⟨some 67, .call (.func 59) [(.tmp 66)], none⟩,
     ⟨some 9, .mv (.tmp 67), none⟩])
  (.seq (.seq (.reg [⟨some 10, .mv (.const (.int .i64 0)), none⟩])
   (.block 4
     (.loop
       (.seq (.seq (.reg [⟨some 68, .mv (.tmp 10), none⟩,
           ⟨some 69, .mv (.tmp 9), none⟩,
           ⟨some 70, .len false (.tmp 69), none⟩,
           ⟨some 71, .bin .lss 3 (.tmp 68) (.tmp 70), none⟩])
        (.cond (.tmp 71)
          (.skip)
          (.exit 4)))
       (.seq (.block 5
          (.reg [⟨some 74, .mv (.tmp 3), none⟩,
            ⟨some 75, .mv (.tmp 9), none⟩,
            ⟨some 76, .mv (.tmp 10), none⟩,
            ⟨some 77, .iaddr 9 (.tmp 75) (.tmp 76), none⟩,
            ⟨some 78, .load 28 true 9 (.tmp 77), none⟩,
            ⟨some 79, .call (.func 15) [(.tmp 78)], none⟩,
            ⟨some 80, .bin .add 3 (.tmp 74) (.tmp 79), none⟩,
            ⟨some 3, .mv (.tmp 80), none⟩]))
       (.reg [⟨some 72, .mv (.tmp 10), none⟩,
         ⟨some 73, .bin .add 3 (.tmp 72) (.const (.int .i64 1)), none⟩,
         ⟨some 10, .mv (.tmp 73), none⟩]))))))
  (.seq (.reg [⟨some 81, .mv (.tmp 3), none⟩,
     ⟨some 2, .mv (.tmp 81), none⟩])
  .ret)))))))),
  [.tmp 2], false⟩
/-- jobshell/jobshellref11.Same -/
def p56 : PFn := ⟨59,
  (.seq (.reg [⟨some 2, .box 28 (.tmp 0), none⟩,
     ⟨some 3, .box 28 (.tmp 1), none⟩,
     ⟨some 4, .mv (.const (.bool false)), none⟩])
  (.seq (.seq (.reg [⟨some 5, .faddr 0 (.tmp 2), none⟩,
      ⟨some 6, .load 3 false 1 (.tmp 5), none⟩,
      ⟨some 7, .faddr 0 (.tmp 3), none⟩,
      ⟨some 8, .load 3 false 1 (.tmp 7), none⟩,
      ⟨some 9, .bin .neq 3 (.tmp 6) (.tmp 8), none⟩,
      ⟨some 10, .mv (.tmp 9), none⟩,
      ⟨some 11, .faddr 2 (.tmp 2), (some (10, false))⟩,
      ⟨some 12, .load 9 false 1 (.tmp 11), (some (10, false))⟩,
      ⟨some 13, .faddr 2 (.tmp 3), (some (10, false))⟩,
      ⟨some 14, .load 9 false 1 (.tmp 13), (some (10, false))⟩,
      ⟨some 15, .bin .neq 9 (.tmp 12) (.tmp 14), (some (10, false))⟩,
      ⟨some 16, .pick (.tmp 10) (.const (.bool true)) (.tmp 15), none⟩,
      ⟨some 17, .mv (.tmp 16), none⟩,
      ⟨some 18, .faddr 3 (.tmp 2), (some (17, false))⟩,
      ⟨some 19, .load 4 false 1 (.tmp 18), (some (17, false))⟩,
      ⟨some 20, .faddr 3 (.tmp 3), (some (17, false))⟩,
      ⟨some 21, .load 4 false 1 (.tmp 20), (some (17, false))⟩,
      ⟨some 22, .bin .neq 4 (.tmp 19) (.tmp 21), (some (17, false))⟩,
      ⟨some 23, .pick (.tmp 17) (.const (.bool true)) (.tmp 22), none⟩,
      ⟨some 24, .mv (.tmp 23), none⟩,
      ⟨some 25, .faddr 4 (.tmp 2), (some (24, false))⟩,
      ⟨some 26, .load 22 false 1 (.tmp 25), (some (24, false))⟩,
      ⟨some 27, .faddr 4 (.tmp 3), (some (24, false))⟩,
      ⟨some 28, .load 22 false 1 (.tmp 27), (some (24, false))⟩,
      ⟨some 29, .call (.func 115) [(.tmp 26), (.tmp 28)], (some (24, false))⟩,
      ⟨some 30, .un .not (.tmp 29), (some (24, false))⟩,
      ⟨some 31, .pick (.tmp 24) (.const (.bool true)) (.tmp 30), none⟩,
      ⟨some 32, .mv (.tmp 31), none⟩,
      ⟨some 33, .faddr 5 (.tmp 2), (some (32, false))⟩,
      ⟨some 34, .load 23 false 1 (.tmp 33), (some (32, false))⟩,
      ⟨some 35, .faddr 5 (.tmp 3), (some (32, false))⟩,
      ⟨some 36, .load 23 false 1 (.tmp 35), (some (32, false))⟩,
      ⟨some 37, .call (.func 116) [(.tmp 34), (.tmp 36)], (some (32, false))⟩,
      ⟨some 38, .un .not (.tmp 37), (some (32, false))⟩,
      ⟨some 39, .pick (.tmp 32) (.const (.bool true)) (.tmp 38), none⟩])
   (.cond (.tmp 39)
     (.seq (.reg [⟨some 4, .mv (.const (.bool false)), none⟩])
     .ret)
     (.skip)))
  (.seq (.reg [⟨some 40, .faddr 6 (.tmp 2), none⟩,
     ⟨some 41, .load 24 false 1 (.tmp 40), none⟩,
     ⟨some 42, .faddr 6 (.tmp 3), none⟩,
     ⟨some 43, .load 24 false 1 (.tmp 42), none⟩,
     ⟨some 44, .call (.func 117) [(.tmp 41), (.tmp 43)], none⟩,
     ⟨some 45, .mv (.tmp 44), none⟩,
     ⟨some 46, .faddr 7 (.tmp 2), (some (45, true))⟩,
     ⟨some 47, .load 25 false 1 (.tmp 46), (some (45, true))⟩,
     ⟨some 48, .faddr 7 (.tmp 3), (some (45, true))⟩,
     ⟨some 49, .load 25 false 1 (.tmp 48), (some (45, true))⟩,
     ⟨some 50, .call (.func 118) [(.tmp 47), (.tmp 49)], (some (45, true))⟩,
     ⟨some 51, .pick (.tmp 45) (.tmp 50) (.const (.bool false)), none⟩,
     ⟨some 52, .mv (.tmp 51), none⟩,
     ⟨some 53, .faddr 8 (.tmp 2), (some (52, true))⟩,
     ⟨some 54, .load 26 false 1 (.tmp 53), (some (52, true))⟩,
     ⟨some 55, .faddr 8 (.tmp 3), (some (52, true))⟩,
     ⟨some 56, .load 26 false 1 (.tmp 55), (some (52, true))⟩,
     ⟨some 57, .call (.func 119) [(.tmp 54), (.tmp 56)], (some (52, true))⟩,
     ⟨some 58, .pick (.tmp 52) (.tmp 57) (.const (.bool false)), none⟩,
     ⟨some 4, .mv (.tmp 58), none⟩])
  .ret))),
  [.tmp 4], false⟩
/-- jobshell/jobshellref11.Words -/
def p57 : PFn := ⟨59,
  (.seq (.reg [⟨some 1, .box 28 (.tmp 0), none⟩,
     ⟨some 2, .mv (.const (.slice none 0 0)), none⟩])
  (.seq (.reg [⟨some 3, .mv (.const (.slice none 0 0)), none⟩])
  (.seq (.seq (.reg [⟨some 4, .mv (.const (.int .i64 0)), none⟩])
   (.block 0
     (.loop
       (.seq (.seq (.reg [⟨some 7, .mv (.tmp 4), none⟩,
           ⟨some 8, .faddr 4 (.tmp 1), none⟩,
           ⟨some 9, .load 22 false 1 (.tmp 8), none⟩,
           ⟨some 10, .len false (.tmp 9), none⟩,
           ⟨some 11, .bin .lss 3 (.tmp 7) (.tmp 10), none⟩])
        (.cond (.tmp 11)
          (.skip)
          (.exit 0)))
       (.seq (.block 1
          (.reg [⟨some 14, .mv (.tmp 3), none⟩,
            ⟨some 15, .faddr 4 (.tmp 1), none⟩,
            ⟨some 16, .load 22 false 1 (.tmp 15), none⟩,
            ⟨some 17, .mv (.tmp 4), none⟩,
            ⟨some 18, .iaddr 4 (.tmp 16) (.tmp 17), none⟩,
            ⟨some 19, .faddr 2 (.tmp 18), none⟩,
            ⟨some 20, .load 82 true 2 (.tmp 19), none⟩,
            ⟨some 21, .bslice 82 1 [(.int .i64 0), (.slice none 0 0)] [(0, 2, (.tmp 20))], none⟩,
            ⟨some 22, .app 82 2 32 (.tmp 14) (.tmp 21), none⟩,
            ⟨some 3, .mv (.tmp 22), none⟩]))
       (.reg [⟨some 12, .mv (.tmp 4), none⟩,
         ⟨some 13, .bin .add 3 (.tmp 12) (.const (.int .i64 1)), none⟩,
         ⟨some 4, .mv (.tmp 13), none⟩]))))))
  (.seq (.reg [⟨some 23, .mv (.tmp 3), none⟩,
     ⟨some 24, .faddr 5 (.tmp 1), none⟩,
     ⟨some 25, .load 23 false 1 (.tmp 24), none⟩,
     ⟨some 26, .app 82 2 32 (.tmp 23) (.tmp 25), none⟩,
     ⟨some 3, .mv (.tmp 26), none⟩])
  (.seq (.seq (.reg [⟨some 5, .mv (.const (.int .i64 0)), none⟩])
   (.block 2
     (.loop
       (.seq (.seq (.reg [⟨some 27, .mv (.tmp 5), none⟩,
           ⟨some 28, .faddr 6 (.tmp 1), none⟩,
           ⟨some 29, .load 24 false 1 (.tmp 28), none⟩,
           ⟨some 30, .len false (.tmp 29), none⟩,
           ⟨some 31, .bin .lss 3 (.tmp 27) (.tmp 30), none⟩])
        (.cond (.tmp 31)
          (.skip)
          (.exit 2)))
       (.seq (.block 3
          (.reg [⟨some 34, .mv (.tmp 3), none⟩,
            ⟨some 35, .faddr 6 (.tmp 1), none⟩,
            ⟨some 36, .load 24 false 1 (.tmp 35), none⟩,
            ⟨some 37, .mv (.tmp 5), none⟩,
            ⟨some 38, .iaddr 5 (.tmp 36) (.tmp 37), none⟩,
            ⟨some 39, .faddr 3 (.tmp 38), none⟩,
            ⟨some 40, .load 82 true 2 (.tmp 39), none⟩,
            ⟨some 41, .bslice 82 1 [(.int .i64 0), (.slice none 0 0)] [(0, 2, (.tmp 40))], none⟩,
            ⟨some 42, .app 82 2 32 (.tmp 34) (.tmp 41), none⟩,
            ⟨some 3, .mv (.tmp 42), none⟩]))
       (.reg [⟨some 32, .mv (.tmp 5), none⟩,
         ⟨some 33, .bin .add 3 (.tmp 32) (.const (.int .i64 1)), none⟩,
         ⟨some 5, .mv (.tmp 33), none⟩]))))))
  (.seq (.seq (.reg [⟨some 6, .mv (.const (.int .i64 0)), none⟩])
   (.block 4
     (.loop
       (.seq (.seq (.reg [⟨some 43, .mv (.tmp 6), none⟩,
           ⟨some 44, .faddr 8 (.tmp 1), none⟩,
           ⟨some 45, .load 26 false 1 (.tmp 44), none⟩,
           ⟨some 46, .len false (.tmp 45), none⟩,
           ⟨some 47, .bin .lss 3 (.tmp 43) (.tmp 46), none⟩])
        (.cond (.tmp 47)
          (.skip)
          (.exit 4)))
       (.seq (.block 5
          (.reg [⟨some 50, .mv (.tmp 3), none⟩,
            ⟨some 51, .faddr 8 (.tmp 1), none⟩,
            ⟨some 52, .load 26 false 1 (.tmp 51), none⟩,
            ⟨some 53, .mv (.tmp 6), none⟩,
            ⟨some 54, .iaddr 2 (.tmp 52) (.tmp 53), none⟩,
            ⟨some 55, .faddr 0 (.tmp 54), none⟩,
            ⟨some 56, .load 23 false 1 (.tmp 55), none⟩,
            ⟨some 57, .app 82 2 32 (.tmp 50) (.tmp 56), none⟩,
            ⟨some 3, .mv (.tmp 57), none⟩]))
       (.reg [⟨some 48, .mv (.tmp 6), none⟩,
         ⟨some 49, .bin .add 3 (.tmp 48) (.const (.int .i64 1)), none⟩,
         ⟨some 6, .mv (.tmp 49), none⟩]))))))
  (.seq (.reg [⟨some 58, .mv (.tmp 3), none⟩,
     ⟨some 2, .mv (.tmp 58), none⟩])
  .ret))))))),
  [.tmp 2], false⟩
/-- jobshell/jobshellref08.Count -/
def p58 : PFn := ⟨41,
  (.seq (.reg [⟨some 2, .mv (.const (.int .i64 0)), none⟩,
     ⟨some 3, .mv (.const (.int .i64 0)), none⟩])
  (.seq (.reg [⟨some 9, .mv (.tmp 0), none⟩,
     ⟨some 10, .len false (.tmp 9), none⟩,
     ⟨some 4, .mv (.tmp 10), none⟩,
     ⟨some 5, .mv (.const (.int .i64 0)), none⟩])
  (.seq (.seq (.reg [⟨some 6, .mv (.const (.int .i64 0)), none⟩])
   (.block 0
     (.loop
       (.seq (.seq (.reg [⟨some 11, .mv (.tmp 6), none⟩,
           ⟨some 12, .mv (.tmp 0), none⟩,
           ⟨some 13, .len false (.tmp 12), none⟩,
           ⟨some 14, .bin .lss 3 (.tmp 11) (.tmp 13), none⟩])
        (.cond (.tmp 14)
          (.skip)
          (.exit 0)))
       (.seq (.block 1
          (.seq (.reg [⟨some 18, .mv (.tmp 0), none⟩,
             ⟨some 19, .mv (.tmp 6), none⟩,
             ⟨some 20, .iaddr 5 (.tmp 18) (.tmp 19), none⟩,
             ⟨some 21, .faddr 4 (.tmp 20), none⟩,
             ⟨some 22, .load 80 false 1 (.tmp 21), none⟩,
             ⟨some 23, .call (.func 58) [(.tmp 22)], none⟩,
             ⟨some 17, .mv (.tmp 23), none⟩,
             ⟨some 24, .ext (.tmp 17) 0, none⟩,
             ⟨some 25, .ext (.tmp 17) 1, none⟩,
             ⟨some 7, .mv (.tmp 24), none⟩,
             ⟨some 8, .mv (.tmp 25), none⟩])
          (.seq (.reg [⟨some 26, .mv (.tmp 4), none⟩,
             ⟨some 27, .mv (.tmp 7), none⟩,
             ⟨some 28, .bin .add 3 (.tmp 26) (.tmp 27), none⟩,
             ⟨some 4, .mv (.tmp 28), none⟩])
          (.reg [⟨some 29, .mv (.tmp 5), none⟩,
            ⟨some 30, .mv (.tmp 8), none⟩,
            ⟨some 31, .bin .add 3 (.tmp 29) (.tmp 30), none⟩,
            ⟨some 32, .mv (.tmp 0), none⟩,
            ⟨some 33, .mv (.tmp 6), none⟩,
            ⟨some 34, .iaddr 5 (.tmp 32) (.tmp 33), none⟩,
            ⟨some 35, .faddr 1 (.tmp 34), none⟩,
            ⟨some 36, .load 9 false 1 (.tmp 35), none⟩,
            ⟨some 37, .len true (.tmp 36), none⟩,
            ⟨some 38, .bin .add 3 (.tmp 31) (.tmp 37), none⟩,
            ⟨some 5, .mv (.tmp 38), none⟩]))))
       (.reg [⟨some 15, .mv (.tmp 6), none⟩,
         ⟨some 16, .bin .add 3 (.tmp 15) (.const (.int .i64 1)), none⟩,
         ⟨some 6, .mv (.tmp 16), none⟩]))))))
  (.seq (.reg [⟨some 39, .mv (.tmp 4), none⟩,
     ⟨some 40, .mv (.tmp 5), none⟩,
     ⟨some 2, .mv (.tmp 39), none⟩,
     ⟨some 3, .mv (.tmp 40), none⟩])
  .ret)))),
  [.tmp 2, .tmp 3], false⟩
/-- jobshell/jobshellref11.Kids -/
def p59 : PFn := ⟨25,
  (.seq (.reg [⟨some 1, .box 28 (.tmp 0), none⟩,
     ⟨some 2, .mv (.const (.slice none 0 0)), none⟩])
  (.seq (.reg [⟨some 3, .mv (.const (.slice none 0 0)), none⟩])
  (.seq (.reg [⟨some 5, .mv (.tmp 3), none⟩,
     ⟨some 6, .faddr 7 (.tmp 1), none⟩,
     ⟨some 7, .load 25 false 1 (.tmp 6), none⟩,
     ⟨some 8, .app 28 9 160 (.tmp 5) (.tmp 7), none⟩,
     ⟨some 3, .mv (.tmp 8), none⟩])
  (.seq (.seq (.reg [⟨some 4, .mv (.const (.int .i64 0)), none⟩])
   (.block 0
     (.loop
       (.seq (.seq (.reg [⟨some 9, .mv (.tmp 4), none⟩,
           ⟨some 10, .faddr 8 (.tmp 1), none⟩,
           ⟨some 11, .load 26 false 1 (.tmp 10), none⟩,
           ⟨some 12, .len false (.tmp 11), none⟩,
           ⟨some 13, .bin .lss 3 (.tmp 9) (.tmp 12), none⟩])
        (.cond (.tmp 13)
          (.skip)
          (.exit 0)))
       (.seq (.block 1
          (.reg [⟨some 16, .mv (.tmp 3), none⟩,
            ⟨some 17, .faddr 8 (.tmp 1), none⟩,
            ⟨some 18, .load 26 false 1 (.tmp 17), none⟩,
            ⟨some 19, .mv (.tmp 4), none⟩,
            ⟨some 20, .iaddr 2 (.tmp 18) (.tmp 19), none⟩,
            ⟨some 21, .faddr 1 (.tmp 20), none⟩,
            ⟨some 22, .load 25 false 1 (.tmp 21), none⟩,
            ⟨some 23, .app 28 9 160 (.tmp 16) (.tmp 22), none⟩,
            ⟨some 3, .mv (.tmp 23), none⟩]))
       (.reg [⟨some 14, .mv (.tmp 4), none⟩,
         ⟨some 15, .bin .add 3 (.tmp 14) (.const (.int .i64 1)), none⟩,
         ⟨some 4, .mv (.tmp 15), none⟩]))))))
  (.seq (.reg [⟨some 24, .mv (.tmp 3), none⟩,
     ⟨some 2, .mv (.tmp 24), none⟩])
  .ret))))),
  [.tmp 2], false⟩
/-- jobshell/syntax.Same -/
def p60 : PFn := ⟨59,
  (.seq (.reg [⟨some 2, .box 28 (.tmp 0), none⟩,
     ⟨some 3, .box 28 (.tmp 1), none⟩,
     ⟨some 4, .mv (.const (.bool false)), none⟩])
  (.seq (.reg [⟨some 5, .faddr 0 (.tmp 2), none⟩,
     ⟨some 6, .load 3 false 1 (.tmp 5), none⟩,
     ⟨some 7, .faddr 0 (.tmp 3), none⟩,
     ⟨some 8, .load 3 false 1 (.tmp 7), none⟩,
     ⟨some 9, .bin .eql 3 (.tmp 6) (.tmp 8), none⟩,
     ⟨some 10, .mv (.tmp 9), none⟩,
     ⟨some 11, .faddr 2 (.tmp 2), (some (10, true))⟩,
     ⟨some 12, .load 9 false 1 (.tmp 11), (some (10, true))⟩,
     ⟨some 13, .faddr 2 (.tmp 3), (some (10, true))⟩,
     ⟨some 14, .load 9 false 1 (.tmp 13), (some (10, true))⟩,
     ⟨some 15, .bin .eql 9 (.tmp 12) (.tmp 14), (some (10, true))⟩,
     ⟨some 16, .pick (.tmp 10) (.tmp 15) (.const (.bool false)), none⟩,
     ⟨some 17, .mv (.tmp 16), none⟩,
     ⟨some 18, .faddr 3 (.tmp 2), (some (17, true))⟩,
     ⟨some 19, .load 4 false 1 (.tmp 18), (some (17, true))⟩,
     ⟨some 20, .faddr 3 (.tmp 3), (some (17, true))⟩,
     ⟨some 21, .load 4 false 1 (.tmp 20), (some (17, true))⟩,
     ⟨some 22, .bin .eql 4 (.tmp 19) (.tmp 21), (some (17, true))⟩,
     ⟨some 23, .pick (.tmp 17) (.tmp 22) (.const (.bool false)), none⟩,
     ⟨some 24, .mv (.tmp 23), none⟩,
     ⟨some 25, .faddr 4 (.tmp 2), (some (24, true))⟩,
     ⟨some 26, .load 22 false 1 (.tmp 25), (some (24, true))⟩,
     ⟨some 27, .faddr 4 (.tmp 3), (some (24, true))⟩,
     ⟨some 28, .load 22 false 1 (.tmp 27), (some (24, true))⟩,
     ⟨some 29, .call (.func 120) [(.tmp 26), (.tmp 28), (.func 121)], (some (24, true))⟩,
     ⟨some 30, .pick (.tmp 24) (.tmp 29) (.const (.bool false)), none⟩,
     ⟨some 31, .mv (.tmp 30), none⟩,
     ⟨some 32, .faddr 5 (.tmp 2), (some (31, true))⟩,
     ⟨some 33, .load 23 false 1 (.tmp 32), (some (31, true))⟩,
     ⟨some 34, .faddr 5 (.tmp 3), (some (31, true))⟩,
     ⟨some 35, .load 23 false 1 (.tmp 34), (some (31, true))⟩,
     ⟨some 36, .call (.func 123) [(.tmp 33), (.tmp 35), (.func 122)], (some (31, true))⟩,
     ⟨some 37, .pick (.tmp 31) (.tmp 36) (.const (.bool false)), none⟩,
     ⟨some 38, .mv (.tmp 37), none⟩,
     ⟨some 39, .faddr 6 (.tmp 2), (some (38, true))⟩,
     ⟨some 40, .load 24 false 1 (.tmp 39), (some (38, true))⟩,
     ⟨some 41, .faddr 6 (.tmp 3), (some (38, true))⟩,
     ⟨some 42, .load 24 false 1 (.tmp 41), (some (38, true))⟩,
     ⟨some 43, .call (.func 124) [(.tmp 40), (.tmp 42), (.func 125)], (some (38, true))⟩,
     ⟨some 44, .pick (.tmp 38) (.tmp 43) (.const (.bool false)), none⟩,
     ⟨some 45, .mv (.tmp 44), none⟩,
     ⟨some 46, .faddr 7 (.tmp 2), (some (45, true))⟩,
     ⟨some 47, .load 25 false 1 (.tmp 46), (some (45, true))⟩,
     ⟨some 48, .faddr 7 (.tmp 3), (some (45, true))⟩,
     ⟨some 49, .load 25 false 1 (.tmp 48), (some (45, true))⟩,
     ⟨some 50, .call (.func 126) [(.tmp 47), (.tmp 49), (.func 60)], (some (45, true))⟩,
     ⟨some 51, .pick (.tmp 45) (.tmp 50) (.const (.bool false)), none⟩,
     ⟨some 52, .mv (.tmp 51), none⟩,
     ⟨some 53, .faddr 8 (.tmp 2), (some (52, true))⟩,
     ⟨some 54, .load 26 false 1 (.tmp 53), (some (52, true))⟩,
     ⟨some 55, .faddr 8 (.tmp 3), (some (52, true))⟩,
     ⟨some 56, .load 26 false 1 (.tmp 55), (some (52, true))⟩,
     ⟨some 57, .call (.func 127) [(.tmp 54), (.tmp 56), (.func 128)], (some (52, true))⟩,
     ⟨some 58, .pick (.tmp 52) (.tmp 57) (.const (.bool false)), none⟩,
     ⟨some 4, .mv (.tmp 58), none⟩])
  .ret)),
  [.tmp 4], false⟩
/-- jobshell/jobshellref11.sameAssigns -/
def p115 : PFn := ⟨44,
  (.seq (.reg [⟨some 4, .mv (.const (.bool false)), none⟩])
  (.seq (.seq (.reg [⟨some 6, .mv (.tmp 0), none⟩,
      ⟨some 7, .len false (.tmp 6), none⟩,
      ⟨some 8, .mv (.tmp 1), none⟩,
      ⟨some 9, .len false (.tmp 8), none⟩,
      ⟨some 10, .bin .neq 3 (.tmp 7) (.tmp 9), none⟩])
   (.cond (.tmp 10)
     (.seq (.reg [⟨some 4, .mv (.const (.bool false)), none⟩])
     .ret)
     (.skip)))
  (.seq (.seq (.reg [⟨some 5, .mv (.const (.int .i64 0)), none⟩])
   (.block 0
     (.loop
       (.seq (.seq (.reg [⟨some 11, .mv (.tmp 5), none⟩,
           ⟨some 12, .mv (.tmp 0), none⟩,
           ⟨some 13, .len false (.tmp 12), none⟩,
           ⟨some 14, .bin .lss 3 (.tmp 11) (.tmp 13), none⟩])
        (.cond (.tmp 14)
          (.skip)
          (.exit 0)))
       (.seq (.block 1
          (.seq (.draw [(⟨some 17, .mv (.tmp 0), none⟩, [0], []),
             (⟨some 18, .mv (.tmp 5), none⟩, [5], [0]),
             (⟨some 19, .iaddr 4 (.tmp 17) (.tmp 18), none⟩, [17, 18], []),
             (⟨some 20, .faddr 1 (.tmp 19), none⟩, [19], []),
             (⟨some 21, .load 9 false 1 (.tmp 20), none⟩, [20], []),
             (⟨some 22, .mv (.tmp 1), none⟩, [1], [4, 3, 2, 1, 0]),
             (⟨some 23, .mv (.tmp 5), none⟩, [5], [5, 4, 3, 2, 1, 0]),
             (⟨some 24, .iaddr 4 (.tmp 22) (.tmp 23), none⟩, [22, 23], [4, 3, 2, 1, 0]),
             (⟨some 25, .faddr 1 (.tmp 24), none⟩, [24], [4, 3, 2, 1, 0]),
             (⟨some 26, .load 9 false 1 (.tmp 25), none⟩, [25], [4, 3, 2, 1, 0]),
             (⟨some 27, .bin .neq 9 (.tmp 21) (.tmp 26), none⟩, [21, 26], []),
             (⟨some 28, .mv (.tmp 27), none⟩, [27], []),
             (⟨some 29, .mv (.tmp 0), (some (28, false))⟩, [0, 28], []),
             (⟨some 30, .mv (.tmp 5), (some (28, false))⟩, [5, 28], [12]),
             (⟨some 31, .iaddr 4 (.tmp 29) (.tmp 30), (some (28, false))⟩, [29, 30, 28], []),
             (⟨some 32, .faddr 2 (.tmp 31), (some (28, false))⟩, [31, 28], []),
             (⟨some 33, .faddr 1 (.tmp 32), (some (28, false))⟩, [32, 28], []),
             (⟨some 34, .load 80 false 1 (.tmp 33), (some (28, false))⟩, [33, 28], []),
             (⟨some 35, .mv (.tmp 1), (some (28, false))⟩, [1, 28], [17, 16, 15, 14, 13, 12]),
             (⟨some 36, .mv (.tmp 5), (some (28, false))⟩, [5, 28], [18, 17, 16, 15, 14, 13, 12]),
             (⟨some 37, .iaddr 4 (.tmp 35) (.tmp 36), (some (28, false))⟩, [35, 36, 28], [17, 16, 15, 14, 13, 12]),
             (⟨some 38, .faddr 2 (.tmp 37), (some (28, false))⟩, [37, 28], [17, 16, 15, 14, 13, 12]),
             (⟨some 39, .faddr 1 (.tmp 38), (some (28, false))⟩, [38, 28], [17, 16, 15, 14, 13, 12]),
             (⟨some 40, .load 80 false 1 (.tmp 39), (some (28, false))⟩, [39, 28], [17, 16, 15, 14, 13, 12]),
             (⟨some 41, .call (.func 185) [(.tmp 34), (.tmp 40)], (some (28, false))⟩, [34, 40, 28], []),
             (⟨some 42, .un .not (.tmp 41), (some (28, false))⟩, [41, 28], []),
             (⟨some 43, .pick (.tmp 28) (.const (.bool true)) (.tmp 42), none⟩, [28, 42], [])])
          (.cond (.tmp 43)
            (.seq (.reg [⟨some 4, .mv (.const (.bool false)), none⟩])
            .ret)
            (.skip))))
       (.reg [⟨some 15, .mv (.tmp 5), none⟩,
         ⟨some 16, .bin .add 3 (.tmp 15) (.const (.int .i64 1)), none⟩,
         ⟨some 5, .mv (.tmp 16), none⟩]))))))
  (.seq (.reg [⟨some 4, .mv (.const (.bool true)), none⟩])
  .ret)))),
  [.tmp 4], false⟩
/-- jobshell/jobshellref11.sameWords -/
def p116 : PFn := ⟨29,
  (.seq (.reg [⟨some 4, .mv (.const (.bool false)), none⟩])
  (.seq (.seq (.reg [⟨some 6, .mv (.tmp 0), none⟩,
      ⟨some 7, .len false (.tmp 6), none⟩,
      ⟨some 8, .mv (.tmp 1), none⟩,
      ⟨some 9, .len false (.tmp 8), none⟩,
      ⟨some 10, .bin .neq 3 (.tmp 7) (.tmp 9), none⟩])
   (.cond (.tmp 10)
     (.seq (.reg [⟨some 4, .mv (.const (.bool false)), none⟩])
     .ret)
     (.skip)))
  (.seq (.seq (.reg [⟨some 5, .mv (.const (.int .i64 0)), none⟩])
   (.block 0
     (.loop
       (.seq (.seq (.reg [⟨some 11, .mv (.tmp 5), none⟩,
           ⟨some 12, .mv (.tmp 0), none⟩,
           ⟨some 13, .len false (.tmp 12), none⟩,
           ⟨some 14, .bin .lss 3 (.tmp 11) (.tmp 13), none⟩])
        (.cond (.tmp 14)
          (.skip)
          (.exit 0)))
       (.seq (.block 1
          (.seq (.draw [(⟨some 17, .mv (.tmp 0), none⟩, [0], []),
             (⟨some 18, .mv (.tmp 5), none⟩, [5], [0]),
             (⟨some 19, .iaddr 2 (.tmp 17) (.tmp 18), none⟩, [17, 18], []),
             (⟨some 20, .faddr 1 (.tmp 19), none⟩, [19], []),
             (⟨some 21, .load 80 false 1 (.tmp 20), none⟩, [20], []),
             (⟨some 22, .mv (.tmp 1), none⟩, [1], [4, 3, 2, 1, 0]),
             (⟨some 23, .mv (.tmp 5), none⟩, [5], [5, 4, 3, 2, 1, 0]),
             (⟨some 24, .iaddr 2 (.tmp 22) (.tmp 23), none⟩, [22, 23], [4, 3, 2, 1, 0]),
             (⟨some 25, .faddr 1 (.tmp 24), none⟩, [24], [4, 3, 2, 1, 0]),
             (⟨some 26, .load 80 false 1 (.tmp 25), none⟩, [25], [4, 3, 2, 1, 0]),
             (⟨some 27, .call (.func 185) [(.tmp 21), (.tmp 26)], none⟩, [21, 26], []),
             (⟨some 28, .un .not (.tmp 27), none⟩, [27], [])])
          (.cond (.tmp 28)
            (.seq (.reg [⟨some 4, .mv (.const (.bool false)), none⟩])
            .ret)
            (.skip))))
       (.reg [⟨some 15, .mv (.tmp 5), none⟩,
         ⟨some 16, .bin .add 3 (.tmp 15) (.const (.int .i64 1)), none⟩,
         ⟨some 5, .mv (.tmp 16), none⟩]))))))
  (.seq (.reg [⟨some 4, .mv (.const (.bool true)), none⟩])
  .ret)))),
  [.tmp 4], false⟩
/-- jobshell/jobshellref11.SameRedirs -/
def p117 : PFn := ⟨57,
  (.seq (.reg [⟨some 4, .mv (.const (.bool false)), none⟩])
  (.seq (.seq (.reg [⟨some 6, .mv (.tmp 0), none⟩,
      ⟨some 7, .len false (.tmp 6), none⟩,
      ⟨some 8, .mv (.tmp 1), none⟩,
      ⟨some 9, .len false (.tmp 8), none⟩,
      ⟨some 10, .bin .neq 3 (.tmp 7) (.tmp 9), none⟩])
   (.cond (.tmp 10)
     (.seq (.reg [⟨some 4, .mv (.const (.bool false)), none⟩])
     .ret)
     (.skip)))
  (.seq (.seq (.reg [⟨some 5, .mv (.const (.int .i64 0)), none⟩])
   (.block 0
     (.loop
       (.seq (.seq (.reg [⟨some 11, .mv (.tmp 5), none⟩,
           ⟨some 12, .mv (.tmp 0), none⟩,
           ⟨some 13, .len false (.tmp 12), none⟩,
           ⟨some 14, .bin .lss 3 (.tmp 11) (.tmp 13), none⟩])
        (.cond (.tmp 14)
          (.skip)
          (.exit 0)))
       (.seq (.block 1
          (.seq (.draw [(⟨some 17, .mv (.tmp 0), none⟩, [0], []),
             (⟨some 18, .mv (.tmp 5), none⟩, [5], [0]),
             (⟨some 19, .iaddr 5 (.tmp 17) (.tmp 18), none⟩, [17, 18], []),
             (⟨some 20, .faddr 1 (.tmp 19), none⟩, [19], []),
             (⟨some 21, .load 3 false 1 (.tmp 20), none⟩, [20], []),
             (⟨some 22, .mv (.tmp 1), none⟩, [1], [4, 3, 2, 1, 0]),
             (⟨some 23, .mv (.tmp 5), none⟩, [5], [5, 4, 3, 2, 1, 0]),
             (⟨some 24, .iaddr 5 (.tmp 22) (.tmp 23), none⟩, [22, 23], [4, 3, 2, 1, 0]),
             (⟨some 25, .faddr 1 (.tmp 24), none⟩, [24], [4, 3, 2, 1, 0]),
             (⟨some 26, .load 3 false 1 (.tmp 25), none⟩, [25], [4, 3, 2, 1, 0]),
             (⟨some 27, .bin .neq 3 (.tmp 21) (.tmp 26), none⟩, [21, 26], []),
             (⟨some 28, .mv (.tmp 27), none⟩, [27], []),
             (⟨some 29, .mv (.tmp 0), (some (28, false))⟩, [0, 28], []),
             (⟨some 30, .mv (.tmp 5), (some (28, false))⟩, [5, 28], [12]),
             (⟨some 31, .iaddr 5 (.tmp 29) (.tmp 30), (some (28, false))⟩, [29, 30, 28], []),
             (⟨some 32, .faddr 2 (.tmp 31), (some (28, false))⟩, [31, 28], []),
             (⟨some 33, .load 3 false 1 (.tmp 32), (some (28, false))⟩, [32, 28], []),
             (⟨some 34, .mv (.tmp 1), (some (28, false))⟩, [1, 28], [16, 15, 14, 13, 12]),
             (⟨some 35, .mv (.tmp 5), (some (28, false))⟩, [5, 28], [17, 16, 15, 14, 13, 12]),
             (⟨some 36, .iaddr 5 (.tmp 34) (.tmp 35), (some (28, false))⟩, [34, 35, 28], [16, 15, 14, 13, 12]),
             (⟨some 37, .faddr 2 (.tmp 36), (some (28, false))⟩, [36, 28], [16, 15, 14, 13, 12]),
             (⟨some 38, .load 3 false 1 (.tmp 37), (some (28, false))⟩, [37, 28], [16, 15, 14, 13, 12]),
             (⟨some 39, .bin .neq 3 (.tmp 33) (.tmp 38), (some (28, false))⟩, [33, 38, 28], []),
             (⟨some 40, .pick (.tmp 28) (.const (.bool true)) (.tmp 39), none⟩, [28, 39], []),
             (⟨some 41, .mv (.tmp 40), none⟩, [40], []),
             (⟨some 42, .mv (.tmp 0), (some (41, false))⟩, [0, 41], []),
             (⟨some 43, .mv (.tmp 5), (some (41, false))⟩, [5, 41], [25]),
             (⟨some 44, .iaddr 5 (.tmp 42) (.tmp 43), (some (41, false))⟩, [42, 43, 41], []),
             (⟨some 45, .faddr 3 (.tmp 44), (some (41, false))⟩, [44, 41], []),
             (⟨some 46, .faddr 1 (.tmp 45), (some (41, false))⟩, [45, 41], []),
             (⟨some 47, .load 80 false 1 (.tmp 46), (some (41, false))⟩, [46, 41], []),
             (⟨some 48, .mv (.tmp 1), (some (41, false))⟩, [1, 41], [30, 29, 28, 27, 26, 25]),
             (⟨some 49, .mv (.tmp 5), (some (41, false))⟩, [5, 41], [31, 30, 29, 28, 27, 26, 25]),
             (⟨some 50, .iaddr 5 (.tmp 48) (.tmp 49), (some (41, false))⟩, [48, 49, 41], [30, 29, 28, 27, 26, 25]),
             (⟨some 51, .faddr 3 (.tmp 50), (some (41, false))⟩, [50, 41], [30, 29, 28, 27, 26, 25]),
             (⟨some 52, .faddr 1 (.tmp 51), (some (41, false))⟩, [51, 41], [30, 29, 28, 27, 26, 25]),
             (⟨some 53, .load 80 false 1 (.tmp 52), (some (41, false))⟩, [52, 41], [30, 29, 28, 27, 26, 25]),
             (⟨some 54, .call (.func 185) [(.tmp 47), (.tmp 53)], (some (41, false))⟩, [47, 53, 41], []),
             (⟨some 55, .un .not (.tmp 54), (some (41, false))⟩, [54, 41], []),
             (⟨some 56, .pick (.tmp 41) (.const (.bool true)) (.tmp 55), none⟩, [41, 55], [])])
          (.cond (.tmp 56)
            (.seq (.reg [⟨some 4, .mv (.const (.bool false)), none⟩])
            .ret)
            (.skip))))
       (.reg [⟨some 15, .mv (.tmp 5), none⟩,
         ⟨some 16, .bin .add 3 (.tmp 15) (.const (.int .i64 1)), none⟩,
         ⟨some 5, .mv (.tmp 16), none⟩]))))))
  (.seq (.reg [⟨some 4, .mv (.const (.bool true)), none⟩])
  .ret)))),
  [.tmp 4], false⟩
/-- jobshell/jobshellref11.SameAll -/
def p118 : PFn := ⟨27,
  (.seq (.reg [⟨some 4, .mv (.const (.bool false)), none⟩])
  (.seq (.seq (.reg [⟨some 6, .mv (.tmp 0), none⟩,
      ⟨some 7, .len false (.tmp 6), none⟩,
      ⟨some 8, .mv (.tmp 1), none⟩,
      ⟨some 9, .len false (.tmp 8), none⟩,
      ⟨some 10, .bin .neq 3 (.tmp 7) (.tmp 9), none⟩])
   (.cond (.tmp 10)
     (.seq (.reg [⟨some 4, .mv (.const (.bool false)), none⟩])
     .ret)
     (.skip)))
  (.seq (.seq (.reg [⟨some 5, .mv (.const (.int .i64 0)), none⟩])
   (.block 0
     (.loop
       (.seq (.seq (.reg [⟨some 11, .mv (.tmp 5), none⟩,
           ⟨some 12, .mv (.tmp 0), none⟩,
           ⟨some 13, .len false (.tmp 12), none⟩,
           ⟨some 14, .bin .lss 3 (.tmp 11) (.tmp 13), none⟩])
        (.cond (.tmp 14)
          (.skip)
          (.exit 0)))
       (.seq (.block 1
          (.seq (.draw [(⟨some 17, .mv (.tmp 0), none⟩, [0], []),
             (⟨some 18, .mv (.tmp 5), none⟩, [5], [0]),
             (⟨some 19, .iaddr 9 (.tmp 17) (.tmp 18), none⟩, [17, 18], []),
             (⟨some 20, .load 28 true 9 (.tmp 19), none⟩, [19], []),
             (⟨some 21, .mv (.tmp 1), none⟩, [1], [3, 2, 1, 0]),
             (⟨some 22, .mv (.tmp 5), none⟩, [5], [4, 3, 2, 1, 0]),
             (⟨some 23, .iaddr 9 (.tmp 21) (.tmp 22), none⟩, [21, 22], [3, 2, 1, 0]),
             (⟨some 24, .load 28 true 9 (.tmp 23), none⟩, [23], [3, 2, 1, 0]),
             (⟨some 25, .call (.func 56) [(.tmp 20), (.tmp 24)], none⟩, [20, 24], []),
             (⟨some 26, .un .not (.tmp 25), none⟩, [25], [])])
          (.cond (.tmp 26)
            (.seq (.reg [⟨some 4, .mv (.const (.bool false)), none⟩])
            .ret)
            (.skip))))
       (.reg [⟨some 15, .mv (.tmp 5), none⟩,
         ⟨some 16, .bin .add 3 (.tmp 15) (.const (.int .i64 1)), none⟩,
         ⟨some 5, .mv (.tmp 16), none⟩]))))))
  (.seq (.reg [⟨some 4, .mv (.const (.bool true)), none⟩])
  .ret)))),
  [.tmp 4], false⟩
/-- jobshell/jobshellref11.sameItems -/
def p119 : PFn := ⟨43,
  (.seq (.reg [⟨some 4, .mv (.const (.bool false)), none⟩])
  (.seq (.seq (.reg [⟨some 6, .mv (.tmp 0), none⟩,
      ⟨some 7, .len false (.tmp 6), none⟩,
      ⟨some 8, .mv (.tmp 1), none⟩,
      ⟨some 9, .len false (.tmp 8), none⟩,
      ⟨some 10, .bin .neq 3 (.tmp 7) (.tmp 9), none⟩])
   (.cond (.tmp 10)
     (.seq (.reg [⟨some 4, .mv (.const (.bool false)), none⟩])
     .ret)
     (.skip)))
  (.seq (.seq (.reg [⟨some 5, .mv (.const (.int .i64 0)), none⟩])
   (.block 0
     (.loop
       (.seq (.seq (.reg [⟨some 11, .mv (.tmp 5), none⟩,
           ⟨some 12, .mv (.tmp 0), none⟩,
           ⟨some 13, .len false (.tmp 12), none⟩,
           ⟨some 14, .bin .lss 3 (.tmp 11) (.tmp 13), none⟩])
        (.cond (.tmp 14)
          (.skip)
          (.exit 0)))
       (.seq (.block 1
          (.seq (.draw [(⟨some 17, .mv (.tmp 0), none⟩, [0], []),
             (⟨some 18, .mv (.tmp 5), none⟩, [5], [0]),
             (⟨some 19, .iaddr 2 (.tmp 17) (.tmp 18), none⟩, [17, 18], []),
             (⟨some 20, .faddr 0 (.tmp 19), none⟩, [19], []),
             (⟨some 21, .load 23 false 1 (.tmp 20), none⟩, [20], []),
             (⟨some 22, .mv (.tmp 1), none⟩, [1], [4, 3, 2, 1, 0]),
             (⟨some 23, .mv (.tmp 5), none⟩, [5], [5, 4, 3, 2, 1, 0]),
             (⟨some 24, .iaddr 2 (.tmp 22) (.tmp 23), none⟩, [22, 23], [4, 3, 2, 1, 0]),
             (⟨some 25, .faddr 0 (.tmp 24), none⟩, [24], [4, 3, 2, 1, 0]),
             (⟨some 26, .load 23 false 1 (.tmp 25), none⟩, [25], [4, 3, 2, 1, 0]),
             (⟨some 27, .call (.func 116) [(.tmp 21), (.tmp 26)], none⟩, [21, 26], []),
             (⟨some 28, .un .not (.tmp 27), none⟩, [27], []),
             (⟨some 29, .mv (.tmp 28), none⟩, [28], []),
             (⟨some 30, .mv (.tmp 0), (some (29, false))⟩, [0, 29], []),
             (⟨some 31, .mv (.tmp 5), (some (29, false))⟩, [5, 29], [13]),
             (⟨some 32, .iaddr 2 (.tmp 30) (.tmp 31), (some (29, false))⟩, [30, 31, 29], []),
             (⟨some 33, .faddr 1 (.tmp 32), (some (29, false))⟩, [32, 29], []),
             (⟨some 34, .load 25 false 1 (.tmp 33), (some (29, false))⟩, [33, 29], []),
             (⟨some 35, .mv (.tmp 1), (some (29, false))⟩, [1, 29], [17, 16, 15, 14, 13]),
             (⟨some 36, .mv (.tmp 5), (some (29, false))⟩, [5, 29], [18, 17, 16, 15, 14, 13]),
             (⟨some 37, .iaddr 2 (.tmp 35) (.tmp 36), (some (29, false))⟩, [35, 36, 29], [17, 16, 15, 14, 13]),
             (⟨some 38, .faddr 1 (.tmp 37), (some (29, false))⟩, [37, 29], [17, 16, 15, 14, 13]),
             (⟨some 39, .load 25 false 1 (.tmp 38), (some (29, false))⟩, [38, 29], [17, 16, 15, 14, 13]),
             (⟨some 40, .call (.func 118) [(.tmp 34), (.tmp 39)], (some (29, false))⟩, [34, 39, 29], []),
             (⟨some 41, .un .not (.tmp 40), (some (29, false))⟩, [40, 29], []),
             (⟨some 42, .pick (.tmp 29) (.const (.bool true)) (.tmp 41), none⟩, [29, 41], [])])
          (.cond (.tmp 42)
            (.seq (.reg [⟨some 4, .mv (.const (.bool false)), none⟩])
            .ret)
            (.skip))))
       (.reg [⟨some 15, .mv (.tmp 5), none⟩,
         ⟨some 16, .bin .add 3 (.tmp 15) (.const (.int .i64 1)), none⟩,
         ⟨some 5, .mv (.tmp 16), none⟩]))))))
  (.seq (.reg [⟨some 4, .mv (.const (.bool true)), none⟩])
  .ret)))),
  [.tmp 4], false⟩
/-- slices.EqualFunc[[]jobshell/api.Assign,[]jobshell/api.Assign,jobshell/api.Assign,jobshell/api.Assign] -/
def p120 : PFn := ⟨32,
  (.seq (.reg [⟨some 6, .mv (.const (.bool false)), none⟩])
  (.seq (.seq (.reg [⟨some 10, .mv (.tmp 0), none⟩,
      ⟨some 11, .len false (.tmp 10), none⟩,
      ⟨some 12, .mv (.tmp 1), none⟩,
      ⟨some 13, .len false (.tmp 12), none⟩,
      ⟨some 14, .bin .neq 3 (.tmp 11) (.tmp 13), none⟩])
   (.cond (.tmp 14)
     (.seq (.reg [⟨some 6, .mv (.const (.bool false)), none⟩])
     .ret)
     (.skip)))
  (.seq (.seq (.reg [⟨some 15, .mv (.tmp 0), none⟩,
      ⟨some 16, .len false (.tmp 15), none⟩,
      ⟨some 17, .mv (.const (.int .i64 0)), none⟩])
   (.block 0
     (.loop
       (.seq (.reg [⟨some 18, .bin .lss 3 (.tmp 17) (.tmp 16), none⟩])
       (.seq (.cond (.tmp 18)
          (.skip)
          (.exit 0))
       (.seq (.block 1
          (.seq (.reg [⟨some 19, .mv (.tmp 17), none⟩,
             ⟨some 20, .iaddr 4 (.tmp 15) (.tmp 17), none⟩,
             ⟨some 21, .load 84 true 4 (.tmp 20), none⟩,
             ⟨some 8, .alloc 84 (.agg #[(.int .i64 0), (.string ⟨#[]⟩), (.int .i64 0), (.slice none 0 0)]), none⟩,
             ⟨some 7, .mv (.tmp 19), none⟩,
             ⟨none, .store 84 4 (.tmp 8) (.tmp 21), none⟩])
          (.seq (.reg [⟨some 22, .mv (.tmp 1), none⟩,
             ⟨some 23, .mv (.tmp 7), none⟩,
             ⟨some 24, .iaddr 4 (.tmp 22) (.tmp 23), none⟩,
             ⟨some 25, .load 84 true 4 (.tmp 24), none⟩,
             ⟨some 9, .alloc 84 (.agg #[(.int .i64 0), (.string ⟨#[]⟩), (.int .i64 0), (.slice none 0 0)]), none⟩,
             ⟨none, .store 84 4 (.tmp 9) (.tmp 25), none⟩])
          (.seq (.reg [⟨some 26, .mv (.tmp 2), none⟩,
             ⟨some 27, .load 84 true 4 (.tmp 8), none⟩,
             ⟨some 28, .load 84 true 4 (.tmp 9), none⟩,
             ⟨some 29, .call (.tmp 26) [(.tmp 27), (.tmp 28)], none⟩,
             ⟨some 30, .un .not (.tmp 29), none⟩])
          (.cond (.tmp 30)
            (.seq (.reg [⟨some 6, .mv (.const (.bool false)), none⟩])
            .ret)
            (.skip))))))
       (.reg [⟨some 31, .bin .add 3 (.tmp 17) (.const (.int .i64 1)), none⟩,
         ⟨some 17, .mv (.tmp 31), none⟩])))))))
  (.seq (.reg [⟨some 6, .mv (.const (.bool true)), none⟩])
  .ret)))),
  [.tmp 6], false⟩
/-- jobshell/syntax.Same$1 -/
def p121 : PFn := ⟨17,
  (.seq (.reg [⟨some 2, .box 84 (.tmp 0), none⟩,
     ⟨some 3, .box 84 (.tmp 1), none⟩,
     ⟨some 4, .mv (.const (.bool false)), none⟩])
  (.seq (.reg [⟨some 5, .faddr 1 (.tmp 2), none⟩,
     ⟨some 6, .load 9 false 1 (.tmp 5), none⟩,
     ⟨some 7, .faddr 1 (.tmp 3), none⟩,
     ⟨some 8, .load 9 false 1 (.tmp 7), none⟩,
     ⟨some 9, .bin .eql 9 (.tmp 6) (.tmp 8), none⟩,
     ⟨some 10, .mv (.tmp 9), none⟩,
     ⟨some 11, .faddr 2 (.tmp 2), (some (10, true))⟩,
     ⟨some 12, .load 82 true 2 (.tmp 11), (some (10, true))⟩,
     ⟨some 13, .faddr 2 (.tmp 3), (some (10, true))⟩,
     ⟨some 14, .load 82 true 2 (.tmp 13), (some (10, true))⟩,
     ⟨some 15, .call (.func 122) [(.tmp 12), (.tmp 14)], (some (10, true))⟩,
     ⟨some 16, .pick (.tmp 10) (.tmp 15) (.const (.bool false)), none⟩,
     ⟨some 4, .mv (.tmp 16), none⟩])
  .ret)),
  [.tmp 4], false⟩
/-- jobshell/syntax.sameWord -/
def p122 : PFn := ⟨10,
  (.seq (.reg [⟨some 2, .box 82 (.tmp 0), none⟩,
     ⟨some 3, .box 82 (.tmp 1), none⟩,
     ⟨some 4, .mv (.const (.bool false)), none⟩])
  (.seq (.reg [⟨some 5, .faddr 1 (.tmp 2), none⟩,
     ⟨some 6, .load 80 false 1 (.tmp 5), none⟩,
     ⟨some 7, .faddr 1 (.tmp 3), none⟩,
     ⟨some 8, .load 80 false 1 (.tmp 7), none⟩,
     ⟨some 9, .call (.func 186) [(.tmp 6), (.tmp 8)], none⟩,
     ⟨some 4, .mv (.tmp 9), none⟩])
  .ret)),
  [.tmp 4], false⟩
/-- slices.EqualFunc[[]jobshell/api.Word,[]jobshell/api.Word,jobshell/api.Word,jobshell/api.Word] -/
def p123 : PFn := ⟨32,
  (.seq (.reg [⟨some 6, .mv (.const (.bool false)), none⟩])
  (.seq (.seq (.reg [⟨some 10, .mv (.tmp 0), none⟩,
      ⟨some 11, .len false (.tmp 10), none⟩,
      ⟨some 12, .mv (.tmp 1), none⟩,
      ⟨some 13, .len false (.tmp 12), none⟩,
      ⟨some 14, .bin .neq 3 (.tmp 11) (.tmp 13), none⟩])
   (.cond (.tmp 14)
     (.seq (.reg [⟨some 6, .mv (.const (.bool false)), none⟩])
     .ret)
     (.skip)))
  (.seq (.seq (.reg [⟨some 15, .mv (.tmp 0), none⟩,
      ⟨some 16, .len false (.tmp 15), none⟩,
      ⟨some 17, .mv (.const (.int .i64 0)), none⟩])
   (.block 0
     (.loop
       (.seq (.reg [⟨some 18, .bin .lss 3 (.tmp 17) (.tmp 16), none⟩])
       (.seq (.cond (.tmp 18)
          (.skip)
          (.exit 0))
       (.seq (.block 1
          (.seq (.reg [⟨some 19, .mv (.tmp 17), none⟩,
             ⟨some 20, .iaddr 2 (.tmp 15) (.tmp 17), none⟩,
             ⟨some 21, .load 82 true 2 (.tmp 20), none⟩,
             ⟨some 8, .alloc 82 (.agg #[(.int .i64 0), (.slice none 0 0)]), none⟩,
             ⟨some 7, .mv (.tmp 19), none⟩,
             ⟨none, .store 82 2 (.tmp 8) (.tmp 21), none⟩])
          (.seq (.reg [⟨some 22, .mv (.tmp 1), none⟩,
             ⟨some 23, .mv (.tmp 7), none⟩,
             ⟨some 24, .iaddr 2 (.tmp 22) (.tmp 23), none⟩,
             ⟨some 25, .load 82 true 2 (.tmp 24), none⟩,
             ⟨some 9, .alloc 82 (.agg #[(.int .i64 0), (.slice none 0 0)]), none⟩,
             ⟨none, .store 82 2 (.tmp 9) (.tmp 25), none⟩])
          (.seq (.reg [⟨some 26, .mv (.tmp 2), none⟩,
             ⟨some 27, .load 82 true 2 (.tmp 8), none⟩,
             ⟨some 28, .load 82 true 2 (.tmp 9), none⟩,
             ⟨some 29, .call (.tmp 26) [(.tmp 27), (.tmp 28)], none⟩,
             ⟨some 30, .un .not (.tmp 29), none⟩])
          (.cond (.tmp 30)
            (.seq (.reg [⟨some 6, .mv (.const (.bool false)), none⟩])
            .ret)
            (.skip))))))
       (.reg [⟨some 31, .bin .add 3 (.tmp 17) (.const (.int .i64 1)), none⟩,
         ⟨some 17, .mv (.tmp 31), none⟩])))))))
  (.seq (.reg [⟨some 6, .mv (.const (.bool true)), none⟩])
  .ret)))),
  [.tmp 6], false⟩
/-- slices.EqualFunc[[]jobshell/api.Redir,[]jobshell/api.Redir,jobshell/api.Redir,jobshell/api.Redir] -/
def p124 : PFn := ⟨32,
  (.seq (.reg [⟨some 6, .mv (.const (.bool false)), none⟩])
  (.seq (.seq (.reg [⟨some 10, .mv (.tmp 0), none⟩,
      ⟨some 11, .len false (.tmp 10), none⟩,
      ⟨some 12, .mv (.tmp 1), none⟩,
      ⟨some 13, .len false (.tmp 12), none⟩,
      ⟨some 14, .bin .neq 3 (.tmp 11) (.tmp 13), none⟩])
   (.cond (.tmp 14)
     (.seq (.reg [⟨some 6, .mv (.const (.bool false)), none⟩])
     .ret)
     (.skip)))
  (.seq (.seq (.reg [⟨some 15, .mv (.tmp 0), none⟩,
      ⟨some 16, .len false (.tmp 15), none⟩,
      ⟨some 17, .mv (.const (.int .i64 0)), none⟩])
   (.block 0
     (.loop
       (.seq (.reg [⟨some 18, .bin .lss 3 (.tmp 17) (.tmp 16), none⟩])
       (.seq (.cond (.tmp 18)
          (.skip)
          (.exit 0))
       (.seq (.block 1
          (.seq (.reg [⟨some 19, .mv (.tmp 17), none⟩,
             ⟨some 20, .iaddr 5 (.tmp 15) (.tmp 17), none⟩,
             ⟨some 21, .load 148 true 5 (.tmp 20), none⟩,
             ⟨some 8, .alloc 148 (.agg #[(.int .i64 0), (.int .i64 0), (.int .i64 0), (.int .i64 0), (.slice none 0 0)]), none⟩,
             ⟨some 7, .mv (.tmp 19), none⟩,
             ⟨none, .store 148 5 (.tmp 8) (.tmp 21), none⟩])
          (.seq (.reg [⟨some 22, .mv (.tmp 1), none⟩,
             ⟨some 23, .mv (.tmp 7), none⟩,
             ⟨some 24, .iaddr 5 (.tmp 22) (.tmp 23), none⟩,
             ⟨some 25, .load 148 true 5 (.tmp 24), none⟩,
             ⟨some 9, .alloc 148 (.agg #[(.int .i64 0), (.int .i64 0), (.int .i64 0), (.int .i64 0), (.slice none 0 0)]), none⟩,
             ⟨none, .store 148 5 (.tmp 9) (.tmp 25), none⟩])
          (.seq (.reg [⟨some 26, .mv (.tmp 2), none⟩,
             ⟨some 27, .load 148 true 5 (.tmp 8), none⟩,
             ⟨some 28, .load 148 true 5 (.tmp 9), none⟩,
             ⟨some 29, .call (.tmp 26) [(.tmp 27), (.tmp 28)], none⟩,
             ⟨some 30, .un .not (.tmp 29), none⟩])
          (.cond (.tmp 30)
            (.seq (.reg [⟨some 6, .mv (.const (.bool false)), none⟩])
            .ret)
            (.skip))))))
       (.reg [⟨some 31, .bin .add 3 (.tmp 17) (.const (.int .i64 1)), none⟩,
         ⟨some 17, .mv (.tmp 31), none⟩])))))))
  (.seq (.reg [⟨some 6, .mv (.const (.bool true)), none⟩])
  .ret)))),
  [.tmp 6], false⟩
/-- jobshell/syntax.Same$2 -/
def p125 : PFn := ⟨24,
  (.seq (.reg [⟨some 2, .box 148 (.tmp 0), none⟩,
     ⟨some 3, .box 148 (.tmp 1), none⟩,
     ⟨some 4, .mv (.const (.bool false)), none⟩])
  (.seq (.reg [⟨some 5, .faddr 1 (.tmp 2), none⟩,
     ⟨some 6, .load 3 false 1 (.tmp 5), none⟩,
     ⟨some 7, .faddr 1 (.tmp 3), none⟩,
     ⟨some 8, .load 3 false 1 (.tmp 7), none⟩,
     ⟨some 9, .bin .eql 3 (.tmp 6) (.tmp 8), none⟩,
     ⟨some 10, .mv (.tmp 9), none⟩,
     ⟨some 11, .faddr 2 (.tmp 2), (some (10, true))⟩,
     ⟨some 12, .load 3 false 1 (.tmp 11), (some (10, true))⟩,
     ⟨some 13, .faddr 2 (.tmp 3), (some (10, true))⟩,
     ⟨some 14, .load 3 false 1 (.tmp 13), (some (10, true))⟩,
     ⟨some 15, .bin .eql 3 (.tmp 12) (.tmp 14), (some (10, true))⟩,
     ⟨some 16, .pick (.tmp 10) (.tmp 15) (.const (.bool false)), none⟩,
     ⟨some 17, .mv (.tmp 16), none⟩,
     ⟨some 18, .faddr 3 (.tmp 2), (some (17, true))⟩,
     ⟨some 19, .load 82 true 2 (.tmp 18), (some (17, true))⟩,
     ⟨some 20, .faddr 3 (.tmp 3), (some (17, true))⟩,
     ⟨some 21, .load 82 true 2 (.tmp 20), (some (17, true))⟩,
     ⟨some 22, .call (.func 122) [(.tmp 19), (.tmp 21)], (some (17, true))⟩,
     ⟨some 23, .pick (.tmp 17) (.tmp 22) (.const (.bool false)), none⟩,
     ⟨some 4, .mv (.tmp 23), none⟩])
  .ret)),
  [.tmp 4], false⟩
/-- slices.EqualFunc[[]jobshell/api.Node,[]jobshell/api.Node,jobshell/api.Node,jobshell/api.Node] -/
def p126 : PFn := ⟨32,
  (.seq (.reg [⟨some 6, .mv (.const (.bool false)), none⟩])
  (.seq (.seq (.reg [⟨some 10, .mv (.tmp 0), none⟩,
      ⟨some 11, .len false (.tmp 10), none⟩,
      ⟨some 12, .mv (.tmp 1), none⟩,
      ⟨some 13, .len false (.tmp 12), none⟩,
      ⟨some 14, .bin .neq 3 (.tmp 11) (.tmp 13), none⟩])
   (.cond (.tmp 14)
     (.seq (.reg [⟨some 6, .mv (.const (.bool false)), none⟩])
     .ret)
     (.skip)))
  (.seq (.seq (.reg [⟨some 15, .mv (.tmp 0), none⟩,
      ⟨some 16, .len false (.tmp 15), none⟩,
      ⟨some 17, .mv (.const (.int .i64 0)), none⟩])
   (.block 0
     (.loop
       (.seq (.reg [⟨some 18, .bin .lss 3 (.tmp 17) (.tmp 16), none⟩])
       (.seq (.cond (.tmp 18)
          (.skip)
          (.exit 0))
       (.seq (.block 1
          (.seq (.reg [⟨some 19, .mv (.tmp 17), none⟩,
             ⟨some 20, .iaddr 9 (.tmp 15) (.tmp 17), none⟩,
             ⟨some 21, .load 28 true 9 (.tmp 20), none⟩,
             ⟨some 8, .alloc 28 (.agg #[(.int .i64 0), (.int .i64 0), (.string ⟨#[]⟩), (.bool false), (.slice none 0 0), (.slice none 0 0), (.slice none 0 0), (.slice none 0 0), (.slice none 0 0)]), none⟩,
             ⟨some 7, .mv (.tmp 19), none⟩,
             ⟨none, .store 28 9 (.tmp 8) (.tmp 21), none⟩])
          (.seq (.reg [⟨some 22, .mv (.tmp 1), none⟩,
             ⟨some 23, .mv (.tmp 7), none⟩,
             ⟨some 24, .iaddr 9 (.tmp 22) (.tmp 23), none⟩,
             ⟨some 25, .load 28 true 9 (.tmp 24), none⟩,
             ⟨some 9, .alloc 28 (.agg #[(.int .i64 0), (.int .i64 0), (.string ⟨#[]⟩), (.bool false), (.slice none 0 0), (.slice none 0 0), (.slice none 0 0), (.slice none 0 0), (.slice none 0 0)]), none⟩,
             ⟨none, .store 28 9 (.tmp 9) (.tmp 25), none⟩])
          (.seq (.reg [⟨some 26, .mv (.tmp 2), none⟩,
             ⟨some 27, .load 28 true 9 (.tmp 8), none⟩,
             ⟨some 28, .load 28 true 9 (.tmp 9), none⟩,
             ⟨some 29, .call (.tmp 26) [(.tmp 27), (.tmp 28)], none⟩,
             ⟨some 30, .un .not (.tmp 29), none⟩])
          (.cond (.tmp 30)
            (.seq (.reg [⟨some 6, .mv (.const (.bool false)), none⟩])
            .ret)
            (.skip))))))
       (.reg [⟨some 31, .bin .add 3 (.tmp 17) (.const (.int .i64 1)), none⟩,
         ⟨some 17, .mv (.tmp 31), none⟩])))))))
  (.seq (.reg [⟨some 6, .mv (.const (.bool true)), none⟩])
  .ret)))),
  [.tmp 6], false⟩
/-- slices.EqualFunc[[]jobshell/api.Item,[]jobshell/api.Item,jobshell/api.Item,jobshell/api.Item] -/
def p127 : PFn := ⟨32,
  (.seq (.reg [⟨some 6, .mv (.const (.bool false)), none⟩])
  (.seq (.seq (.reg [⟨some 10, .mv (.tmp 0), none⟩,
      ⟨some 11, .len false (.tmp 10), none⟩,
      ⟨some 12, .mv (.tmp 1), none⟩,
      ⟨some 13, .len false (.tmp 12), none⟩,
      ⟨some 14, .bin .neq 3 (.tmp 11) (.tmp 13), none⟩])
   (.cond (.tmp 14)
     (.seq (.reg [⟨some 6, .mv (.const (.bool false)), none⟩])
     .ret)
     (.skip)))
  (.seq (.seq (.reg [⟨some 15, .mv (.tmp 0), none⟩,
      ⟨some 16, .len false (.tmp 15), none⟩,
      ⟨some 17, .mv (.const (.int .i64 0)), none⟩])
   (.block 0
     (.loop
       (.seq (.reg [⟨some 18, .bin .lss 3 (.tmp 17) (.tmp 16), none⟩])
       (.seq (.cond (.tmp 18)
          (.skip)
          (.exit 0))
       (.seq (.block 1
          (.seq (.reg [⟨some 19, .mv (.tmp 17), none⟩,
             ⟨some 20, .iaddr 2 (.tmp 15) (.tmp 17), none⟩,
             ⟨some 21, .load 150 true 2 (.tmp 20), none⟩,
             ⟨some 8, .alloc 150 (.agg #[(.slice none 0 0), (.slice none 0 0)]), none⟩,
             ⟨some 7, .mv (.tmp 19), none⟩,
             ⟨none, .store 150 2 (.tmp 8) (.tmp 21), none⟩])
          (.seq (.reg [⟨some 22, .mv (.tmp 1), none⟩,
             ⟨some 23, .mv (.tmp 7), none⟩,
             ⟨some 24, .iaddr 2 (.tmp 22) (.tmp 23), none⟩,
             ⟨some 25, .load 150 true 2 (.tmp 24), none⟩,
             ⟨some 9, .alloc 150 (.agg #[(.slice none 0 0), (.slice none 0 0)]), none⟩,
             ⟨none, .store 150 2 (.tmp 9) (.tmp 25), none⟩])
          (.seq (.reg [⟨some 26, .mv (.tmp 2), none⟩,
             ⟨some 27, .load 150 true 2 (.tmp 8), none⟩,
             ⟨some 28, .load 150 true 2 (.tmp 9), none⟩,
             ⟨some 29, .call (.tmp 26) [(.tmp 27), (.tmp 28)], none⟩,
             ⟨some 30, .un .not (.tmp 29), none⟩])
          (.cond (.tmp 30)
            (.seq (.reg [⟨some 6, .mv (.const (.bool false)), none⟩])
            .ret)
            (.skip))))))
       (.reg [⟨some 31, .bin .add 3 (.tmp 17) (.const (.int .i64 1)), none⟩,
         ⟨some 17, .mv (.tmp 31), none⟩])))))))
  (.seq (.reg [⟨some 6, .mv (.const (.bool true)), none⟩])
  .ret)))),
  [.tmp 6], false⟩
/-- jobshell/syntax.Same$3 -/
def p128 : PFn := ⟨17,
  (.seq (.reg [⟨some 2, .box 150 (.tmp 0), none⟩,
     ⟨some 3, .box 150 (.tmp 1), none⟩,
     ⟨some 4, .mv (.const (.bool false)), none⟩])
  (.seq (.reg [⟨some 5, .faddr 0 (.tmp 2), none⟩,
     ⟨some 6, .load 23 false 1 (.tmp 5), none⟩,
     ⟨some 7, .faddr 0 (.tmp 3), none⟩,
     ⟨some 8, .load 23 false 1 (.tmp 7), none⟩,
     ⟨some 9, .call (.func 123) [(.tmp 6), (.tmp 8), (.func 122)], none⟩,
     ⟨some 10, .mv (.tmp 9), none⟩,
     ⟨some 11, .faddr 1 (.tmp 2), (some (10, true))⟩,
     ⟨some 12, .load 25 false 1 (.tmp 11), (some (10, true))⟩,
     ⟨some 13, .faddr 1 (.tmp 3), (some (10, true))⟩,
     ⟨some 14, .load 25 false 1 (.tmp 13), (some (10, true))⟩,
     ⟨some 15, .call (.func 126) [(.tmp 12), (.tmp 14), (.func 60)], (some (10, true))⟩,
     ⟨some 16, .pick (.tmp 10) (.tmp 15) (.const (.bool false)), none⟩,
     ⟨some 4, .mv (.tmp 16), none⟩])
  .ret)),
  [.tmp 4], false⟩
/-- jobshell/jobshellref08.Same -/
def p185 : PFn := ⟨61,
  (.seq (.reg [⟨some 4, .mv (.const (.bool false)), none⟩])
  (.seq (.seq (.reg [⟨some 8, .mv (.tmp 0), none⟩,
      ⟨some 9, .len false (.tmp 8), none⟩,
      ⟨some 10, .mv (.tmp 1), none⟩,
      ⟨some 11, .len false (.tmp 10), none⟩,
      ⟨some 12, .bin .neq 3 (.tmp 9) (.tmp 11), none⟩])
   (.cond (.tmp 12)
     (.seq (.reg [⟨some 4, .mv (.const (.bool false)), none⟩])
     .ret)
     (.skip)))
  (.seq (.seq (.reg [⟨some 5, .mv (.const (.int .i64 0)), none⟩])
   (.block 0
     (.loop
       (.seq (.seq (.reg [⟨some 13, .mv (.tmp 5), none⟩,
           ⟨some 14, .mv (.tmp 0), none⟩,
           ⟨some 15, .len false (.tmp 14), none⟩,
           ⟨some 16, .bin .lss 3 (.tmp 13) (.tmp 15), none⟩])
        (.cond (.tmp 16)
          (.skip)
          (.exit 0)))
       (.seq (.block 1
          (.seq (.draw [(⟨some 19, .mv (.tmp 0), none⟩, [0], []),
             (⟨some 20, .mv (.tmp 5), none⟩, [5], [0]),
             (⟨some 21, .iaddr 5 (.tmp 19) (.tmp 20), none⟩, [19, 20], []),
             (⟨some 22, .load 90 true 5 (.tmp 21), none⟩, [21], []),
             (⟨some 23, .mv (.tmp 1), none⟩, [1], [3, 2, 1, 0]),
             (⟨some 24, .mv (.tmp 5), none⟩, [5], [4, 3, 2, 1, 0]),
             (⟨some 25, .iaddr 5 (.tmp 23) (.tmp 24), none⟩, [23, 24], [3, 2, 1, 0]),
             (⟨some 26, .load 90 true 5 (.tmp 25), none⟩, [25], [3, 2, 1, 0]),
             (⟨some 6, .alloc 90 (.agg #[(.int .i64 0), (.string ⟨#[]⟩), (.int .i64 0), (.bool false), (.slice none 0 0)]), none⟩, [], [7, 6, 5, 4, 3, 2, 1, 0]),
             (⟨some 7, .alloc 90 (.agg #[(.int .i64 0), (.string ⟨#[]⟩), (.int .i64 0), (.bool false), (.slice none 0 0)]), none⟩, [], [8, 7, 6, 5, 4, 3, 2, 1, 0]),
             (⟨none, .store 90 5 (.tmp 6) (.tmp 22), none⟩, [6, 22], [7, 6, 5, 4]),
             (⟨none, .store 90 5 (.tmp 7) (.tmp 26), none⟩, [7, 26], [])])
          (.seq (.reg [⟨some 27, .faddr 0 (.tmp 6), none⟩,
             ⟨some 28, .load 3 false 1 (.tmp 27), none⟩,
             ⟨some 29, .faddr 0 (.tmp 7), none⟩,
             ⟨some 30, .load 3 false 1 (.tmp 29), none⟩,
             ⟨some 31, .bin .neq 3 (.tmp 28) (.tmp 30), none⟩,
             ⟨some 32, .mv (.tmp 31), none⟩,
             ⟨some 33, .faddr 1 (.tmp 6), (some (32, false))⟩,
             ⟨some 34, .load 9 false 1 (.tmp 33), (some (32, false))⟩,
             ⟨some 35, .faddr 1 (.tmp 7), (some (32, false))⟩,
             ⟨some 36, .load 9 false 1 (.tmp 35), (some (32, false))⟩,
             ⟨some 37, .bin .neq 9 (.tmp 34) (.tmp 36), (some (32, false))⟩,
             ⟨some 38, .pick (.tmp 32) (.const (.bool true)) (.tmp 37), none⟩,
             ⟨some 39, .mv (.tmp 38), none⟩,
             ⟨some 40, .faddr 2 (.tmp 6), (some (39, false))⟩,
             ⟨some 41, .load 3 false 1 (.tmp 40), (some (39, false))⟩,
             ⟨some 42, .faddr 2 (.tmp 7), (some (39, false))⟩,
             ⟨some 43, .load 3 false 1 (.tmp 42), (some (39, false))⟩,
             ⟨some 44, .bin .neq 3 (.tmp 41) (.tmp 43), (some (39, false))⟩,
             ⟨some 45, .pick (.tmp 39) (.const (.bool true)) (.tmp 44), none⟩,
             ⟨some 46, .mv (.tmp 45), none⟩,
             ⟨some 47, .faddr 3 (.tmp 6), (some (46, false))⟩,
             ⟨some 48, .load 4 false 1 (.tmp 47), (some (46, false))⟩,
             ⟨some 49, .faddr 3 (.tmp 7), (some (46, false))⟩,
             ⟨some 50, .load 4 false 1 (.tmp 49), (some (46, false))⟩,
             ⟨some 51, .bin .neq 4 (.tmp 48) (.tmp 50), (some (46, false))⟩,
             ⟨some 52, .pick (.tmp 46) (.const (.bool true)) (.tmp 51), none⟩,
             ⟨some 53, .mv (.tmp 52), none⟩,
             ⟨some 54, .faddr 4 (.tmp 6), (some (53, false))⟩,
             ⟨some 55, .load 80 false 1 (.tmp 54), (some (53, false))⟩,
             ⟨some 56, .faddr 4 (.tmp 7), (some (53, false))⟩,
             ⟨some 57, .load 80 false 1 (.tmp 56), (some (53, false))⟩,
             ⟨some 58, .call (.func 185) [(.tmp 55), (.tmp 57)], (some (53, false))⟩,
             ⟨some 59, .un .not (.tmp 58), (some (53, false))⟩,
             ⟨some 60, .pick (.tmp 53) (.const (.bool true)) (.tmp 59), none⟩])
          (.cond (.tmp 60)
            (.seq (.reg [⟨some 4, .mv (.const (.bool false)), none⟩])
            .ret)
            (.skip)))))
       (.reg [⟨some 17, .mv (.tmp 5), none⟩,
         ⟨some 18, .bin .add 3 (.tmp 17) (.const (.int .i64 1)), none⟩,
         ⟨some 5, .mv (.tmp 18), none⟩]))))))
  (.seq (.reg [⟨some 4, .mv (.const (.bool true)), none⟩])
  .ret)))),
  [.tmp 4], false⟩
/-- jobshell/words.Same -/
def p186 : PFn := ⟨8,
  (.seq (.reg [⟨some 4, .mv (.const (.bool false)), none⟩])
  (.seq (.reg [⟨some 5, .mv (.tmp 0), none⟩,
     ⟨some 6, .mv (.tmp 1), none⟩,
     ⟨some 7, .call (.func 248) [(.tmp 5), (.tmp 6), (.func 249)], none⟩,
     ⟨some 4, .mv (.tmp 7), none⟩])
  .ret)),
  [.tmp 4], false⟩
/-- slices.EqualFunc[[]jobshell/api.Part,[]jobshell/api.Part,jobshell/api.Part,jobshell/api.Part] -/
def p248 : PFn := ⟨32,
  (.seq (.reg [⟨some 6, .mv (.const (.bool false)), none⟩])
  (.seq (.seq (.reg [⟨some 10, .mv (.tmp 0), none⟩,
      ⟨some 11, .len false (.tmp 10), none⟩,
      ⟨some 12, .mv (.tmp 1), none⟩,
      ⟨some 13, .len false (.tmp 12), none⟩,
      ⟨some 14, .bin .neq 3 (.tmp 11) (.tmp 13), none⟩])
   (.cond (.tmp 14)
     (.seq (.reg [⟨some 6, .mv (.const (.bool false)), none⟩])
     .ret)
     (.skip)))
  (.seq (.seq (.reg [⟨some 15, .mv (.tmp 0), none⟩,
      ⟨some 16, .len false (.tmp 15), none⟩,
      ⟨some 17, .mv (.const (.int .i64 0)), none⟩])
   (.block 0
     (.loop
       (.seq (.reg [⟨some 18, .bin .lss 3 (.tmp 17) (.tmp 16), none⟩])
       (.seq (.cond (.tmp 18)
          (.skip)
          (.exit 0))
       (.seq (.block 1
          (.seq (.reg [⟨some 19, .mv (.tmp 17), none⟩,
             ⟨some 20, .iaddr 5 (.tmp 15) (.tmp 17), none⟩,
             ⟨some 21, .load 90 true 5 (.tmp 20), none⟩,
             ⟨some 8, .alloc 90 (.agg #[(.int .i64 0), (.string ⟨#[]⟩), (.int .i64 0), (.bool false), (.slice none 0 0)]), none⟩,
             ⟨some 7, .mv (.tmp 19), none⟩,
             ⟨none, .store 90 5 (.tmp 8) (.tmp 21), none⟩])
          (.seq (.reg [⟨some 22, .mv (.tmp 1), none⟩,
             ⟨some 23, .mv (.tmp 7), none⟩,
             ⟨some 24, .iaddr 5 (.tmp 22) (.tmp 23), none⟩,
             ⟨some 25, .load 90 true 5 (.tmp 24), none⟩,
             ⟨some 9, .alloc 90 (.agg #[(.int .i64 0), (.string ⟨#[]⟩), (.int .i64 0), (.bool false), (.slice none 0 0)]), none⟩,
             ⟨none, .store 90 5 (.tmp 9) (.tmp 25), none⟩])
          (.seq (.reg [⟨some 26, .mv (.tmp 2), none⟩,
             ⟨some 27, .load 90 true 5 (.tmp 8), none⟩,
             ⟨some 28, .load 90 true 5 (.tmp 9), none⟩,
             ⟨some 29, .call (.tmp 26) [(.tmp 27), (.tmp 28)], none⟩,
             ⟨some 30, .un .not (.tmp 29), none⟩])
          (.cond (.tmp 30)
            (.seq (.reg [⟨some 6, .mv (.const (.bool false)), none⟩])
            .ret)
            (.skip))))))
       (.reg [⟨some 31, .bin .add 3 (.tmp 17) (.const (.int .i64 1)), none⟩,
         ⟨some 17, .mv (.tmp 31), none⟩])))))))
  (.seq (.reg [⟨some 6, .mv (.const (.bool true)), none⟩])
  .ret)))),
  [.tmp 6], false⟩
/-- jobshell/words.Same$1 -/
def p249 : PFn := ⟨38,
  (.seq (.reg [⟨some 2, .box 90 (.tmp 0), none⟩,
     ⟨some 3, .box 90 (.tmp 1), none⟩,
     ⟨some 4, .mv (.const (.bool false)), none⟩])
  (.seq (.reg [⟨some 5, .faddr 0 (.tmp 2), none⟩,
     ⟨some 6, .load 3 false 1 (.tmp 5), none⟩,
     ⟨some 7, .faddr 0 (.tmp 3), none⟩,
     ⟨some 8, .load 3 false 1 (.tmp 7), none⟩,
     ⟨some 9, .bin .eql 3 (.tmp 6) (.tmp 8), none⟩,
     ⟨some 10, .mv (.tmp 9), none⟩,
     ⟨some 11, .faddr 1 (.tmp 2), (some (10, true))⟩,
     ⟨some 12, .load 9 false 1 (.tmp 11), (some (10, true))⟩,
     ⟨some 13, .faddr 1 (.tmp 3), (some (10, true))⟩,
     ⟨some 14, .load 9 false 1 (.tmp 13), (some (10, true))⟩,
     ⟨some 15, .bin .eql 9 (.tmp 12) (.tmp 14), (some (10, true))⟩,
     ⟨some 16, .pick (.tmp 10) (.tmp 15) (.const (.bool false)), none⟩,
     ⟨some 17, .mv (.tmp 16), none⟩,
     ⟨some 18, .faddr 2 (.tmp 2), (some (17, true))⟩,
     ⟨some 19, .load 3 false 1 (.tmp 18), (some (17, true))⟩,
     ⟨some 20, .faddr 2 (.tmp 3), (some (17, true))⟩,
     ⟨some 21, .load 3 false 1 (.tmp 20), (some (17, true))⟩,
     ⟨some 22, .bin .eql 3 (.tmp 19) (.tmp 21), (some (17, true))⟩,
     ⟨some 23, .pick (.tmp 17) (.tmp 22) (.const (.bool false)), none⟩,
     ⟨some 24, .mv (.tmp 23), none⟩,
     ⟨some 25, .faddr 3 (.tmp 2), (some (24, true))⟩,
     ⟨some 26, .load 4 false 1 (.tmp 25), (some (24, true))⟩,
     ⟨some 27, .faddr 3 (.tmp 3), (some (24, true))⟩,
     ⟨some 28, .load 4 false 1 (.tmp 27), (some (24, true))⟩,
     ⟨some 29, .bin .eql 4 (.tmp 26) (.tmp 28), (some (24, true))⟩,
     ⟨some 30, .pick (.tmp 24) (.tmp 29) (.const (.bool false)), none⟩,
     ⟨some 31, .mv (.tmp 30), none⟩,
     ⟨some 32, .faddr 4 (.tmp 2), (some (31, true))⟩,
     ⟨some 33, .load 80 false 1 (.tmp 32), (some (31, true))⟩,
     ⟨some 34, .faddr 4 (.tmp 3), (some (31, true))⟩,
     ⟨some 35, .load 80 false 1 (.tmp 34), (some (31, true))⟩,
     ⟨some 36, .call (.func 186) [(.tmp 33), (.tmp 35)], (some (31, true))⟩,
     ⟨some 37, .pick (.tmp 31) (.tmp 36) (.const (.bool false)), none⟩,
     ⟨some 4, .mv (.tmp 37), none⟩])
  .ret)),
  [.tmp 4], false⟩
end Go.Proofs.YtflfflfodghgpaaGreatDoor
