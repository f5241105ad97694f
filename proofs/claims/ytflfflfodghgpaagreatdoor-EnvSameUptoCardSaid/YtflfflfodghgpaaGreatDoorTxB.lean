/- What functions of the program and of the reference compute, on values. No statement is proved here. -/
import Derived.Test.YtflfflfodghgpaaGreatDoorPeC
import Derived.Test.YtflfflfodghgpaaGreatDoorTxA
import Derived.Test.YtflfflfodghgpaaGreatDoorProg
import Derived.KernelRfl
set_option linter.unusedSimpArgs false
set_option linter.unusedVariables false
namespace Go.Proofs.YtflfflfodghgpaaGreatDoor
open Go Go.EvL Go.PE
/-- jobshell/jobshelllaw33.EnvSame -/
def p12 : PFn := ⟨38, (sr [ob 2 (.box 56 (tp 0)), ob 3 (.box 56 (tp 1)), mk 4 (.bool false)]
 (.seq (iff [ob 5 (.load 56 true 15 (tp 2)), ob 6 (cl 37 [(tp 5)]), ob 7 (.un .not (tp 6)), mt 8 7, og 8 false 9 (.load 56 true 15 (tp 3)), og 8 false 10 (cl 37 [(tp 9)]), og 8 false 11 (.un .not (tp 10)), ob 12 (po 8 11)] 12
 (sr [ob 13 (cl 32 []), mt 4 13]
 .ret)
 .skip)
 (.seq (.draw [(ob 14 (.load 56 true 15 (tp 2)), [2], []), (ob 15 (.load 56 true 15 (tp 3)), [3], [0]), (ob 16 (cl 49 [(tp 14), (tp 15)]), [14, 15], []), (ob 17 (.load 56 true 15 (tp 2)), [2], [2, 1, 0]), (ob 18 (.load 56 true 15 (tp 3)), [3], [3, 2, 1, 0]), (ob 19 (cl 35 [(tp 17), (tp 18)]), [17, 18], []), (ob 20 (bn .eql 4 16 19), [16, 19], []), (mt 21 20, [20], []), (og 21 true 22 (.load 56 true 15 (tp 3)), [3, 21], []), (og 21 true 23 (.load 56 true 15 (tp 2)), [2, 21], [8]), (og 21 true 24 (cl 49 [(tp 22), (tp 23)]), [22, 23, 21], []), (og 21 true 25 (.load 56 true 15 (tp 2)), [2, 21], [10, 9, 8]), (og 21 true 26 (.load 56 true 15 (tp 3)), [3, 21], [11, 10, 9, 8]), (og 21 true 27 (cl 49 [(tp 25), (tp 26)]), [25, 26, 21], []), (og 21 true 28 (bn .eql 4 24 27), [24, 27, 21], []), (ob 29 (pk 21 28), [21, 28], []), (mt 30 29, [29], []), (og 30 true 31 (.load 56 true 15 (tp 2)), [2, 30], []), (og 30 true 32 (.load 56 true 15 (tp 2)), [2, 30], [17]), (og 30 true 33 (cl 49 [(tp 31), (tp 32)]), [31, 32, 30], []), (ob 34 (pk 30 33), [30, 33], []), (mt 35 34, [34], []), (og 35 true 36 (cl 32 []), [35], []), (ob 37 (pk 35 36), [35, 36], []), (mt 4 37, [37], [])])
 .ret))), [.tmp 4], false⟩
def b30_0 : PCode := (.seq (iff [mt 4 3, mt 5 0, ob 6 (.len false (tp 5)), ob 7 (bn .lss 3 4 6), mt 8 7, gt 8 true 9 3, og 8 true 10 (bi .leq 9 514), ob 11 (pk 8 10)] 11
 .skip
 (.exit 0))
 (.seq (.block 1 (iff [mt 14 0, mt 15 3, ob 16 (.iaddr 1 (tp 14) (tp 15)), ob 17 (.load 9 false 1 (tp 16)), ob 18 (cl 72 [(tp 17)]), ob 19 (.un .not (tp 18))] 19
 (sr [mk 2 (.bool false)]
 .ret)
 .skip))
 (.reg [mt 12 3, ob 13 (bi .add 12 1), mt 3 13])))
def r30_0 : PCode := (sr [mt 20 0, ob 21 (.len false (tp 20)), ob 22 (bi .leq 21 514), mt 2 22]
 .ret)
/-- jobshell/jobshellref33.Brief -/
def p30 : PFn := ⟨23, (sr [mk 2 (.bool false)]
 (.seq (sr [mk 3 (.int .i64 0)]
 (.block 0 (.loop b30_0))) r30_0)), [.tmp 2], false⟩
/-- jobshell/jobshellref33.Same -/
def p35 : PFn := ⟨99, (sr [ob 2 (.box 56 (tp 0)), ob 3 (.box 56 (tp 1)), mk 4 (.bool false)]
 (.seq (iff [ob 5 (.faddr 0 (tp 2)), ob 6 (.load 9 false 1 (tp 5)), ob 7 (.faddr 0 (tp 3)), ob 8 (.load 9 false 1 (tp 7)), ob 9 (bn .neq 9 6 8), mt 10 9, og 10 false 11 (.faddr 6 (tp 2)), og 10 false 12 (.load 3 false 1 (tp 11)), og 10 false 13 (.faddr 6 (tp 3)), og 10 false 14 (.load 3 false 1 (tp 13)), og 10 false 15 (bn .neq 3 12 14), ob 16 (po 10 15), mt 17 16, og 17 false 18 (.faddr 7 (tp 2)), og 17 false 19 (.load 3 false 1 (tp 18)), og 17 false 20 (.faddr 7 (tp 3)), og 17 false 21 (.load 3 false 1 (tp 20)), og 17 false 22 (bn .neq 3 19 21), ob 23 (po 17 22), mt 24 23, og 24 false 25 (.faddr 8 (tp 2)), og 24 false 26 (.load 3 false 1 (tp 25)), og 24 false 27 (.faddr 8 (tp 3)), og 24 false 28 (.load 3 false 1 (tp 27)), og 24 false 29 (bn .neq 3 26 28), ob 30 (po 24 29), mt 31 30, og 31 false 32 (.faddr 9 (tp 2)), og 31 false 33 (.load 3 false 1 (tp 32)), og 31 false 34 (.faddr 9 (tp 3)), og 31 false 35 (.load 3 false 1 (tp 34)), og 31 false 36 (bn .neq 3 33 35), ob 37 (po 31 36), mt 38 37, og 38 false 39 (.faddr 10 (tp 2)), og 38 false 40 (.load 9 false 1 (tp 39)), og 38 false 41 (.faddr 10 (tp 3)), og 38 false 42 (.load 9 false 1 (tp 41)), og 38 false 43 (bn .neq 9 40 42), ob 44 (po 38 43), mt 45 44, og 45 false 46 (.faddr 11 (tp 2)), og 45 false 47 (.load 54 true 2 (tp 46)), og 45 false 48 (.faddr 11 (tp 3)), og 45 false 49 (.load 54 true 2 (tp 48)), og 45 false 50 (bn .neq 54 47 49), ob 51 (po 45 50), mt 52 51, og 52 false 53 (.faddr 13 (tp 2)), og 52 false 54 (.load 3 false 1 (tp 53)), og 52 false 55 (.faddr 13 (tp 3)), og 52 false 56 (.load 3 false 1 (tp 55)), og 52 false 57 (bn .neq 3 54 56), ob 58 (po 52 57), mt 59 58, og 59 false 60 (.faddr 14 (tp 2)), og 59 false 61 (.load 4 false 1 (tp 60)), og 59 false 62 (.faddr 14 (tp 3)), og 59 false 63 (.load 4 false 1 (tp 62)), og 59 false 64 (bn .neq 4 61 63), ob 65 (po 59 64)] 65
 (sr [mk 4 (.bool false)]
 .ret)
 .skip)
 (sr [ob 66 (.faddr 1 (tp 2)), ob 67 (.load 49 false 1 (tp 66)), ob 68 (.faddr 1 (tp 3)), ob 69 (.load 49 false 1 (tp 68)), ob 70 (cl 42 [(tp 67), (tp 69)]), mt 71 70, og 71 true 72 (.faddr 2 (tp 2)), og 71 true 73 (.load 47 false 1 (tp 72)), og 71 true 74 (.faddr 2 (tp 3)), og 71 true 75 (.load 47 false 1 (tp 74)), og 71 true 76 (cl 43 [(tp 73), (tp 75)]), ob 77 (pk 71 76), mt 78 77, og 78 true 79 (.faddr 3 (tp 2)), og 78 true 80 (.load 50 false 1 (tp 79)), og 78 true 81 (.faddr 3 (tp 3)), og 78 true 82 (.load 50 false 1 (tp 81)), og 78 true 83 (cl 82 [(tp 80), (tp 82)]), ob 84 (pk 78 83), mt 85 84, og 85 true 86 (.faddr 4 (tp 2)), og 85 true 87 (.load 51 false 1 (tp 86)), og 85 true 88 (.faddr 4 (tp 3)), og 85 true 89 (.load 51 false 1 (tp 88)), og 85 true 90 (cl 44 [(tp 87), (tp 89)]), ob 91 (pk 85 90), mt 92 91, og 92 true 93 (.faddr 5 (tp 2)), og 92 true 94 (.load 52 false 1 (tp 93)), og 92 true 95 (.faddr 5 (tp 3)), og 92 true 96 (.load 52 false 1 (tp 95)), og 92 true 97 (cl 83 [(tp 94), (tp 96)]), ob 98 (pk 92 97), mt 4 98]
 .ret))), [.tmp 4], false⟩
def b37_0 : PCode := (.seq (iff [mt 44 4, ob 45 (.faddr 3 (tp 1)), ob 46 (.load 50 false 1 (tp 45)), ob 47 (.len false (tp 46)), ob 48 (bn .lss 3 44 47), mt 49 48, gt 49 true 50 3, og 49 true 51 (bi .leq 50 2000), ob 52 (pk 49 51)] 52
 .skip
 (.exit 0))
 (.seq (.block 1 (.reg [mt 55 3, ob 56 (.faddr 3 (tp 1)), ob 57 (.load 50 false 1 (tp 56)), mt 58 4, ob 59 (.iaddr 10 (tp 57) (tp 58)), ob 60 (.faddr 1 (tp 59)), ob 61 (.load 28 true 9 (tp 60)), ob 62 (cl 15 [(tp 61)]), ob 63 (bn .add 3 55 62), mt 3 63]))
 (.reg [mt 53 4, ob 54 (bi .add 53 1), mt 4 54])))
def b37_1 : PCode := (.seq (iff [mt 64 5, ob 65 (.faddr 4 (tp 1)), ob 66 (.load 51 false 1 (tp 65)), ob 67 (.len false (tp 66)), ob 68 (bn .lss 3 64 67)] 68
 .skip
 (.exit 2))
 (.seq (.block 3 (iff [ob 71 (.faddr 4 (tp 1)), ob 72 (.load 51 false 1 (tp 71)), mt 73 5, ob 74 (.iaddr 2 (tp 72) (tp 73)), ob 75 (.faddr 1 (tp 74)), ob 76 (.load 9 false 1 (tp 75)), ob 77 (cl 72 [(tp 76)]), ob 78 (.un .not (tp 77))] 78
 (sr [mk 2 (.bool false)]
 .ret)
 .skip))
 (.reg [mt 69 5, ob 70 (bi .add 69 1), mt 5 70])))
def r37_0 : PCode := (sr [mt 79 3, ob 80 (bi .leq 79 2000), mt 2 80]
 .ret)
def r37_1 : PCode := (.seq (sr [mk 5 (.int .i64 0)]
 (.block 2 (.loop b37_1))) r37_0)
/-- jobshell/jobshellref33.Small -/
def p37 : PFn := ⟨81, (sr [ob 1 (.box 56 (tp 0)), mk 2 (.bool false)]
 (.seq (iff [ob 6 (.faddr 1 (tp 1)), ob 7 (.load 49 false 1 (tp 6)), ob 8 (cl 89 [(tp 7)]), ob 9 (.un .not (tp 8)), mt 10 9, og 10 false 11 (.faddr 2 (tp 1)), og 10 false 12 (.load 47 false 1 (tp 11)), og 10 false 13 (cl 30 [(tp 12)]), og 10 false 14 (.un .not (tp 13)), ob 15 (po 10 14), mt 16 15, og 16 false 17 (.faddr 0 (tp 1)), og 16 false 18 (.load 9 false 1 (tp 17)), og 16 false 19 (cl 72 [(tp 18)]), og 16 false 20 (.un .not (tp 19)), ob 21 (po 16 20)] 21
 (sr [mk 2 (.bool false)]
 .ret)
 .skip)
 (.seq (iff [ob 22 (.faddr 3 (tp 1)), ob 23 (.load 50 false 1 (tp 22)), ob 24 (.len false (tp 23)), ob 25 (bi .gtr 24 66), mt 26 25, og 26 false 27 (.faddr 4 (tp 1)), og 26 false 28 (.load 51 false 1 (tp 27)), og 26 false 29 (.len false (tp 28)), og 26 false 30 (bi .gtr 29 66), ob 31 (po 26 30), mt 32 31, og 32 false 33 (.faddr 5 (tp 1)), og 32 false 34 (.load 52 false 1 (tp 33)), og 32 false 35 (.len false (tp 34)), og 32 false 36 (bi .gtr 35 25), ob 37 (po 32 36), mt 38 37, og 38 false 39 (.faddr 10 (tp 1)), og 38 false 40 (.load 9 false 1 (tp 39)), og 38 false 41 (.len true (tp 40)), og 38 false 42 (bi .gtr 41 300), ob 43 (po 38 42)] 43
 (sr [mk 2 (.bool false)]
 .ret)
 .skip)
 (sr [mk 3 (.int .i64 0)]
 (.seq (sr [mk 4 (.int .i64 0)]
 (.block 0 (.loop b37_0))) r37_1))))), [.tmp 2], false⟩
def b42_0 : PCode := (.seq (iff [mt 11 5, mt 12 0, ob 13 (.len false (tp 12)), ob 14 (bn .lss 3 11 13)] 14
 .skip
 (.exit 0))
 (.seq (.block 1 (.seq (.draw [(mt 17 0, [0], []), (mt 18 5, [5], [0]), (ob 19 (.iaddr 5 (tp 17) (tp 18)), [17, 18], []), (ob 20 (.load 99 true 5 (tp 19)), [19], []), (mt 21 1, [1], [3, 2, 1, 0]), (mt 22 5, [5], [4, 3, 2, 1, 0]), (ob 23 (.iaddr 5 (tp 21) (tp 22)), [21, 22], [3, 2, 1, 0]), (ob 24 (.load 99 true 5 (tp 23)), [23], [3, 2, 1, 0]), (ob 25 (bn .neq 99 20 24), [20, 24], [])])
 (.cond (tp 25)
 (sr [mk 4 (.bool false)]
 .ret)
 .skip)))
 (.reg [mt 15 5, ob 16 (bi .add 15 1), mt 5 16])))
def r42_0 : PCode := (sr [mk 4 (.bool true)]
 .ret)
/-- jobshell/jobshellref15.Same -/
def p42 : PFn := ⟨26, (sr [mk 4 (.bool false)]
 (.seq (iff [mt 6 0, ob 7 (.len false (tp 6)), mt 8 1, ob 9 (.len false (tp 8)), ob 10 (bn .neq 3 7 9)] 10
 (sr [mk 4 (.bool false)]
 .ret)
 .skip)
 (.seq (sr [mk 5 (.int .i64 0)]
 (.block 0 (.loop b42_0))) r42_0))), [.tmp 4], false⟩
def b43_0 : PCode := (.seq (iff [mt 11 5, mt 12 0, ob 13 (.len false (tp 12)), ob 14 (bn .lss 3 11 13)] 14
 .skip
 (.exit 0))
 (.seq (.block 1 (.seq (.draw [(mt 17 0, [0], []), (mt 18 5, [5], [0]), (ob 19 (.iaddr 1 (tp 17) (tp 18)), [17, 18], []), (ob 20 (.load 9 false 1 (tp 19)), [19], []), (mt 21 1, [1], [3, 2, 1, 0]), (mt 22 5, [5], [4, 3, 2, 1, 0]), (ob 23 (.iaddr 1 (tp 21) (tp 22)), [21, 22], [3, 2, 1, 0]), (ob 24 (.load 9 false 1 (tp 23)), [23], [3, 2, 1, 0]), (ob 25 (bn .neq 9 20 24), [20, 24], [])])
 (.cond (tp 25)
 (sr [mk 4 (.bool false)]
 .ret)
 .skip)))
 (.reg [mt 15 5, ob 16 (bi .add 15 1), mt 5 16])))
def r43_0 : PCode := (sr [mk 4 (.bool true)]
 .ret)
/-- jobshell/jobshellref03.SameTexts -/
def p43 : PFn := ⟨26, (sr [mk 4 (.bool false)]
 (.seq (iff [mt 6 0, ob 7 (.len false (tp 6)), mt 8 1, ob 9 (.len false (tp 8)), ob 10 (bn .neq 3 7 9)] 10
 (sr [mk 4 (.bool false)]
 .ret)
 .skip)
 (.seq (sr [mk 5 (.int .i64 0)]
 (.block 0 (.loop b43_0))) r43_0))), [.tmp 4], false⟩
def b44_0 : PCode := (.seq (iff [mt 11 5, mt 12 0, ob 13 (.len false (tp 12)), ob 14 (bn .lss 3 11 13)] 14
 .skip
 (.exit 0))
 (.seq (.block 1 (.seq (.draw [(mt 17 0, [0], []), (mt 18 5, [5], [0]), (ob 19 (.iaddr 2 (tp 17) (tp 18)), [17, 18], []), (ob 20 (.load 123 true 2 (tp 19)), [19], []), (mt 21 1, [1], [3, 2, 1, 0]), (mt 22 5, [5], [4, 3, 2, 1, 0]), (ob 23 (.iaddr 2 (tp 21) (tp 22)), [21, 22], [3, 2, 1, 0]), (ob 24 (.load 123 true 2 (tp 23)), [23], [3, 2, 1, 0]), (ob 25 (bn .neq 123 20 24), [20, 24], [])])
 (.cond (tp 25)
 (sr [mk 4 (.bool false)]
 .ret)
 .skip)))
 (.reg [mt 15 5, ob 16 (bi .add 15 1), mt 5 16])))
def r44_0 : PCode := (sr [mk 4 (.bool true)]
 .ret)
/-- jobshell/jobshellref09.Same -/
def p44 : PFn := ⟨26, (sr [mk 4 (.bool false)]
 (.seq (iff [mt 6 0, ob 7 (.len false (tp 6)), mt 8 1, ob 9 (.len false (tp 8)), ob 10 (bn .neq 3 7 9)] 10
 (sr [mk 4 (.bool false)]
 .ret)
 .skip)
 (.seq (sr [mk 5 (.int .i64 0)]
 (.block 0 (.loop b44_0))) r44_0))), [.tmp 4], false⟩
/-- jobshell/env.Same -/
def p49 : PFn := ⟨103, (sr [ob 2 (.box 56 (tp 0)), ob 3 (.box 56 (tp 1)), mk 4 (.bool false)]
 (sr [ob 5 (.mv (.func 100))]
 (sr [ob 6 (.faddr 0 (tp 2)), ob 7 (.load 9 false 1 (tp 6)), ob 8 (.faddr 0 (tp 3)), ob 9 (.load 9 false 1 (tp 8)), ob 10 (bn .eql 9 7 9), mt 11 10, og 11 true 12 (.faddr 1 (tp 2)), og 11 true 13 (.load 49 false 1 (tp 12)), og 11 true 14 (.faddr 1 (tp 3)), og 11 true 15 (.load 49 false 1 (tp 14)), og 11 true 16 (cl 101 [(tp 13), (tp 15)]), ob 17 (pk 11 16), mt 18 17, og 18 true 19 (.faddr 2 (tp 2)), og 18 true 20 (.load 47 false 1 (tp 19)), og 18 true 21 (.faddr 2 (tp 3)), og 18 true 22 (.load 47 false 1 (tp 21)), og 18 true 23 (cl 102 [(tp 20), (tp 22)]), ob 24 (pk 18 23), mt 25 24, og 25 true 26 (.faddr 3 (tp 2)), og 25 true 27 (.load 50 false 1 (tp 26)), og 25 true 28 (.faddr 3 (tp 3)), og 25 true 29 (.load 50 false 1 (tp 28)), gt 25 true 30 5, og 25 true 31 (cl 103 [(tp 27), (tp 29), (tp 30)]), ob 32 (pk 25 31), mt 33 32, og 33 true 34 (.faddr 4 (tp 2)), og 33 true 35 (.load 51 false 1 (tp 34)), og 33 true 36 (.faddr 4 (tp 3)), og 33 true 37 (.load 51 false 1 (tp 36)), og 33 true 38 (cl 104 [(tp 35), (tp 37)]), ob 39 (pk 33 38), mt 40 39, og 40 true 41 (.faddr 5 (tp 2)), og 40 true 42 (.load 52 false 1 (tp 41)), og 40 true 43 (.faddr 5 (tp 3)), og 40 true 44 (.load 52 false 1 (tp 43)), og 40 true 45 (cl 105 [(tp 42), (tp 44)]), ob 46 (pk 40 45), mt 47 46, og 47 true 48 (.faddr 6 (tp 2)), og 47 true 49 (.load 3 false 1 (tp 48)), og 47 true 50 (.faddr 6 (tp 3)), og 47 true 51 (.load 3 false 1 (tp 50)), og 47 true 52 (bn .eql 3 49 51), ob 53 (pk 47 52), mt 54 53, og 54 true 55 (.faddr 7 (tp 2)), og 54 true 56 (.load 3 false 1 (tp 55)), og 54 true 57 (.faddr 7 (tp 3)), og 54 true 58 (.load 3 false 1 (tp 57)), og 54 true 59 (bn .eql 3 56 58), ob 60 (pk 54 59), mt 61 60, og 61 true 62 (.faddr 8 (tp 2)), og 61 true 63 (.load 3 false 1 (tp 62)), og 61 true 64 (.faddr 8 (tp 3)), og 61 true 65 (.load 3 false 1 (tp 64)), og 61 true 66 (bn .eql 3 63 65), ob 67 (pk 61 66), mt 68 67, og 68 true 69 (.faddr 9 (tp 2)), og 68 true 70 (.load 3 false 1 (tp 69)), og 68 true 71 (.faddr 9 (tp 3)), og 68 true 72 (.load 3 false 1 (tp 71)), og 68 true 73 (bn .eql 3 70 72), ob 74 (pk 68 73), mt 75 74, og 75 true 76 (.faddr 10 (tp 2)), og 75 true 77 (.load 9 false 1 (tp 76)), og 75 true 78 (.faddr 10 (tp 3)), og 75 true 79 (.load 9 false 1 (tp 78)), og 75 true 80 (bn .eql 9 77 79), ob 81 (pk 75 80), mt 82 81, og 82 true 83 (.faddr 11 (tp 2)), og 82 true 84 (.load 54 true 2 (tp 83)), og 82 true 85 (.faddr 11 (tp 3)), og 82 true 86 (.load 54 true 2 (tp 85)), og 82 true 87 (bn .eql 54 84 86), ob 88 (pk 82 87), mt 89 88, og 89 true 90 (.faddr 13 (tp 2)), og 89 true 91 (.load 3 false 1 (tp 90)), og 89 true 92 (.faddr 13 (tp 3)), og 89 true 93 (.load 3 false 1 (tp 92)), og 89 true 94 (bn .eql 3 91 93), ob 95 (pk 89 94), mt 96 95, og 96 true 97 (.faddr 14 (tp 2)), og 96 true 98 (.load 4 false 1 (tp 97)), og 96 true 99 (.faddr 14 (tp 3)), og 96 true 100 (.load 4 false 1 (tp 99)), og 96 true 101 (bn .eql 4 98 100), ob 102 (pk 96 101), mt 4 102]
 .ret))), [.tmp 4], false⟩
/-- jobshell/jobshellref33.short -/
def p72 : PFn := ⟨11, (sr [mk 2 (.bool false)]
 (sr [mt 3 0, ob 4 (.len true (tp 3)), ob 5 (bi .leq 4 60), mt 6 5, gt 6 false 7 0, og 6 false 8 (.len true (tp 7)), og 6 false 9 (bi .gtr 8 4096), ob 10 (po 6 9), mt 2 10]
 .ret)), [.tmp 2], false⟩
def b82_0 : PCode := (.seq (iff [mt 11 5, mt 12 0, ob 13 (.len false (tp 12)), ob 14 (bn .lss 3 11 13)] 14
 .skip
 (.exit 0))
 (.seq (.block 1 (.seq (.draw [(mt 17 0, [0], []), (mt 18 5, [5], [0]), (ob 19 (.iaddr 10 (tp 17) (tp 18)), [17, 18], []), (ob 20 (.faddr 0 (tp 19)), [19], []), (ob 21 (.load 9 false 1 (tp 20)), [20], []), (mt 22 1, [1], [4, 3, 2, 1, 0]), (mt 23 5, [5], [5, 4, 3, 2, 1, 0]), (ob 24 (.iaddr 10 (tp 22) (tp 23)), [22, 23], [4, 3, 2, 1, 0]), (ob 25 (.faddr 0 (tp 24)), [24], [4, 3, 2, 1, 0]), (ob 26 (.load 9 false 1 (tp 25)), [25], [4, 3, 2, 1, 0]), (ob 27 (bn .neq 9 21 26), [21, 26], []), (mt 28 27, [27], []), (gt 28 false 29 0, [0, 28], []), (gt 28 false 30 5, [5, 28], [12]), (og 28 false 31 (.iaddr 10 (tp 29) (tp 30)), [29, 30, 28], []), (og 28 false 32 (.faddr 1 (tp 31)), [31, 28], []), (og 28 false 33 (.load 28 true 9 (tp 32)), [32, 28], []), (gt 28 false 34 1, [1, 28], [16, 15, 14, 13, 12]), (gt 28 false 35 5, [5, 28], [17, 16, 15, 14, 13, 12]), (og 28 false 36 (.iaddr 10 (tp 34) (tp 35)), [34, 35, 28], [16, 15, 14, 13, 12]), (og 28 false 37 (.faddr 1 (tp 36)), [36, 28], [16, 15, 14, 13, 12]), (og 28 false 38 (.load 28 true 9 (tp 37)), [37, 28], [16, 15, 14, 13, 12]), (og 28 false 39 (cl 56 [(tp 33), (tp 38)]), [33, 38, 28], []), (og 28 false 40 (.un .not (tp 39)), [39, 28], []), (ob 41 (po 28 40), [28, 40], [])])
 (.cond (tp 41)
 (sr [mk 4 (.bool false)]
 .ret)
 .skip)))
 (.reg [mt 15 5, ob 16 (bi .add 15 1), mt 5 16])))
def r82_0 : PCode := (sr [mk 4 (.bool true)]
 .ret)
/-- jobshell/jobshellref33.sameFuncs -/
def p82 : PFn := ⟨42, (sr [mk 4 (.bool false)]
 (.seq (iff [mt 6 0, ob 7 (.len false (tp 6)), mt 8 1, ob 9 (.len false (tp 8)), ob 10 (bn .neq 3 7 9)] 10
 (sr [mk 4 (.bool false)]
 .ret)
 .skip)
 (.seq (sr [mk 5 (.int .i64 0)]
 (.block 0 (.loop b82_0))) r82_0))), [.tmp 4], false⟩
def b83_0 : PCode := (.seq (iff [mt 11 5, mt 12 0, ob 13 (.len false (tp 12)), ob 14 (bn .lss 3 11 13)] 14
 .skip
 (.exit 0))
 (.seq (.block 1 (.seq (.draw [(mt 17 0, [0], []), (mt 18 5, [5], [0]), (ob 19 (.iaddr 2 (tp 17) (tp 18)), [17, 18], []), (ob 20 (.load 101 true 2 (tp 19)), [19], []), (mt 21 1, [1], [3, 2, 1, 0]), (mt 22 5, [5], [4, 3, 2, 1, 0]), (ob 23 (.iaddr 2 (tp 21) (tp 22)), [21, 22], [3, 2, 1, 0]), (ob 24 (.load 101 true 2 (tp 23)), [23], [3, 2, 1, 0]), (ob 25 (bn .neq 101 20 24), [20, 24], [])])
 (.cond (tp 25)
 (sr [mk 4 (.bool false)]
 .ret)
 .skip)))
 (.reg [mt 15 5, ob 16 (bi .add 15 1), mt 5 16])))
def r83_0 : PCode := (sr [mk 4 (.bool true)]
 .ret)
/-- jobshell/jobshellref33.sameTraps -/
def p83 : PFn := ⟨26, (sr [mk 4 (.bool false)]
 (.seq (iff [mt 6 0, ob 7 (.len false (tp 6)), mt 8 1, ob 9 (.len false (tp 8)), ob 10 (bn .neq 3 7 9)] 10
 (sr [mk 4 (.bool false)]
 .ret)
 .skip)
 (.seq (sr [mk 5 (.int .i64 0)]
 (.block 0 (.loop b83_0))) r83_0))), [.tmp 4], false⟩
def b89_0 : PCode := (.seq (iff [mt 4 3, mt 5 0, ob 6 (.len false (tp 5)), ob 7 (bn .lss 3 4 6), mt 8 7, gt 8 true 9 3, og 8 true 10 (bi .leq 9 130), ob 11 (pk 8 10)] 11
 .skip
 (.exit 0))
 (.seq (.block 1 (iff [mt 14 0, mt 15 3, ob 16 (.iaddr 5 (tp 14) (tp 15)), ob 17 (.faddr 0 (tp 16)), ob 18 (.load 9 false 1 (tp 17)), ob 19 (.len true (tp 18)), ob 20 (bi .gtr 19 60), mt 21 20, gt 21 false 22 0, gt 21 false 23 3, og 21 false 24 (.iaddr 5 (tp 22) (tp 23)), og 21 false 25 (.faddr 1 (tp 24)), og 21 false 26 (.load 9 false 1 (tp 25)), og 21 false 27 (.len true (tp 26)), og 21 false 28 (bi .gtr 27 60), gt 21 false 29 28, gt 29 true 30 0, gt 29 true 31 3, og 29 true 32 (.iaddr 5 (tp 30) (tp 31)), og 29 true 33 (.faddr 1 (tp 32)), og 29 true 34 (.load 9 false 1 (tp 33)), og 29 true 35 (.len true (tp 34)), og 29 true 36 (bi .leq 35 4096), og 21 false 37 (pk 29 36), ob 38 (po 21 37)] 38
 (sr [mk 2 (.bool false)]
 .ret)
 .skip))
 (.reg [mt 12 3, ob 13 (bi .add 12 1), mt 3 13])))
def r89_0 : PCode := (sr [mt 39 0, ob 40 (.len false (tp 39)), ob 41 (bi .leq 40 130), mt 2 41]
 .ret)
/-- jobshell/jobshellref15.Small -/
def p89 : PFn := ⟨42, (sr [mk 2 (.bool false)]
 (.seq (sr [mk 3 (.int .i64 0)]
 (.block 0 (.loop b89_0))) r89_0)), [.tmp 2], false⟩
/-- jobshell/env.Same$1 -/
def p100 : PFn := ⟨17, (sr [ob 2 (.box 121 (tp 0)), ob 3 (.box 121 (tp 1)), mk 4 (.bool false)]
 (sr [ob 5 (.faddr 0 (tp 2)), ob 6 (.load 9 false 1 (tp 5)), ob 7 (.faddr 0 (tp 3)), ob 8 (.load 9 false 1 (tp 7)), ob 9 (bn .eql 9 6 8), mt 10 9, og 10 true 11 (.faddr 1 (tp 2)), og 10 true 12 (.load 28 true 9 (tp 11)), og 10 true 13 (.faddr 1 (tp 3)), og 10 true 14 (.load 28 true 9 (tp 13)), og 10 true 15 (cl 60 [(tp 12), (tp 14)]), ob 16 (pk 10 15), mt 4 16]
 .ret)), [.tmp 4], false⟩
def b101_0 : PCode := (sr [ob 14 (bn .lss 3 13 12)]
 (.seq (.cond (tp 14)
 .skip
 (.exit 0))
 (.seq (.block 1 (sr [mt 15 13, mt 5 15]
 (.seq (.draw [(mt 16 0, [0], []), (mt 17 5, [5], [0]), (ob 18 (.iaddr 5 (tp 16) (tp 17)), [16, 17], []), (ob 19 (.load 99 true 5 (tp 18)), [18], []), (mt 20 1, [1], [3, 2, 1, 0]), (mt 21 5, [5], [4, 3, 2, 1, 0]), (ob 22 (.iaddr 5 (tp 20) (tp 21)), [20, 21], [3, 2, 1, 0]), (ob 23 (.load 99 true 5 (tp 22)), [22], [3, 2, 1, 0]), (ob 24 (bn .neq 99 19 23), [19, 23], [])])
 (.cond (tp 24)
 (sr [mk 4 (.bool false)]
 .ret)
 .skip))))
 (.reg [ob 25 (bi .add 13 1), mt 13 25]))))
def r101_0 : PCode := (sr [mk 4 (.bool true)]
 .ret)
/-- slices.Equal[[]jobshell/api.Var,jobshell/api.Var] -/
def p101 : PFn := ⟨26, (sr [mk 4 (.bool false)]
 (.seq (iff [mt 6 0, ob 7 (.len false (tp 6)), mt 8 1, ob 9 (.len false (tp 8)), ob 10 (bn .neq 3 7 9)] 10
 (sr [mk 4 (.bool false)]
 .ret)
 .skip)
 (.seq (sr [mt 11 0, ob 12 (.len false (tp 11)), mk 13 (.int .i64 0)]
 (.block 0 (.loop b101_0))) r101_0))), [.tmp 4], false⟩
def b102_0 : PCode := (sr [ob 14 (bn .lss 3 13 12)]
 (.seq (.cond (tp 14)
 .skip
 (.exit 0))
 (.seq (.block 1 (sr [mt 15 13, mt 5 15]
 (.seq (.draw [(mt 16 0, [0], []), (mt 17 5, [5], [0]), (ob 18 (.iaddr 1 (tp 16) (tp 17)), [16, 17], []), (ob 19 (.load 9 false 1 (tp 18)), [18], []), (mt 20 1, [1], [3, 2, 1, 0]), (mt 21 5, [5], [4, 3, 2, 1, 0]), (ob 22 (.iaddr 1 (tp 20) (tp 21)), [20, 21], [3, 2, 1, 0]), (ob 23 (.load 9 false 1 (tp 22)), [22], [3, 2, 1, 0]), (ob 24 (bn .neq 9 19 23), [19, 23], [])])
 (.cond (tp 24)
 (sr [mk 4 (.bool false)]
 .ret)
 .skip))))
 (.reg [ob 25 (bi .add 13 1), mt 13 25]))))
def r102_0 : PCode := (sr [mk 4 (.bool true)]
 .ret)
/-- slices.Equal[[]string,string] -/
def p102 : PFn := ⟨26, (sr [mk 4 (.bool false)]
 (.seq (iff [mt 6 0, ob 7 (.len false (tp 6)), mt 8 1, ob 9 (.len false (tp 8)), ob 10 (bn .neq 3 7 9)] 10
 (sr [mk 4 (.bool false)]
 .ret)
 .skip)
 (.seq (sr [mt 11 0, ob 12 (.len false (tp 11)), mk 13 (.int .i64 0)]
 (.block 0 (.loop b102_0))) r102_0))), [.tmp 4], false⟩
def b103_0 : PCode := (sr [ob 18 (bn .lss 3 17 16)]
 (.seq (.cond (tp 18)
 .skip
 (.exit 0))
 (.seq (.block 1 (sr [mt 19 17, ob 20 (.iaddr 10 (tp 15) (tp 17)), ob 21 (.load 121 true 10 (tp 20)), ob 8 (.alloc 121 (.agg #[(.string ⟨#[]⟩), (.int .i64 0), (.int .i64 0), (.string ⟨#[]⟩), (.bool false), (.slice none 0 0), (.slice none 0 0), (.slice none 0 0), (.slice none 0 0), (.slice none 0 0)])), mt 7 19, o0 (.store 121 10 (tp 8) (tp 21))]
 (sr [mt 22 1, mt 23 7, ob 24 (.iaddr 10 (tp 22) (tp 23)), ob 25 (.load 121 true 10 (tp 24)), ob 9 (.alloc 121 (.agg #[(.string ⟨#[]⟩), (.int .i64 0), (.int .i64 0), (.string ⟨#[]⟩), (.bool false), (.slice none 0 0), (.slice none 0 0), (.slice none 0 0), (.slice none 0 0), (.slice none 0 0)])), o0 (.store 121 10 (tp 9) (tp 25))]
 (iff [mt 26 2, ob 27 (.load 121 true 10 (tp 8)), ob 28 (.load 121 true 10 (tp 9)), ob 29 (.call (tp 26) [(tp 27), (tp 28)]), ob 30 (.un .not (tp 29))] 30
 (sr [mk 6 (.bool false)]
 .ret)
 .skip))))
 (.reg [ob 31 (bi .add 17 1), mt 17 31]))))
def r103_0 : PCode := (sr [mk 6 (.bool true)]
 .ret)
/-- slices.EqualFunc[[]jobshell/api.Func,[]jobshell/api.Func,jobshell/api.Func,jobshell/api.Func] -/
def p103 : PFn := ⟨32, (sr [mk 6 (.bool false)]
 (.seq (iff [mt 10 0, ob 11 (.len false (tp 10)), mt 12 1, ob 13 (.len false (tp 12)), ob 14 (bn .neq 3 11 13)] 14
 (sr [mk 6 (.bool false)]
 .ret)
 .skip)
 (.seq (sr [mt 15 0, ob 16 (.len false (tp 15)), mk 17 (.int .i64 0)]
 (.block 0 (.loop b103_0))) r103_0))), [.tmp 6], false⟩
def b104_0 : PCode := (sr [ob 14 (bn .lss 3 13 12)]
 (.seq (.cond (tp 14)
 .skip
 (.exit 0))
 (.seq (.block 1 (sr [mt 15 13, mt 5 15]
 (.seq (.draw [(mt 16 0, [0], []), (mt 17 5, [5], [0]), (ob 18 (.iaddr 2 (tp 16) (tp 17)), [16, 17], []), (ob 19 (.load 123 true 2 (tp 18)), [18], []), (mt 20 1, [1], [3, 2, 1, 0]), (mt 21 5, [5], [4, 3, 2, 1, 0]), (ob 22 (.iaddr 2 (tp 20) (tp 21)), [20, 21], [3, 2, 1, 0]), (ob 23 (.load 123 true 2 (tp 22)), [22], [3, 2, 1, 0]), (ob 24 (bn .neq 123 19 23), [19, 23], [])])
 (.cond (tp 24)
 (sr [mk 4 (.bool false)]
 .ret)
 .skip))))
 (.reg [ob 25 (bi .add 13 1), mt 13 25]))))
def r104_0 : PCode := (sr [mk 4 (.bool true)]
 .ret)
/-- slices.Equal[[]jobshell/api.Alias,jobshell/api.Alias] -/
def p104 : PFn := ⟨26, (sr [mk 4 (.bool false)]
 (.seq (iff [mt 6 0, ob 7 (.len false (tp 6)), mt 8 1, ob 9 (.len false (tp 8)), ob 10 (bn .neq 3 7 9)] 10
 (sr [mk 4 (.bool false)]
 .ret)
 .skip)
 (.seq (sr [mt 11 0, ob 12 (.len false (tp 11)), mk 13 (.int .i64 0)]
 (.block 0 (.loop b104_0))) r104_0))), [.tmp 4], false⟩
def b105_0 : PCode := (sr [ob 14 (bn .lss 3 13 12)]
 (.seq (.cond (tp 14)
 .skip
 (.exit 0))
 (.seq (.block 1 (sr [mt 15 13, mt 5 15]
 (.seq (.draw [(mt 16 0, [0], []), (mt 17 5, [5], [0]), (ob 18 (.iaddr 2 (tp 16) (tp 17)), [16, 17], []), (ob 19 (.load 101 true 2 (tp 18)), [18], []), (mt 20 1, [1], [3, 2, 1, 0]), (mt 21 5, [5], [4, 3, 2, 1, 0]), (ob 22 (.iaddr 2 (tp 20) (tp 21)), [20, 21], [3, 2, 1, 0]), (ob 23 (.load 101 true 2 (tp 22)), [22], [3, 2, 1, 0]), (ob 24 (bn .neq 101 19 23), [19, 23], [])])
 (.cond (tp 24)
 (sr [mk 4 (.bool false)]
 .ret)
 .skip))))
 (.reg [ob 25 (bi .add 13 1), mt 13 25]))))
def r105_0 : PCode := (sr [mk 4 (.bool true)]
 .ret)
/-- slices.Equal[[]jobshell/api.Trap,jobshell/api.Trap] -/
def p105 : PFn := ⟨26, (sr [mk 4 (.bool false)]
 (.seq (iff [mt 6 0, ob 7 (.len false (tp 6)), mt 8 1, ob 9 (.len false (tp 8)), ob 10 (bn .neq 3 7 9)] 10
 (sr [mk 4 (.bool false)]
 .ret)
 .skip)
 (.seq (sr [mt 11 0, ob 12 (.len false (tp 11)), mk 13 (.int .i64 0)]
 (.block 0 (.loop b105_0))) r105_0))), [.tmp 4], false⟩
end Go.Proofs.YtflfflfodghgpaaGreatDoor


namespace Go.Proofs.YtflfflfodghgpaaGreatDoor
open Go Go.EvL Go.PE
def Γ1 : Nat → Option PFn
  | 12 => some p12
  | 15 => some p15
  | 30 => some p30
  | 35 => some p35
  | 37 => some p37
  | 42 => some p42
  | 43 => some p43
  | 44 => some p44
  | 49 => some p49
  | 56 => some p56
  | 57 => some p57
  | 58 => some p58
  | 59 => some p59
  | 60 => some p60
  | 72 => some p72
  | 82 => some p82
  | 83 => some p83
  | 89 => some p89
  | 100 => some p100
  | 101 => some p101
  | 102 => some p102
  | _ => none
def Γ2 : Nat → Option PFn
  | 103 => some p103
  | 104 => some p104
  | 105 => some p105
  | 115 => some p115
  | 116 => some p116
  | 117 => some p117
  | 118 => some p118
  | 119 => some p119
  | 120 => some p120
  | 121 => some p121
  | 122 => some p122
  | 123 => some p123
  | 124 => some p124
  | 125 => some p125
  | 126 => some p126
  | 127 => some p127
  | 128 => some p128
  | 185 => some p185
  | 186 => some p186
  | 248 => some p248
  | 249 => some p249
  | _ => none
def Γ (g : Nat) : Option PFn := (Γ1 g).or (Γ2 g)
theorem c12 : compF Tryz.prog Tryz.f12 p12.keep = some p12 := by kernel_rfl
theorem c15 : compF Tryz.prog Tryz.f15 p15.keep = some p15 := by kernel_rfl
theorem c30 : compF Tryz.prog Tryz.f30 p30.keep = some p30 := by kernel_rfl
theorem c35 : compF Tryz.prog Tryz.f35 p35.keep = some p35 := by kernel_rfl
theorem c37 : compF Tryz.prog Tryz.f37 p37.keep = some p37 := by kernel_rfl
theorem c42 : compF Tryz.prog Tryz.f42 p42.keep = some p42 := by kernel_rfl
theorem c43 : compF Tryz.prog Tryz.f43 p43.keep = some p43 := by kernel_rfl
theorem c44 : compF Tryz.prog Tryz.f44 p44.keep = some p44 := by kernel_rfl
theorem c49 : compF Tryz.prog Tryz.f49 p49.keep = some p49 := by kernel_rfl
theorem c56 : compF Tryz.prog Tryz.f56 p56.keep = some p56 := by kernel_rfl
theorem c57 : compF Tryz.prog Tryz.f57 p57.keep = some p57 := by kernel_rfl
theorem c58 : compF Tryz.prog Tryz.f58 p58.keep = some p58 := by kernel_rfl
theorem c59 : compF Tryz.prog Tryz.f59 p59.keep = some p59 := by kernel_rfl
theorem c60 : compF Tryz.prog Tryz.f60 p60.keep = some p60 := by kernel_rfl
theorem c72 : compF Tryz.prog Tryz.f72 p72.keep = some p72 := by kernel_rfl
theorem c82 : compF Tryz.prog Tryz.f82 p82.keep = some p82 := by kernel_rfl
theorem c83 : compF Tryz.prog Tryz.f83 p83.keep = some p83 := by kernel_rfl
theorem c89 : compF Tryz.prog Tryz.f89 p89.keep = some p89 := by kernel_rfl
theorem c100 : compF Tryz.prog Tryz.f100 p100.keep = some p100 := by kernel_rfl
theorem c101 : compF Tryz.prog Tryz.f101 p101.keep = some p101 := by kernel_rfl
theorem c102 : compF Tryz.prog Tryz.f102 p102.keep = some p102 := by kernel_rfl
theorem c103 : compF Tryz.prog Tryz.f103 p103.keep = some p103 := by kernel_rfl
theorem c104 : compF Tryz.prog Tryz.f104 p104.keep = some p104 := by kernel_rfl
theorem c105 : compF Tryz.prog Tryz.f105 p105.keep = some p105 := by kernel_rfl
theorem c115 : compF Tryz.prog Tryz.f115 p115.keep = some p115 := by kernel_rfl
theorem c116 : compF Tryz.prog Tryz.f116 p116.keep = some p116 := by kernel_rfl
theorem c117 : compF Tryz.prog Tryz.f117 p117.keep = some p117 := by kernel_rfl
theorem c118 : compF Tryz.prog Tryz.f118 p118.keep = some p118 := by kernel_rfl
theorem c119 : compF Tryz.prog Tryz.f119 p119.keep = some p119 := by kernel_rfl
theorem c120 : compF Tryz.prog Tryz.f120 p120.keep = some p120 := by kernel_rfl
theorem c121 : compF Tryz.prog Tryz.f121 p121.keep = some p121 := by kernel_rfl
theorem c122 : compF Tryz.prog Tryz.f122 p122.keep = some p122 := by kernel_rfl
theorem c123 : compF Tryz.prog Tryz.f123 p123.keep = some p123 := by kernel_rfl
theorem c124 : compF Tryz.prog Tryz.f124 p124.keep = some p124 := by kernel_rfl
theorem c125 : compF Tryz.prog Tryz.f125 p125.keep = some p125 := by kernel_rfl
theorem c126 : compF Tryz.prog Tryz.f126 p126.keep = some p126 := by kernel_rfl
theorem c127 : compF Tryz.prog Tryz.f127 p127.keep = some p127 := by kernel_rfl
theorem c128 : compF Tryz.prog Tryz.f128 p128.keep = some p128 := by kernel_rfl
theorem c185 : compF Tryz.prog Tryz.f185 p185.keep = some p185 := by kernel_rfl
theorem c186 : compF Tryz.prog Tryz.f186 p186.keep = some p186 := by kernel_rfl
theorem c248 : compF Tryz.prog Tryz.f248 p248.keep = some p248 := by kernel_rfl
theorem c249 : compF Tryz.prog Tryz.f249 p249.keep = some p249 := by kernel_rfl
theorem tab1 : TabOK Tryz.prog Γ1 := by
  intro g pf h
  unfold Γ1 at h
  split at h
  all_goals first | cases h; done | injection h with h; subst h
  · exact ⟨_, _, Tryz.func12, c12⟩
  · exact ⟨_, _, Tryz.func15, c15⟩
  · exact ⟨_, _, Tryz.func30, c30⟩
  · exact ⟨_, _, Tryz.func35, c35⟩
  · exact ⟨_, _, Tryz.func37, c37⟩
  · exact ⟨_, _, Tryz.func42, c42⟩
  · exact ⟨_, _, Tryz.func43, c43⟩
  · exact ⟨_, _, Tryz.func44, c44⟩
  · exact ⟨_, _, Tryz.func49, c49⟩
  · exact ⟨_, _, Tryz.func56, c56⟩
  · exact ⟨_, _, Tryz.func57, c57⟩
  · exact ⟨_, _, Tryz.func58, c58⟩
  · exact ⟨_, _, Tryz.func59, c59⟩
  · exact ⟨_, _, Tryz.func60, c60⟩
  · exact ⟨_, _, Tryz.func72, c72⟩
  · exact ⟨_, _, Tryz.func82, c82⟩
  · exact ⟨_, _, Tryz.func83, c83⟩
  · exact ⟨_, _, Tryz.func89, c89⟩
  · exact ⟨_, _, Tryz.func100, c100⟩
  · exact ⟨_, _, Tryz.func101, c101⟩
  · exact ⟨_, _, Tryz.func102, c102⟩
theorem tab2 : TabOK Tryz.prog Γ2 := by
  intro g pf h
  unfold Γ2 at h
  split at h
  all_goals first | cases h; done | injection h with h; subst h
  · exact ⟨_, _, Tryz.func103, c103⟩
  · exact ⟨_, _, Tryz.func104, c104⟩
  · exact ⟨_, _, Tryz.func105, c105⟩
  · exact ⟨_, _, Tryz.func115, c115⟩
  · exact ⟨_, _, Tryz.func116, c116⟩
  · exact ⟨_, _, Tryz.func117, c117⟩
  · exact ⟨_, _, Tryz.func118, c118⟩
  · exact ⟨_, _, Tryz.func119, c119⟩
  · exact ⟨_, _, Tryz.func120, c120⟩
  · exact ⟨_, _, Tryz.func121, c121⟩
  · exact ⟨_, _, Tryz.func122, c122⟩
  · exact ⟨_, _, Tryz.func123, c123⟩
  · exact ⟨_, _, Tryz.func124, c124⟩
  · exact ⟨_, _, Tryz.func125, c125⟩
  · exact ⟨_, _, Tryz.func126, c126⟩
  · exact ⟨_, _, Tryz.func127, c127⟩
  · exact ⟨_, _, Tryz.func128, c128⟩
  · exact ⟨_, _, Tryz.func185, c185⟩
  · exact ⟨_, _, Tryz.func186, c186⟩
  · exact ⟨_, _, Tryz.func248, c248⟩
  · exact ⟨_, _, Tryz.func249, c249⟩
theorem tab_ok : TabOK Tryz.prog Γ := by
  intro g pf h
  unfold Γ at h
  cases h1 : Γ1 g with
  | some x => rw [h1] at h; exact tab1 g pf (h1.trans h)
  | none => rw [h1] at h; exact tab2 g pf h
end Go.Proofs.YtflfflfodghgpaaGreatDoor

namespace Go.Mir
def bt (l : List UInt8) (i : Nat) : Nat := (l.getD i 0).toNat
/-- where a run of bytes isEnd -/
def run (q : Nat → Bool) (l : List UInt8) (i : Nat) : Nat := i + ((l.drop i).takeWhile fun c => q c.toNat).length
end Go.Mir
namespace Go.Mir
end Go.Mir
