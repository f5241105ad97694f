/- What functions of the program and of the reference compute, on values. No statement is proved here. -/
import Derived.Test.YtflfflfodghgpaaGreatDoorTxD
import Derived.Test.YtflfflfodghgpaaGreatDoorTxC
import Derived.Test.YtflfflfodghgpaaGreatDoorTxA
set_option linter.unusedSimpArgs false
set_option linter.unusedVariables false
set_option linter.unusedSimpArgs false
namespace Go.Proofs.YtflfflfodghgpaaGreatDoor
open Go Go.EvL Go.PE Go.Mir
variable {ext:ai}{b:ByteArray}
def ri:bw:=(sr [mt 78 0,mt 79 9,ob 80 (cl 403 [(tp 78),(tp 79)]),mt 11 80]
 (.seq (uH [mt 81 11,mt 82 9,ob 83 (bn .sub 3 81 82),ob 84 (bi .gtr 83 32)] 84
 (sr [mt 85 9,ob 86 (cl 348 [(tp 85),(ki 3)]),o0 (.store 314 3 (tp 8) (tp 86))]
 .ret)
 .skip)
 (.seq (uH [mt 87 9,mt 88 0,ob 89 (.len true (tp 88)),ob 90 (bn .eql 3 87 89),mt 91 90,gt 91 false 92 11,gt 91 false 93 0,og 91 false 94 (.len true (tp 93)),og 91 false 95 (bn .eql 3 92 94),ob 96 (po 91 95)] 96
 (sr [mt 97 1,ob 98 (cl 348 [(tp 97),(ki 7)]),o0 (.store 314 3 (tp 8) (tp 98))]
 .ret)
 .skip)
 (.seq (uH [mt 99 11,mt 100 9,ob 101 (bn .eql 3 99 100)] 101
 (sr [mt 102 9,ob 103 (cl 348 [(tp 102),(ki 6)]),o0 (.store 314 3 (tp 8) (tp 103))]
 .ret)
 .skip)
 (sr [mt 104 0,mt 105 9,mt 106 11,ob 107 (.sslc (tp 104) (some (tp 105)) (some (tp 106))),ob 108 (.build [(.int .i64 0),(.string ⟨#[]⟩),(.int .i64 0),(.bool false),(.slice none 0 0)] [(0,1,(ki 4)),(1,1,(tp 107))]),ob 12 (.alloc 90 (.agg #[(.int .i64 0),(.string ⟨#[]⟩),(.int .i64 0),(.bool false),(.slice none 0 0)])),o0 (.store 90 5 (tp 12) (tp 108))]
 (.seq (uH [mt 109 0,mt 110 11,ob 111 (.sidx (tp 109) (tp 110)),ob 112 (bc .eql 111 125)] 112
 (sr [ob 113 (.load 90 true 5 (tp 12)),mt 114 11,ob 115 (bi .add 114 1),ob 116 (cl 373 [(tp 113),(tp 115)]),o0 (.store 314 3 (tp 8) (tp 116))]
 .ret)
 .skip)
 (sr [mt 118 0,mt 119 11,ob 120 (cl 404 [(tp 118),(tp 119)]),mt 117 120,ob 121 (.ext (tp 117) 0),ob 122 (.ext (tp 117) 1),ob 123 (.ext (tp 117) 2),mt 13 121,mt 14 122,mt 15 123]
 (.seq (uH [mt 124 13,ob 125 (bi .eql 124 0)] 125
 (.seq (uH [mt 126 0,mt 127 11,ob 128 (.sidx (tp 126) (tp 127)),ob 129 (bc .eql 128 58),mt 130 129,gt 130 true 131 11,og 130 true 132 (bi .add 131 1),gt 130 true 133 0,og 130 true 134 (.len true (tp 133)),og 130 true 135 (bn .eql 3 132 134),ob 136 (pk 130 135)] 136
 (sr [mt 137 1,ob 138 (cl 348 [(tp 137),(ki 7)]),o0 (.store 314 3 (tp 8) (tp 138))]
 .ret)
 .skip)
 (.seq (uH [mt 139 0,mt 140 11,ob 141 (.sidx (tp 139) (tp 140)),ob 142 (bc .eql 141 58)] 142
 (sr [mt 143 11,ob 144 (bi .add 143 1),ob 145 (cl 348 [(tp 144),(ki 6)]),o0 (.store 314 3 (tp 8) (tp 145))]
 .ret)
 .skip)
 (.seq (uH [mt 146 0,mt 147 9,ob 148 (.sidx (tp 146) (tp 147)),ob 149 (bc .eql 148 35)] 149
 (sr [mt 150 0,mt 151 9,ob 152 (bi .add 151 1),ob 153 (cl 403 [(tp 150),(tp 152)]),ob 154 (cl 348 [(tp 153),(ki 6)]),o0 (.store 314 3 (tp 8) (tp 154))]
 .ret)
 .skip)
 (sr [mt 155 11,ob 156 (cl 348 [(tp 155),(ki 6)]),o0 (.store 314 3 (tp 8) (tp 156))]
 .ret))))
 .skip)
 (.seq (uH [mt 157 3,ob 158 (bi .geq 157 32)] 158
 (sr [mt 159 11,ob 160 (cl 348 [(tp 159),(ki 5)]),o0 (.store 314 3 (tp 8) (tp 160))]
 .ret)
 .skip)
 (.seq (uH [mt 161 0,mt 162 11,mt 163 15,ob 164 (bn .add 3 162 163),ob 165 (cl 366 [(tp 161),(tp 164)])] 165
 (sr [mt 166 11,mt 167 15,ob 168 (bn .add 3 166 167),ob 169 (cl 348 [(tp 168),(ki 6)]),o0 (.store 314 3 (tp 8) (tp 169))]
 .ret)
 .skip)
 (sr [mt 170 0,mt 171 11,mt 172 15,ob 173 (bn .add 3 171 172),mt 174 2,ob 175 (cl 354 [(tp 174)]),mt 176 3,ob 177 (bi .add 176 1),mt 178 1,ob 179 (cl 328 [(tp 170),(tp 173),(tp 175),(tp 177),(tp 178)]),ob 16 (.alloc 314 (.agg #[(.slice none 0 0),(.int .i64 0),(.int .i64 0)])),o0 (.store 314 3 (tp 16) (tp 179))]
 (.seq (uH [ob 180 (.faddr 2 (tp 16)),ob 181 (.load 3 false 1 (tp 180)),ob 182 (bi .neq 181 0)] 182
 (sr [ob 183 (.load 314 true 3 (tp 16)),o0 (.store 314 3 (tp 8) (tp 183))]
 .ret)
 .skip)
 (.seq (.draw [(mt 184 13,[13],[]),(mt 185 14,[14],[0]),(ob 186 (.faddr 0 (tp 16)),[16],[1,0]),(ob 187 (.load 80 false 1 (tp 186)),[186],[1,0]),(ob 188 (.faddr 2 (tp 12)),[12],[3,2,1]),(o0 (.store 3 1 (tp 188) (tp 184)),[188,184],[3,2,1]),(ob 189 (.faddr 3 (tp 12)),[12],[3,2]),(o0 (.store 4 1 (tp 189) (tp 185)),[189,185],[3,2]),(ob 190 (.faddr 4 (tp 12)),[12],[]),(o0 (.store 80 1 (tp 190) (tp 187)),[190,187],[])])
 (sr [ob 191 (.load 90 true 5 (tp 12)),ob 192 (.faddr 1 (tp 16)),ob 193 (.load 3 false 1 (tp 192)),ob 194 (bi .add 193 1),ob 195 (cl 373 [(tp 191),(tp 194)]),o0 (.store 314 3 (tp 8) (tp 195))]
 .ret))))))))))))))
def VC (q:List PV) (r:Nat) (s:PS) (f':aO) (s':PS):Prop:=s.n≤s'.w∧f' r=.ptr s.n 0 3∧∃cs low e,s'.h s.n=⟨cs,low,e⟩∧cs.length=3∧low≤3∧j7 s.n s' cs=some q
def ln (s:PS):PS:=(⟨s.h,s.n,s.n⟩ : PS).new ⟨[.sc (.slice none 0 0),.sc (.int .i64 0),.sc (.int .i64 0)],0,314⟩
def B2 (ext:ai) (b:ByteArray) (a p lv:Nat) (r:R):Prop:=∀(s:PS) (f:aO) (q:List PV),bJ r=.agg q→f 0=.sc (.string b)→f 1=iN a→f 2=iN p→f 3=iN lv→f 8=.ptr s.n 0 3→f 9=iN (a + 2:Nat)→Er (VC q 8 s) (aS Tryz.prog Γ ext ri f (ln s))
theorem LF (hb:b.data.toList.length < 1000000000) {a p lv:Nat}{j:Nat} (hj:j≤b.data.toList.length) (hJ:∀s,Pc ext 403 [.sc (.string b),iN (a + 2:Nat)] (iN j) s) (h1:a + 2≤j) (h : 32 < j - (a + 2)):B2 ext b a p lv (.error (a + 2,3)):=by
 intro s f q hq f0 f1 f2 f3 f8 f9;rw [bJ] at hq;injection hq with hq;subst hq;have g0:(decide (32 < j - (a + 2)))=true:=decide_eq_true h;unfold ri ln VC;have n0:a + 2≤j:=om;exact oP f0 f1 f2 f3 f8 f9 @aR @aB @az @aA @ay @ae @aj @am @an @aG @aE g0 n0 hJ tv tv
theorem Pv (hb:b.data.toList.length < 1000000000) {a p lv:Nat}{j:Nat} (hj:j≤b.data.toList.length) (hJ:∀s,Pc ext 403 [.sc (.string b),iN (a + 2:Nat)] (iN j) s) (h1:a + 2≤j) (h:j - (a + 2)≤32) (h2:j=b.data.toList.length):B2 ext b a p lv (.error (a,7)):=by
 intro s f q hq f0 f1 f2 f3 f8 f9;rw [bJ] at hq;injection hq with hq;subst hq;have g0:(decide (32 < j - (a + 2)))=false:=df;have g1:(j == b.data.toList.length)=true:=by rw [h2]; exact beq_self_eq_true _
 unfold ri ln VC;cases c1:a + 2 == b.data.toList.length with
 | false=>
  have c1p:=ad c1;have n0:a + 2≤j:=om;exact oP f0 f1 f2 f3 f8 f9 @aR @aB @az @aA @ay @ae @aj @am @an @aG @aE g0 g1 c1 n0 hJ
 | true=>
  have c1p:=eq_of_beq c1;have n0:a + 2≤j:=om;exact oP f0 f1 f2 f3 f8 f9 @aR @aB @az @aA @ay @ae @aj @am @an @aG @aE g0 g1 c1 n0 hJ
theorem MF (hb:b.data.toList.length < 1000000000) {a p lv:Nat}{j:Nat} (hj:j≤b.data.toList.length) (hJ:∀s,Pc ext 403 [.sc (.string b),iN (a + 2:Nat)] (iN j) s) (h1:j=a + 2) (h2:a + 2 < b.data.toList.length):B2 ext b a p lv (.error (a + 2,6)):=by
 intro s f q hq f0 f1 f2 f3 f8 f9;rw [bJ] at hq;injection hq with hq;subst hq;have g0:(decide (32 < j - (a + 2)))=false:=df;have g1:(a + 2 == b.data.toList.length)=false:=bf;have g2:(j == b.data.toList.length)=false:=bf;have g3:(j == a + 2)=true:=by rw [h1]; exact beq_self_eq_true _
 unfold ri ln VC;have n0:a + 2≤j:=om;exact Bh f0 f1 f2 f3 f8 f9 @aR @aB @az @aA @ay @ae @aj @am @an @aG @aE g0 g1 g2 g3 n0 hJ tv tv tv
theorem IG (hb:b.data.toList.length < 1000000000) {a p lv:Nat}{j:Nat} (hj:j≤b.data.toList.length) (hJ:∀s,Pc ext 403 [.sc (.string b),iN (a + 2:Nat)] (iN j) s) (h:j - (a + 2)≤32) (h2:j < b.data.toList.length) (h3:a + 2 < j) (h4:bt b.data.toList j=125):B2 ext b a p lv (.ok ([sg (sub b.data.toList (a + 2) j)],j + 1)):=by
 intro s f q hq f0 f1 f2 f3 f8 f9;rw [bJ] at hq;injection hq with hq;subst hq;have g0:(decide (32 < j - (a + 2)))=false:=df;have g1:(a + 2 == b.data.toList.length)=false:=bf;have g2:(j == b.data.toList.length)=false:=bf;have g3:(j == a + 2)=false:=bf;have g4:(bt b.data.toList j == 125)=true:=by rw [h4]; rfl
 unfold ri ln VC;have n0:a + 2≤j:=om;have n1:j≤b.data.toList.length:=om;have n2:j < b.data.toList.length:=om;exact Bh f0 f1 f2 f3 f8 f9 @aR @aB @az @aA @ay @ae @aj @am @an @aG @aE g0 g1 g2 g3 g4 n0 n1 n2 hJ
theorem Fv (hb:b.data.toList.length < 1000000000) {a p lv:Nat}{j:Nat} (hj:j≤b.data.toList.length) (hJ:∀s,Pc ext 403 [.sc (.string b),iN (a + 2:Nat)] (iN j) s) (h:j - (a + 2)≤32) (h2:j < b.data.toList.length) (h3:a + 2 < j) {o:Int}{cb:Bool}{k:Nat} (hO:∀s,Pc ext 404 [.sc (.string b),iN j] (.tup [.sc (.int .i64 o),.sc (.bool cb),iN k]) s) (h4:bt b.data.toList j≠125) (h5:o=0) (h6:bt b.data.toList j=58) (h7:j + 1=b.data.toList.length):B2 ext b a p lv (.error (a,7)):=by
 intro s f q hq f0 f1 f2 f3 f8 f9;rw [bJ] at hq;injection hq with hq;subst hq;have g0:(decide (32 < j - (a + 2)))=false:=df;have g1:(a + 2 == b.data.toList.length)=false:=bf;have g2:(j == b.data.toList.length)=false:=bf;have g3:(j == a + 2)=false:=bf;have g4:(bt b.data.toList j == 125)=false:=beq_eq_false_iff_ne.2 (h4);have g5:(o == 0)=true:=by rw [h5]; rfl
 have g6:(bt b.data.toList j == 58)=true:=by rw [h6]; rfl
 have g7:(j + 1 == b.data.toList.length)=true:=by rw [h7]; exact beq_self_eq_true _
 unfold ri ln VC;have n0:a + 2≤j:=om;have n1:j≤b.data.toList.length:=om;have n2:j < b.data.toList.length:=om;exact G0 f0 f1 f2 f3 f8 f9 @aR @aB @az @aA @ay @ae @aj @am @an @aG @aE g0 g1 g2 g3 g4 g5 g6 g7 n0 n1 n2 hJ hO tv tv
theorem JZ (hb:b.data.toList.length < 1000000000) {a p lv:Nat}{j:Nat} (hj:j≤b.data.toList.length) (hJ:∀s,Pc ext 403 [.sc (.string b),iN (a + 2:Nat)] (iN j) s) (h:j - (a + 2)≤32) (h2:j < b.data.toList.length) (h3:a + 2 < j) {o:Int}{cb:Bool}{k:Nat} (hO:∀s,Pc ext 404 [.sc (.string b),iN j] (.tup [.sc (.int .i64 o),.sc (.bool cb),iN k]) s) (h4:bt b.data.toList j≠125) (h5:o=0) (h6:bt b.data.toList j=58) (h7:j + 1 < b.data.toList.length):B2 ext b a p lv (.error (j + 1,6)):=by
 intro s f q hq f0 f1 f2 f3 f8 f9;rw [bJ] at hq;injection hq with hq;subst hq;have g0:(decide (32 < j - (a + 2)))=false:=df;have g1:(a + 2 == b.data.toList.length)=false:=bf;have g2:(j == b.data.toList.length)=false:=bf;have g3:(j == a + 2)=false:=bf;have g4:(bt b.data.toList j == 125)=false:=beq_eq_false_iff_ne.2 (h4);have g5:(o == 0)=true:=by rw [h5]; rfl
 have g6:(bt b.data.toList j == 58)=true:=by rw [h6]; rfl
 have g7:(j + 1 == b.data.toList.length)=false:=bf;unfold ri ln VC;have n0:a + 2≤j:=om;have n1:j≤b.data.toList.length:=om;have n2:j < b.data.toList.length:=om;exact G0 f0 f1 f2 f3 f8 f9 @aR @aB @az @aA @ay @ae @aj @am @an @aG @aE g0 g1 g2 g3 g4 g5 g6 g7 n0 n1 n2 hJ hO tv tv
theorem JP (hb:b.data.toList.length < 1000000000) {a p lv:Nat}{j:Nat} (hj:j≤b.data.toList.length) (hJ:∀s,Pc ext 403 [.sc (.string b),iN (a + 2:Nat)] (iN j) s) (h:j - (a + 2)≤32) (h2:j < b.data.toList.length) (h3:a + 2 < j) {o:Int}{cb:Bool}{k:Nat} (hO:∀s,Pc ext 404 [.sc (.string b),iN j] (.tup [.sc (.int .i64 o),.sc (.bool cb),iN k]) s) (h4:bt b.data.toList j≠125) (h5:o=0) (h6:bt b.data.toList j≠58) (h7:bt b.data.toList (a + 2)=35) {i:Nat} (hI:∀s,Pc ext 403 [.sc (.string b),iN (a + 2 + 1:Nat)] (iN i) s):B2 ext b a p lv (.error (i,6)):=by
 intro s f q hq f0 f1 f2 f3 f8 f9;rw [bJ] at hq;injection hq with hq;subst hq;have g0:(decide (32 < j - (a + 2)))=false:=df;have g1:(a + 2 == b.data.toList.length)=false:=bf;have g2:(j == b.data.toList.length)=false:=bf;have g3:(j == a + 2)=false:=bf;have g4:(bt b.data.toList j == 125)=false:=beq_eq_false_iff_ne.2 (h4);have g5:(o == 0)=true:=by rw [h5]; rfl
 have g6:(bt b.data.toList j == 58)=false:=beq_eq_false_iff_ne.2 (h6);have g7:(bt b.data.toList (a + 2) == 35)=true:=by rw [h7]; rfl
 unfold ri ln VC;have n0:a + 2≤j:=om;have n1:j≤b.data.toList.length:=om;have n2:j < b.data.toList.length:=om;have n3:a + 2 < b.data.toList.length:=om;exact G0 f0 f1 f2 f3 f8 f9 @aR @aB @az @aA @ay @ae @aj @am @an @aG @aE g0 g1 g2 g3 g4 g5 g6 g7 n0 n1 n2 n3 hJ hO hI
theorem Oz (hb:b.data.toList.length < 1000000000) {a p lv:Nat}{j:Nat} (hj:j≤b.data.toList.length) (hJ:∀s,Pc ext 403 [.sc (.string b),iN (a + 2:Nat)] (iN j) s) (h:j - (a + 2)≤32) (h2:j < b.data.toList.length) (h3:a + 2 < j) {o:Int}{cb:Bool}{k:Nat} (hO:∀s,Pc ext 404 [.sc (.string b),iN j] (.tup [.sc (.int .i64 o),.sc (.bool cb),iN k]) s) (h4:bt b.data.toList j≠125) (h5:o=0) (h6:bt b.data.toList j≠58) (h7:bt b.data.toList (a + 2)≠35):B2 ext b a p lv (.error (j,6)):=by
 intro s f q hq f0 f1 f2 f3 f8 f9;rw [bJ] at hq;injection hq with hq;subst hq;have g0:(decide (32 < j - (a + 2)))=false:=df;have g1:(a + 2 == b.data.toList.length)=false:=bf;have g2:(j == b.data.toList.length)=false:=bf;have g3:(j == a + 2)=false:=bf;have g4:(bt b.data.toList j == 125)=false:=beq_eq_false_iff_ne.2 (h4);have g5:(o == 0)=true:=by rw [h5]; rfl
 have g6:(bt b.data.toList j == 58)=false:=beq_eq_false_iff_ne.2 (h6);have g7:(bt b.data.toList (a + 2) == 35)=false:=beq_eq_false_iff_ne.2 (h7);unfold ri ln VC;have n0:a + 2≤j:=om;have n1:j≤b.data.toList.length:=om;have n2:j < b.data.toList.length:=om;have n3:a + 2 < b.data.toList.length:=om;exact G0 f0 f1 f2 f3 f8 f9 @aR @aB @az @aA @ay @ae @aj @am @an @aG @aE g0 g1 g2 g3 g4 g5 g6 g7 n0 n1 n2 n3 hJ hO tv
theorem KQ (hb:b.data.toList.length < 1000000000) {a p lv:Nat}{j:Nat} (hj:j≤b.data.toList.length) (hJ:∀s,Pc ext 403 [.sc (.string b),iN (a + 2:Nat)] (iN j) s) (h:j - (a + 2)≤32) (h2:j < b.data.toList.length) (h3:a + 2 < j) {o:Int}{cb:Bool}{k:Nat} (hO:∀s,Pc ext 404 [.sc (.string b),iN j] (.tup [.sc (.int .i64 o),.sc (.bool cb),iN k]) s) (h4:bt b.data.toList j≠125) (h5:o≠0) (h6 : 32≤lv):B2 ext b a p lv (.error (j,5)):=by
 intro s f q hq f0 f1 f2 f3 f8 f9;rw [bJ] at hq;injection hq with hq;subst hq;have g0:(decide (32 < j - (a + 2)))=false:=df;have g1:(a + 2 == b.data.toList.length)=false:=bf;have g2:(j == b.data.toList.length)=false:=bf;have g3:(j == a + 2)=false:=bf;have g4:(bt b.data.toList j == 125)=false:=beq_eq_false_iff_ne.2 (h4);have g5:(o == 0)=false:=beq_eq_false_iff_ne.2 h5;have g6:(decide (32≤lv))=true:=decide_eq_true h6;unfold ri ln VC;have n0:a + 2≤j:=om;have n1:j≤b.data.toList.length:=om;have n2:j < b.data.toList.length:=om;exact G0 f0 f1 f2 f3 f8 f9 @aR @aB @az @aA @ay @ae @aj @am @an @aG @aE g0 g1 g2 g3 g4 g5 g6 n0 n1 n2 hJ hO tv tv tv
theorem Kr (hb:b.data.toList.length < 1000000000) {a p lv:Nat}{j:Nat} (hj:j≤b.data.toList.length) (hJ:∀s,Pc ext 403 [.sc (.string b),iN (a + 2:Nat)] (iN j) s) (h:j - (a + 2)≤32) (h2:j < b.data.toList.length) (h3:a + 2 < j) {o:Int}{cb:Bool}{k:Nat} (hO:∀s,Pc ext 404 [.sc (.string b),iN j] (.tup [.sc (.int .i64 o),.sc (.bool cb),iN k]) s) (h4:bt b.data.toList j≠125) (h5:o≠0) (h6:lv < 32) (hk:j + k≤b.data.toList.length) (h7:cF b.data.toList (j + k)=true):B2 ext b a p lv (.error (j + k,6)):=by
 intro s f q hq f0 f1 f2 f3 f8 f9;rw [bJ] at hq;injection hq with hq;subst hq;have hB:=hb
 replace hb:b.data.toList.length < 4611686018427387904:=om
 have g0:(decide (32 < j - (a + 2)))=false:=df;have g1:(a + 2 == b.data.toList.length)=false:=bf;have g2:(j == b.data.toList.length)=false:=bf;have g3:(j == a + 2)=false:=bf;have g4:(bt b.data.toList j == 125)=false:=beq_eq_false_iff_ne.2 (h4);have g5:(o == 0)=false:=beq_eq_false_iff_ne.2 h5;have g6:(decide (32≤lv))=false:=df;have g7:(cF b.data.toList (j + k))=true:=h7;unfold ri ln VC;have n0:a + 2≤j:=om;have n1:j≤b.data.toList.length:=om;have n2:j < b.data.toList.length:=om;have n3:j + k≤b.data.toList.length:=om;have u2:=fun s=>fY (ext:=ext) hb (i:=j + k) om s;exact G0 f0 f1 f2 f3 f8 f9 @aR @aB @az @aA @ay @ae @aj @am @an @aG @aE g0 g1 g2 g3 g4 g5 g6 g7 n0 n1 n2 n3 hJ hO u2
theorem Pw (hb:b.data.toList.length < 1000000000) {a p lv:Nat}{j:Nat} (hj:j≤b.data.toList.length) (hJ:∀s,Pc ext 403 [.sc (.string b),iN (a + 2:Nat)] (iN j) s) (h:j - (a + 2)≤32) (h2:j < b.data.toList.length) (h3:a + 2 < j) {o:Int}{cb:Bool}{k:Nat} (hO:∀s,Pc ext 404 [.sc (.string b),iN j] (.tup [.sc (.int .i64 o),.sc (.bool cb),iN k]) s) (h4:bt b.data.toList j≠125) (h5:o≠0) (h6:lv < 32) (hp:p≤6) (hk:j + k≤b.data.toList.length) (h7:cF b.data.toList (j + k)=false) {x e:Nat} (he:e≠0) (hC:∀s,Pc ext 328 [.sc (.string b),iN (j + k:Nat),iN (dQ p),iN (lv + 1:Nat),iN a] (.agg [.sc (.slice none 0 0),iN x,iN e]) s):B2 ext b a p lv (.error (x,e)):=by
 intro s f q hq f0 f1 f2 f3 f8 f9;rw [bJ] at hq;injection hq with hq;subst hq;have hB:=hb
 replace hb:b.data.toList.length < 4611686018427387904:=om
 have nq0:(s.n=s.n + 1 + 1)=False:=eq_false om;have nq1:(s.n + 1 + 1=s.n)=False:=eq_false om;have nq2:(s.n + 1=s.n + 1 + 1)=False:=eq_false om;have nq3:(s.n + 1 + 1=s.n + 1)=False:=eq_false om;have nq4:(s.n + 1=s.n)=False:=eq_false om;have nq5:(s.n=s.n + 1)=False:=eq_false om;have g0:(decide (32 < j - (a + 2)))=false:=df;have g1:(a + 2 == b.data.toList.length)=false:=bf;have g2:(j == b.data.toList.length)=false:=bf;have g3:(j == a + 2)=false:=bf;have g4:(bt b.data.toList j == 125)=false:=beq_eq_false_iff_ne.2 (h4);have g5:(o == 0)=false:=beq_eq_false_iff_ne.2 h5;have g6:(decide (32≤lv))=false:=df;have g7:(cF b.data.toList (j + k))=false:=h7;have g8:(e == 0)=false:=beq_eq_false_iff_ne.2 he;unfold ri ln VC;have n0:a + 2≤j:=om;have n1:j≤b.data.toList.length:=om;have n2:j < b.data.toList.length:=om;have n3:j + k≤b.data.toList.length:=om;have u2:=fun s=>fY (ext:=ext) hb (i:=j + k) om s;have u3:=fun s=>qA (ext:=ext) hp s;simp -implicitDefEqProofs (disch:=omega) only [ZS,seval,ZX,f0,f1,f2,f3,f8,f9,aR,aB,az,aA,ay,ae,aj,am,an,aG,aE,nq0,nq1,nq2,nq3,nq4,nq5,g0,g1,g2,g3,g4,g5,g6,g7,g8,n0,n1,n2,n3,hJ,hO,u2,u3,hC]
 all_goals first | exact⟨_,_,_,rfl,rfl,Nat.le_refl _,rfl⟩ | exact⟨_,_,_,rfl,rfl,Nat.le_refl _,bE (ba _ _ _)⟩
theorem Tf (hb:b.data.toList.length < 1000000000) {a p lv:Nat}{j:Nat} (hj:j≤b.data.toList.length) (hJ:∀s,Pc ext 403 [.sc (.string b),iN (a + 2:Nat)] (iN j) s) (h:j - (a + 2)≤32) (h2:j < b.data.toList.length) (h3:a + 2 < j) {o:Int}{cb:Bool}{k:Nat} (hO:∀s,Pc ext 404 [.sc (.string b),iN j] (.tup [.sc (.int .i64 o),.sc (.bool cb),iN k]) s) (h4:bt b.data.toList j≠125) (h5:o≠0) (h6:lv < 32) (hp:p≤6) (hk:j + k≤b.data.toList.length) (h7:cF b.data.toList (j + k)=false) {ps:List aT}{i:Nat} (hi:i < b.data.toList.length) (hC:∀s,Pc ext 328 [.sc (.string b),iN (j + k:Nat),iN (dQ p),iN (lv + 1:Nat),iN a] (.agg [dm ps,iN i,.sc (.int .i64 0)]) s):B2 ext b a p lv (.ok ([.mk 4 (sub b.data.toList (a + 2) j) o cb ps],i + 1)):=by
 intro s f q hq f0 f1 f2 f3 f8 f9;rw [bJ] at hq;injection hq with hq;subst hq;have hB:=hb
 replace hb:b.data.toList.length < 4611686018427387904:=om
 have nq0:(s.n=s.n + 1 + 1)=False:=eq_false om;have nq1:(s.n + 1 + 1=s.n)=False:=eq_false om;have nq2:(s.n + 1=s.n + 1 + 1)=False:=eq_false om;have nq3:(s.n + 1 + 1=s.n + 1)=False:=eq_false om;have nq4:(s.n + 1=s.n)=False:=eq_false om;have nq5:(s.n=s.n + 1)=False:=eq_false om;have g0:(decide (32 < j - (a + 2)))=false:=df;have g1:(a + 2 == b.data.toList.length)=false:=bf;have g2:(j == b.data.toList.length)=false:=bf;have g3:(j == a + 2)=false:=bf;have g4:(bt b.data.toList j == 125)=false:=beq_eq_false_iff_ne.2 (h4);have g5:(o == 0)=false:=beq_eq_false_iff_ne.2 h5;have g6:(decide (32≤lv))=false:=df;have g7:(cF b.data.toList (j + k))=false:=h7;unfold ri ln VC;have n0:a + 2≤j:=om;have n1:j≤b.data.toList.length:=om;have n2:j < b.data.toList.length:=om;have n3:j + k≤b.data.toList.length:=om;have u2:=fun s=>fY (ext:=ext) hb (i:=j + k) om s;have u3:=fun s=>qA (ext:=ext) hp s;simp -implicitDefEqProofs (disch:=first | omega | (unfold cH bM; simp<;>omega)) only [ZS,seval,ZT,ZX,f0,f1,f2,f3,f8,f9,aR,aB,az,aA,ay,ae,aj,am,an,aG,aE,nq0,nq1,nq2,nq3,nq4,nq5,g0,g1,g2,g3,g4,g5,g6,g7,n0,n1,n2,n3,hJ,hO,u2,u3,hC]
 all_goals first | exact⟨_,_,_,rfl,rfl,Nat.le_refl _,rfl⟩ | exact⟨_,_,_,rfl,rfl,Nat.le_refl _,bE (ba _ _ _)⟩
end Go.Proofs.YtflfflfodghgpaaGreatDoor
set_option linter.unusedSimpArgs false
namespace Go.Proofs.YtflfflfodghgpaaGreatDoor
open Go Go.EvL Go.PE Go.Mir
variable {ext:ai}{b:ByteArray}
theorem Cm:Γ 396=some ⟨196,(sr [ob 8 (.alloc 314 (.agg #[(.slice none 0 0),(.int .i64 0),(.int .i64 0)]))]
 (sr [mt 17 1,ob 18 (bi .add 17 2),mt 9 18]
 (.seq (uH [mt 19 9,mt 20 0,ob 21 (.len true (tp 20)),ob 22 (bn .lss 3 19 21),mt 23 22,gt 23 true 24 0,gt 23 true 25 9,og 23 true 26 (.sidx (tp 24) (tp 25)),og 23 true 27 (bc .eql 26 35),ob 28 (pk 23 27)] 28
 (sr [mt 29 0,mt 30 9,ob 31 (bi .add 30 1),ob 32 (cl 403 [(tp 29),(tp 31)]),mt 10 32]
 (.seq (uH [mt 33 10,mt 34 9,ob 35 (bn .sub 3 33 34),ob 36 (bi .sub 35 1),ob 37 (bi .gtr 36 32)] 37
 (sr [mt 38 9,ob 39 (bi .add 38 1),ob 40 (cl 348 [(tp 39),(ki 3)]),o0 (.store 314 3 (tp 8) (tp 40))]
 .ret)
 .skip)
 (.seq (uH [mt 41 10,mt 42 9,ob 43 (bi .add 42 1),ob 44 (bn .gtr 3 41 43),mt 45 44,gt 45 true 46 10,gt 45 true 47 0,og 45 true 48 (.len true (tp 47)),og 45 true 49 (bn .lss 3 46 48),ob 50 (pk 45 49),mt 51 50,gt 51 true 52 0,gt 51 true 53 10,og 51 true 54 (.sidx (tp 52) (tp 53)),og 51 true 55 (bc .eql 54 125),ob 56 (pk 51 55)] 56
 (sr [mt 57 0,mt 58 9,ob 59 (bi .add 58 1),mt 60 10,ob 61 (.sslc (tp 57) (some (tp 59)) (some (tp 60))),ob 62 (.build [(.int .i64 0),(.string ⟨#[]⟩),(.int .i64 0),(.bool false),(.slice none 0 0)] [(0,1,(ki 4)),(1,1,(tp 61)),(2,1,(ki 5))]),mt 63 10,ob 64 (bi .add 63 1),ob 65 (cl 373 [(tp 62),(tp 64)]),o0 (.store 314 3 (tp 8) (tp 65))]
 .ret)
 .skip)
 (uH [mt 66 10,mt 67 9,ob 68 (bi .add 67 1),ob 69 (bn .gtr 3 66 68),mt 70 69,gt 70 true 71 10,gt 70 true 72 0,og 70 true 73 (.len true (tp 72)),og 70 true 74 (bn .eql 3 71 73),ob 75 (pk 70 74)] 75
 (sr [mt 76 1,ob 77 (cl 348 [(tp 76),(ki 7)]),o0 (.store 314 3 (tp 8) (tp 77))]
 .ret)
 .skip))))
 .skip)
 ri))),[.cell 8 true 3],false⟩:=(rfl)
theorem Nw (hb:b.data.toList.length < 1000000000) {a p lv:Nat} (h0:a + 2≤b.data.toList.length) (hl:a + 2 < b.data.toList.length) (h:bt b.data.toList (a + 2)=35) {j:Nat} (hj:j≤b.data.toList.length) (hj0:a + 3≤j) (hJ:∀s,Pc ext 403 [.sc (.string b),iN (a + 2 + 1:Nat)] (iN j) s) (h2 : 32 < j - (a + 2) - 1) (s:PS):Pc ext 396 [.sc (.string b),iN a,iN p,iN lv] (bJ (.error (a + 2 + 1,3))) s:=by
 have g0:(decide (a + 2 < b.data.toList.length))=true:=decide_eq_true hl;have g1:(bt b.data.toList (a + 2) == 35)=true:=by rw [h]; rfl
 have g2:(decide (32 < j - (a + 2) - 1))=true:=decide_eq_true h2;refine fS s.n (r:=8) (m:=3) Cm (by simp) (by rfl) (by rfl) ?_;have n0:a + 2 < b.data.toList.length:=om;have n1:a + 2≤j:=om;have n2 : 1≤j - (a + 2):=om;exact tc @aR @aB @az @aA @ay @ae @aj @am @an @aG @aE g0 g1 g2 n0 n1 n2 hJ tv
theorem PN (hb:b.data.toList.length < 1000000000) {a p lv:Nat} (h0:a + 2≤b.data.toList.length) (hl:a + 2 < b.data.toList.length) (h:bt b.data.toList (a + 2)=35) {j:Nat} (hj:j≤b.data.toList.length) (hj0:a + 3≤j) (hJ:∀s,Pc ext 403 [.sc (.string b),iN (a + 2 + 1:Nat)] (iN j) s) (h2:j - (a + 2) - 1≤32) (h3:a + 2 + 1 < j) (h4:j < b.data.toList.length) (h5:bt b.data.toList j=125) (s:PS):Pc ext 396 [.sc (.string b),iN a,iN p,iN lv] (bJ (.ok ([.mk 4 (sub b.data.toList (a + 2 + 1) j) 5 false []],j + 1))) s:=by
 have g0:(decide (a + 2 < b.data.toList.length))=true:=decide_eq_true hl;have g1:(bt b.data.toList (a + 2) == 35)=true:=by rw [h]; rfl
 have g2:(decide (32 < j - (a + 2) - 1))=false:=df;have g3:(decide (a + 2 + 1 < j))=true:=decide_eq_true h3;have g4:(decide (j < b.data.toList.length))=true:=decide_eq_true h4;have g5:(bt b.data.toList j == 125)=true:=by rw [h5]; rfl
 refine fS s.n (r:=8) (m:=3) Cm (by simp) (by rfl) (by rfl) ?_;have n0:a + 2 < b.data.toList.length:=om;have n1:a + 2≤j:=om;have n2 : 1≤j - (a + 2):=om;have n3:j < b.data.toList.length:=om;have n4:a + 2 + 1≤j:=om;have n5:j≤b.data.toList.length:=om;exact Bh @aR @aB @az @aA @ay @ae @aj @am @an @aG @aE g0 g1 g2 g3 g4 g5 n0 n1 n2 n3 n4 n5 hJ tv tv
theorem PK (hb:b.data.toList.length < 1000000000) {a p lv:Nat} (h0:a + 2≤b.data.toList.length) (hl:a + 2 < b.data.toList.length) (h:bt b.data.toList (a + 2)=35) {j:Nat} (hj:j≤b.data.toList.length) (hj0:a + 3≤j) (hJ:∀s,Pc ext 403 [.sc (.string b),iN (a + 2 + 1:Nat)] (iN j) s) (h2:j - (a + 2) - 1≤32) (h3:a + 2 + 1 < j) (h4:j=b.data.toList.length) (s:PS):Pc ext 396 [.sc (.string b),iN a,iN p,iN lv] (bJ (.error (a,7))) s:=by
 have g0:(decide (a + 2 < b.data.toList.length))=true:=decide_eq_true hl;have g1:(bt b.data.toList (a + 2) == 35)=true:=by rw [h]; rfl
 have g2:(decide (32 < j - (a + 2) - 1))=false:=df;have g3:(decide (a + 2 + 1 < j))=true:=decide_eq_true h3;have g4:(decide (j < b.data.toList.length))=false:=df;have g5:(j == b.data.toList.length)=true:=by rw [h4]; exact beq_self_eq_true _
 refine fS s.n (r:=8) (m:=3) Cm (by simp) (by rfl) (by rfl) ?_;have n0:a + 2 < b.data.toList.length:=om;have n1:a + 2≤j:=om;have n2 : 1≤j - (a + 2):=om;exact oP @aR @aB @az @aA @ay @ae @aj @am @an @aG @aE g0 g1 g2 g3 g4 g5 n0 n1 n2 hJ tv
theorem Ha (hb:b.data.toList.length < 1000000000) {a p lv:Nat} (h0:a + 2≤b.data.toList.length) (hl:a + 2 < b.data.toList.length) (h:bt b.data.toList (a + 2)=35) {j:Nat} (hj:j≤b.data.toList.length) (hj0:a + 3≤j) (hJ:∀s,Pc ext 403 [.sc (.string b),iN (a + 2 + 1:Nat)] (iN j) s) (h2:j - (a + 2) - 1≤32) (h3:a + 2 + 1 < j) (h4:j < b.data.toList.length) (h5:bt b.data.toList j≠125) (r:R) (hB:B2 ext b a p lv r) (s:PS):Pc ext 396 [.sc (.string b),iN a,iN p,iN lv] (bJ (r)) s:=by
 have g0:(decide (a + 2 < b.data.toList.length))=true:=decide_eq_true hl;have g1:(bt b.data.toList (a + 2) == 35)=true:=by rw [h]; rfl
 have g2:(decide (32 < j - (a + 2) - 1))=false:=df;have g3:(decide (a + 2 + 1 < j))=true:=decide_eq_true h3;have g4:(decide (j < b.data.toList.length))=true:=decide_eq_true h4;have g5:(bt b.data.toList j == 125)=false:=beq_eq_false_iff_ne.2 (h5);have g6:(j == b.data.toList.length)=false:=bf;obtain⟨q,hq⟩ : ∃q,bJ (r)=.agg q:=by
  cases r with
  | ok x=>obtain⟨l,j⟩:=x; exact⟨_,rfl⟩
  | error x=>obtain⟨i,e⟩:=x; exact⟨_,rfl⟩
 rw [hq];refine fS s.n (r:=8) (m:=3) Cm (by simp) (by rfl) (by rfl) ?_;have n0:a + 2 < b.data.toList.length:=om;have n1:a + 2≤j:=om;have n2 : 1≤j - (a + 2):=om;have n3:j < b.data.toList.length:=om;refine Tx @aR @aB @az @aA @ay @ae @aj @am @an @aG @aE g0 g1 g2 g3 g4 g5 g6 n0 n1 n2 n3 hJ tv tv tv ?_;exact hB s _ q hq bh bh bh bh bh bh
theorem Fh (hb:b.data.toList.length < 1000000000) {a p lv:Nat} (h0:a + 2≤b.data.toList.length) (hl:a + 2 < b.data.toList.length) (h:bt b.data.toList (a + 2)=35) {j:Nat} (hj:j≤b.data.toList.length) (hj0:a + 3≤j) (hJ:∀s,Pc ext 403 [.sc (.string b),iN (a + 2 + 1:Nat)] (iN j) s) (h2:j - (a + 2) - 1≤32) (h3:¬ a + 2 + 1 < j) (r:R) (hB:B2 ext b a p lv r) (s:PS):Pc ext 396 [.sc (.string b),iN a,iN p,iN lv] (bJ (r)) s:=by
 have g0:(decide (a + 2 < b.data.toList.length))=true:=decide_eq_true hl;have g1:(bt b.data.toList (a + 2) == 35)=true:=by rw [h]; rfl
 have g2:(decide (32 < j - (a + 2) - 1))=false:=df;have g3:(decide (a + 2 + 1 < j))=false:=decide_eq_false h3;obtain⟨q,hq⟩ : ∃q,bJ (r)=.agg q:=by
  cases r with
  | ok x=>obtain⟨l,j⟩:=x; exact⟨_,rfl⟩
  | error x=>obtain⟨i,e⟩:=x; exact⟨_,rfl⟩
 rw [hq];refine fS s.n (r:=8) (m:=3) Cm (by simp) (by rfl) (by rfl) ?_;have n0:a + 2 < b.data.toList.length:=om;have n1:a + 2≤j:=om;have n2 : 1≤j - (a + 2):=om;refine rG @aR @aB @az @aA @ay @ae @aj @am @an @aG @aE g0 g1 g2 g3 n0 n1 n2 hJ ?_;exact hB s _ q hq bh bh bh bh bh bh
theorem Kx (hb:b.data.toList.length < 1000000000) {a p lv:Nat} (h0:a + 2≤b.data.toList.length) (hl:a + 2 < b.data.toList.length) (h:bt b.data.toList (a + 2)≠35) (r:R) (hB:B2 ext b a p lv r) (s:PS):Pc ext 396 [.sc (.string b),iN a,iN p,iN lv] (bJ (r)) s:=by
 have g0:(decide (a + 2 < b.data.toList.length))=true:=decide_eq_true hl;have g1:(bt b.data.toList (a + 2) == 35)=false:=beq_eq_false_iff_ne.2 (h);obtain⟨q,hq⟩ : ∃q,bJ (r)=.agg q:=by
  cases r with
  | ok x=>obtain⟨l,j⟩:=x; exact⟨_,rfl⟩
  | error x=>obtain⟨i,e⟩:=x; exact⟨_,rfl⟩
 rw [hq];refine fS s.n (r:=8) (m:=3) Cm (by simp) (by rfl) (by rfl) ?_;have n0:a + 2 < b.data.toList.length:=om;refine qJ @aR @aB @az @aA @ay @ae @aj @am @an @aG @aE g0 g1 n0 ?_;exact hB s _ q hq bh bh bh bh bh bh
theorem Mw (hb:b.data.toList.length < 1000000000) {a p lv:Nat} (h0:a + 2≤b.data.toList.length) (hl:¬ a + 2 < b.data.toList.length) (r:R) (hB:B2 ext b a p lv r) (s:PS):Pc ext 396 [.sc (.string b),iN a,iN p,iN lv] (bJ (r)) s:=by
 have g0:(decide (a + 2 < b.data.toList.length))=false:=decide_eq_false hl;obtain⟨q,hq⟩ : ∃q,bJ (r)=.agg q:=by
  cases r with
  | ok x=>obtain⟨l,j⟩:=x; exact⟨_,rfl⟩
  | error x=>obtain⟨i,e⟩:=x; exact⟨_,rfl⟩
 rw [hq];refine fS s.n (r:=8) (m:=3) Cm (by simp) (by rfl) (by rfl) ?_;refine jp @aR @aB @az @aA @ay @ae @aj @am @an @aG @aE g0 ?_;exact hB s _ q hq bh bh bh bh bh bh
end Go.Proofs.YtflfflfodghgpaaGreatDoor
set_option linter.unusedSimpArgs false
namespace Go.Proofs.YtflfflfodghgpaaGreatDoor
open Go Go.EvL Go.PE Go.Mir
variable {ext:ai}{b:ByteArray}
def xy:bw:=(.seq (uH [mt 93 14,ob 94 (.faddr 0 (tp 13)),ob 95 (.load 80 false 1 (tp 94)),ob 96 (.len false (tp 95)),ob 97 (bn .lss 3 93 96)] 97
 .skip
 (.exit 2))
 (.seq (.block 3 (uH [ob 100 (.faddr 0 (tp 13)),ob 101 (.load 80 false 1 (tp 100)),mt 102 14,ob 103 (.iaddr 5 (tp 101) (tp 102)),ob 104 (.faddr 0 (tp 103)),ob 105 (.load 3 false 1 (tp 104)),ob 106 (bi .eql 105 1)] 106
 (.reg [mt 107 11,ob 108 (.faddr 0 (tp 13)),ob 109 (.load 80 false 1 (tp 108)),mt 110 14,ob 111 (.iaddr 5 (tp 109) (tp 110)),ob 112 (.faddr 1 (tp 111)),ob 113 (.load 9 false 1 (tp 112)),ob 114 (cl 351 [(tp 107),(tp 113)]),mt 11 114])
 (.reg [mt 115 11,ob 116 (.faddr 0 (tp 13)),ob 117 (.load 80 false 1 (tp 116)),mt 118 14,ob 119 (.iaddr 5 (tp 117) (tp 118)),ob 120 (.load 90 true 5 (tp 119)),ob 121 (.bslice 90 1 [(.int .i64 0),(.string ⟨#[]⟩),(.int .i64 0),(.bool false),(.slice none 0 0)] [(0,5,(tp 120))]),ob 122 (.app 90 5 64 (tp 115) (tp 121)),mt 11 122])))
 (.reg [mt 98 14,ob 99 (bi .add 98 1),mt 14 99])))
def DX:bw:=(.reg [ob 123 (.faddr 1 (tp 13)),ob 124 (.load 3 false 1 (tp 123)),mt 1 124])
theorem zK (f:aO) (s:PS):aS Tryz.prog Γ ext pE f s=aS Tryz.prog Γ ext xy f s:=rfl
theorem HS (f:aO) (s:PS):aS Tryz.prog Γ ext rC f s=aS Tryz.prog Γ ext DX f s:=rfl
structure PI (b:ByteArray) (a p lv fr o:Nat) (acc:List aT) (v:PV) (s0:PS) (f:aO) (s:PS):Prop where
 f0:f 0=.sc (.string b)
 f1:f 1=iN a
 f2:f 2=iN p
 f3:f 3=iN lv
 f4:f 4=iN fr
 f10:f 10=.ptr s0.n 0 3
 f11:f 11=v
 f12:f 12=iN o
 acc:jv 90 5 dL (s0.n + 1) acc v s
 cell:s.h s0.n=⟨[.sc (.slice none 0 0),.sc (.int .i64 0),.sc (.int .i64 0)],0,314⟩
 n:s0.n + 1≤s.n
 w:s0.n≤s.w
theorem tK {b0:Nat}{l:List aT}{v:PV}{s:PS} (h:jv 90 5 dL b0 l v s) {k:Nat} (hk:k < b0) (B:BN):jv 90 5 dL b0 l v (s.put k B):=by
 rcases h with h | ⟨hl,k',k1,k2,rfl,k3⟩
 ·exact .inl h
 ·exact .inr ⟨hl,k',k1,by rw [ek]; exact k2,rfl,by rw [dD,if_neg om]; exact k3⟩
theorem jd {b0:Nat}{l:List aT}{v:PV}{s:PS} (h:jv 90 5 dL b0 l v s):eA false v=some (.sc (.int .i64 (l.length:Int))):=by
 rcases h with ⟨rfl,rfl⟩ | ⟨_,k,_,_,rfl,_⟩<;>rfl
theorem je {b0:Nat}{l:List aT}{v:PV}{s:PS} (h:jv 90 5 dL b0 l v s):cX v=true:=by
 rcases h with ⟨rfl,rfl⟩ | ⟨_,k,_,_,rfl,_⟩<;>rfl
theorem kJ {b0:Nat}{l:List aT}{v:PV}{s:PS} (h:jv 90 5 dL b0 l v s):bx v=[v]:=by
 rcases h with ⟨rfl,rfl⟩ | ⟨_,k,_,_,rfl,_⟩<;>rfl
theorem xP {b0 n0:Nat}{l:List aT}{v:PV}{s:PS} (h:jv 90 5 dL b0 l v s) (hn:n0≤b0):bQ n0 s v=some (dm l):=by
 rw [DO]; exact jv.frz gG h hn fun x _=>uJ x
def LC (ext:ai) (b:ByteArray) (a p lv fr o:Nat) (acc:List aT) (r:R):Prop:=∀(s0:PS) (f:aO) (s:PS) (v:PV) (q:List PV),bJ r=.agg q→PI b a p lv fr o acc v s0 f s→Er (VC q 10 s0) (LP Tryz.prog Γ ext 0 dT ej f s)
theorem Qa (hb:b.data.toList.length < 1000000000) {lv fr o:Nat}{acc:List aT}  : LC ext b b.data.toList.length 0 lv fr o acc (.ok (acc,b.data.toList.length)):=by
 intro s0 f s v q hq hI;have hA:=hI.acc;have hcell:=hI.cell;have hn:=hI.n;have hw:=hI.w;obtain⟨f0,f1,f2,f3,f4,f10,f11,f12,_,_,_,_⟩:=hI;have hlen:=jd hA;have h1v:=je hA;have hcv:=kJ hA;have hm:min s.w s0.n=s0.n:=Nat.min_eq_right hw;have hm2:min (min s.w s.n) s0.n=s0.n:=Nat.min_eq_right om;have hne:(s0.n=s.n)=False:=eq_false om;have hne2:(s.n=s0.n)=False:=eq_false om;rw [bJ] at hq;injection hq with hq;subst hq;have g0:(decide (b.data.toList.length < b.data.toList.length))=false:=df;refine ac fun L hL=>?_;unfold VC;refine MG @dT.eq_1 @ej.eq_1 f0 f1 f2 f3 f4 f10 f11 f12 @aR @aB @az @aA @ay @ae @aj @am @an hlen h1v hcv hcell hm hm2 hne hne2 g0 tv tv tv tv ?_;exact⟨_,_,_,rfl,rfl,Nat.le_refl _,bE (xP (tK hA om _) om)⟩
theorem QF (hb:b.data.toList.length < 1000000000) {lv fr o:Nat}{acc:List aT}  : LC ext b b.data.toList.length 5 lv fr o acc (.ok (acc,b.data.toList.length)):=by
 intro s0 f s v q hq hI;have hA:=hI.acc;have hcell:=hI.cell;have hn:=hI.n;have hw:=hI.w;obtain⟨f0,f1,f2,f3,f4,f10,f11,f12,_,_,_,_⟩:=hI;have hlen:=jd hA;have h1v:=je hA;have hcv:=kJ hA;have hm:min s.w s0.n=s0.n:=Nat.min_eq_right hw;have hm2:min (min s.w s.n) s0.n=s0.n:=Nat.min_eq_right om;have hne:(s0.n=s.n)=False:=eq_false om;have hne2:(s.n=s0.n)=False:=eq_false om;rw [bJ] at hq;injection hq with hq;subst hq;have g0:(decide (b.data.toList.length < b.data.toList.length))=false:=df;refine ac fun L hL=>?_;unfold VC;refine MG @dT.eq_1 @ej.eq_1 f0 f1 f2 f3 f4 f10 f11 f12 @aR @aB @az @aA @ay @ae @aj @am @an hlen h1v hcv hcell hm hm2 hne hne2 g0 tv tv tv tv ?_;exact⟨_,_,_,rfl,rfl,Nat.le_refl _,bE (xP (tK hA om _) om)⟩
theorem l_open (hb:b.data.toList.length < 1000000000) {p lv fr o:Nat}{acc:List aT} (h:p≠0) (h2:p≠5):LC ext b b.data.toList.length p lv fr o acc (.error (fr,7)):=by
 intro s0 f s v q hq hI;have hA:=hI.acc;have hcell:=hI.cell;have hn:=hI.n;have hw:=hI.w;obtain⟨f0,f1,f2,f3,f4,f10,f11,f12,_,_,_,_⟩:=hI;have hlen:=jd hA;have h1v:=je hA;have hcv:=kJ hA;have hm:min s.w s0.n=s0.n:=Nat.min_eq_right hw;have hm2:min (min s.w s.n) s0.n=s0.n:=Nat.min_eq_right om;have hne:(s0.n=s.n)=False:=eq_false om;have hne2:(s.n=s0.n)=False:=eq_false om;rw [bJ] at hq;injection hq with hq;subst hq;have g0:(decide (b.data.toList.length < b.data.toList.length))=false:=df;have g1:(p == 0)=false:=beq_eq_false_iff_ne.2 h;have g2:(p == 5)=false:=beq_eq_false_iff_ne.2 h2;refine ac fun L hL=>?_;unfold VC;refine MG @dT.eq_1 @ej.eq_1 f0 f1 f2 f3 f4 f10 f11 f12 @aR @aB @az @aA @ay @ae @aj @am @an hlen h1v hcv hcell hm hm2 hne hne2 g0 g1 g2 tv tv ?_;exact⟨_,_,_,rfl,rfl,Nat.le_refl _,rfl⟩
theorem l_q (hb:b.data.toList.length < 1000000000) {a p lv fr o:Nat}{acc:List aT} (hp:p≤6) (hl:a < b.data.toList.length) (h:fe (bt b.data.toList a) p o=true) (h2:p≠4):LC ext b a p lv fr o acc (.ok (acc,a)):=by
 intro s0 f s v q hq hI;have hA:=hI.acc;have hcell:=hI.cell;have hn:=hI.n;have hw:=hI.w;obtain⟨f0,f1,f2,f3,f4,f10,f11,f12,_,_,_,_⟩:=hI;have hlen:=jd hA;have h1v:=je hA;have hcv:=kJ hA;have hm:min s.w s0.n=s0.n:=Nat.min_eq_right hw;have hm2:min (min s.w s.n) s0.n=s0.n:=Nat.min_eq_right om;have hne:(s0.n=s.n)=False:=eq_false om;have hne2:(s.n=s0.n)=False:=eq_false om;rw [bJ] at hq;injection hq with hq;subst hq;have hE:=fun s=>pR (ext:=ext) (b:=b) (i:=a) (o:=o) hp hl s;have g0:(decide (a < b.data.toList.length))=true:=decide_eq_true hl;have g1:(fe (bt b.data.toList a) p o)=true:=h;have g2:(p == 4)=false:=beq_eq_false_iff_ne.2 h2;refine ac fun L hL=>?_;unfold VC;refine MG @dT.eq_1 @ej.eq_1 f0 f1 f2 f3 f4 f10 f11 f12 @aR @aB @az @aA @ay @ae @aj @am @an hlen h1v hcv hcell hm hm2 hne hne2 hE g0 g1 g2 tv ?_;exact⟨_,_,_,rfl,rfl,Nat.le_refl _,bE (xP (tK hA om _) om)⟩
theorem l_a0 (hb:b.data.toList.length < 1000000000) {a lv fr o:Nat}{acc:List aT} (h:fe (bt b.data.toList a) 4 o=true) (h2:a + 1=b.data.toList.length):LC ext b a 4 lv fr o acc (.error (fr,7)):=by
 intro s0 f s v q hq hI;have hA:=hI.acc;have hcell:=hI.cell;have hn:=hI.n;have hw:=hI.w;obtain⟨f0,f1,f2,f3,f4,f10,f11,f12,_,_,_,_⟩:=hI;have hlen:=jd hA;have h1v:=je hA;have hcv:=kJ hA;have hm:min s.w s0.n=s0.n:=Nat.min_eq_right hw;have hm2:min (min s.w s.n) s0.n=s0.n:=Nat.min_eq_right om;have hne:(s0.n=s.n)=False:=eq_false om;have hne2:(s.n=s0.n)=False:=eq_false om;rw [bJ] at hq;injection hq with hq;subst hq;have hp : 4≤6:=om;have hl:a < b.data.toList.length:=om;have hE:=fun s=>pR (ext:=ext) (b:=b) (i:=a) (o:=o) hp hl s;have g0:(decide (a < b.data.toList.length))=true:=decide_eq_true hl;have g1:(fe (bt b.data.toList a) 4 o)=true:=h;have g2:(a + 1 == b.data.toList.length)=true:=by rw [h2]; exact beq_self_eq_true _
 refine ac fun L hL=>?_;unfold VC;simp -implicitDefEqProofs (disch:=omega) only [ZA,Nat.reduceAdd,Nat.reduceEqDiff,↓reduceIte,Nat.reduceLeDiff,reduceCtorEq,Nat.reduceBEq,Nat.reduceLT,aN,bm,bH,au,bS,aP,ck,br,frz,cx,bQ,dK,dT,ej,f0,f1,f2,f3,f4,f10,f11,f12,eB,aR,List.all_cons,List.all_nil,Bool.and_self,aB,az,aA,ay,List.drop_nil,List.take_nil,ae,aj,ig,fw,am,an,hlen,h1v,hcv,hcell,hm,hm2,hne,hne2,hE,g0,g1,g2];exact⟨_,_,_,rfl,rfl,Nat.le_refl _,rfl⟩
theorem l_a (hb:b.data.toList.length < 1000000000) {a lv fr o:Nat}{acc:List aT} (h:fe (bt b.data.toList a) 4 o=true) (h2:a + 1 < b.data.toList.length) (h3:bt b.data.toList (a + 1)=41):LC ext b a 4 lv fr o acc (.ok (acc,a)):=by
 intro s0 f s v q hq hI;have hA:=hI.acc;have hcell:=hI.cell;have hn:=hI.n;have hw:=hI.w;obtain⟨f0,f1,f2,f3,f4,f10,f11,f12,_,_,_,_⟩:=hI;have hlen:=jd hA;have h1v:=je hA;have hcv:=kJ hA;have hm:min s.w s0.n=s0.n:=Nat.min_eq_right hw;have hm2:min (min s.w s.n) s0.n=s0.n:=Nat.min_eq_right om;have hne:(s0.n=s.n)=False:=eq_false om;have hne2:(s.n=s0.n)=False:=eq_false om;rw [bJ] at hq;injection hq with hq;subst hq;have hp : 4≤6:=om;have hl:a < b.data.toList.length:=om;have hE:=fun s=>pR (ext:=ext) (b:=b) (i:=a) (o:=o) hp hl s;have g0:(decide (a < b.data.toList.length))=true:=decide_eq_true hl;have g1:(fe (bt b.data.toList a) 4 o)=true:=h;have g2:(a + 1 == b.data.toList.length)=false:=bf;have g3:(bt b.data.toList (a + 1) == 41)=true:=by rw [h3]; rfl
 refine ac fun L hL=>?_;unfold VC;simp -implicitDefEqProofs (disch:=omega) only [ZA,Nat.reduceAdd,Nat.reduceEqDiff,↓reduceIte,Nat.reduceLeDiff,reduceCtorEq,Nat.reduceBEq,Nat.reduceLT,aN,bm,bH,au,bS,aP,ck,br,frz,cx,bQ,dK,dT,ej,f0,f1,f2,f3,f4,f10,f11,f12,eB,aR,List.all_cons,List.all_nil,Bool.and_self,aB,az,aA,ay,List.drop_nil,List.take_nil,ae,aj,ig,fw,am,an,hlen,h1v,hcv,hcell,hm,hm2,hne,hne2,hE,h2,g0,g1,g2,g3];exact⟨_,_,_,rfl,rfl,Nat.le_refl _,bE (xP (tK hA om _) om)⟩
theorem l_a1 (hb:b.data.toList.length < 1000000000) {a lv fr o:Nat}{acc:List aT} (h:fe (bt b.data.toList a) 4 o=true) (h2:a + 1 < b.data.toList.length) (h3:bt b.data.toList (a + 1)≠41):LC ext b a 4 lv fr o acc (.error (a,6)):=by
 intro s0 f s v q hq hI;have hA:=hI.acc;have hcell:=hI.cell;have hn:=hI.n;have hw:=hI.w;obtain⟨f0,f1,f2,f3,f4,f10,f11,f12,_,_,_,_⟩:=hI;have hlen:=jd hA;have h1v:=je hA;have hcv:=kJ hA;have hm:min s.w s0.n=s0.n:=Nat.min_eq_right hw;have hm2:min (min s.w s.n) s0.n=s0.n:=Nat.min_eq_right om;have hne:(s0.n=s.n)=False:=eq_false om;have hne2:(s.n=s0.n)=False:=eq_false om;rw [bJ] at hq;injection hq with hq;subst hq;have hp : 4≤6:=om;have hl:a < b.data.toList.length:=om;have hE:=fun s=>pR (ext:=ext) (b:=b) (i:=a) (o:=o) hp hl s;have g0:(decide (a < b.data.toList.length))=true:=decide_eq_true hl;have g1:(fe (bt b.data.toList a) 4 o)=true:=h;have g2:(a + 1 == b.data.toList.length)=false:=bf;have g3:(bt b.data.toList (a + 1) == 41)=false:=beq_eq_false_iff_ne.2 h3;refine ac fun L hL=>?_;unfold VC;simp -implicitDefEqProofs (disch:=omega) only [ZA,Nat.reduceAdd,Nat.reduceEqDiff,↓reduceIte,Nat.reduceLeDiff,reduceCtorEq,Nat.reduceBEq,Nat.reduceLT,aN,bm,bH,au,bS,aP,ck,br,frz,cx,bQ,dK,dT,ej,f0,f1,f2,f3,f4,f10,f11,f12,eB,aR,List.all_cons,List.all_nil,Bool.and_self,aB,az,aA,ay,List.drop_nil,List.take_nil,ae,aj,ig,fw,am,an,hlen,h1v,hcv,hcell,hm,hm2,hne,hne2,hE,h2,g0,g1,g2,g3];exact⟨_,_,_,rfl,rfl,Nat.le_refl _,rfl⟩
theorem l_tilde (hb:b.data.toList.length < 1000000000) {a p lv fr o:Nat} (hp:p≤6) (hl:a < b.data.toList.length) (h:fe (bt b.data.toList a) p o=false) (h2:lu b.data.toList a p true) (r:R) (ih:LC ext b (a + 1) p lv fr o [pF] r):LC ext b a p lv fr o [] (r):=by
 intro s0 f s v q hq hI;have hA:=hI.acc;have hcell:=hI.cell;have hn:=hI.n;have hw:=hI.w;obtain⟨f0,f1,f2,f3,f4,f10,f11,f12,_,_,_,_⟩:=hI;have hlen:=jd hA;have h1v:=je hA;have hcv:=kJ hA;have hm:min s.w s0.n=s0.n:=Nat.min_eq_right hw;have hm2:min (min s.w s.n) s0.n=s0.n:=Nat.min_eq_right om;have hne:(s0.n=s.n)=False:=eq_false om;have hne2:(s.n=s0.n)=False:=eq_false om;have hE:=fun s=>pR (ext:=ext) (b:=b) (i:=a) (o:=o) hp hl s;have hT:=fun s=>yn (ext:=ext) (b:=b) om hp hl h2 s;have hel:=rV (e:=90) s (dL pF);rw [gG] at hel;obtain⟨v1,s1,a1,a2⟩:=nW hA om (by simp) pF;have eP:dL pF=[.sc (.int .i64 7),.sc (.string ⟨#[]⟩),.sc (.int .i64 0),.sc (.bool false),.sc (.slice none 0 0)]:=by rw [pF,dL,dm]
 rw [eP] at hel a1;have g0:(decide (a < b.data.toList.length))=true:=decide_eq_true hl;have g1:(fe (bt b.data.toList a) p o)=false:=h;have g2:(([]:List aT).length == 0)=true:=rfl;refine ac fun L hL=>?_;unfold VC;refine nN @dT.eq_1 @ej.eq_1 f0 f1 f2 f3 f4 f10 f11 f12 @aR @aB @az @aA @ay @ae @aj @am @an hlen h1v hcv hcell hm hm2 hne hne2 hE hT hel a1 g0 g1 g2 tv tv tv tv tv tv ?_;subst hL;refine ih s0 _ s1 v1 q hq ⟨aL f0,bh,aL f2,aL f3,aL f4,aL f10,bh,aL f12,a2.acc,?_,by have:=a2.n; omega,a2.w _ om hw⟩;rw [a2.same _ om]; exact hcell
end Go.Proofs.YtflfflfodghgpaaGreatDoor
set_option linter.unusedSimpArgs false
namespace Go.Proofs.YtflfflfodghgpaaGreatDoor
open Go Go.EvL Go.PE Go.Mir
variable {ext:ai}{b:ByteArray}
structure O5 (b:ByteArray) (p lv fr o:Nat) (acc:List aT) (v:PV) (ps:List aT) (j:Nat) (s0:PS) (k:Nat) (f:aO) (s:PS):Prop where
 f0:f 0=.sc (.string b)
 f2:f 2=iN p
 f3:f 3=iN lv
 f4:f 4=iN fr
 f10:f 10=.ptr s0.n 0 3
 f11:f 11=v
 f12:f 12=iN o
 f13:f 13=.ptr k 0 3
 f14:f 14=.sc (.int .i64 0)
 acc:jv 90 5 dL (s0.n + 1) acc v s
 cell:s.h s0.n=⟨[.sc (.slice none 0 0),.sc (.int .i64 0),.sc (.int .i64 0)],0,314⟩
 x:s.h k=⟨[dm ps,iN j,.sc (.int .i64 0)],3,314⟩
 kn:k < s.n
 ne:∀a m c,v≠.own k a m c
 n:s0.n + 1≤s.n
 w:s0.n≤s.w
theorem Ig (p:aT):dm [p]=.lit 90 1 (dL p):=by
 rw [dm,t8,List.append_nil]; rfl
theorem I4 {p lv fr o:Nat}{acc:List aT}{v:PV}{ps:List aT}{j:Nat}{s0:PS}{k:Nat} (hps:ps.length≤1) (hacc:acc.length < 1000000000) (htx:∀q∈ps,q.kind=1→∀x,acc.getLast?=some x→x.kind=1→x.text.length + q.text.length < 4611686018427387904) {f:aO}{s:PS} (h:O5 b p lv fr o acc v ps j s0 k f s) :
  ∃f' s' v',LP Tryz.prog Γ ext 2 pE rC f s=some (.normal,f',s')∧PI b j p lv fr o (ps.foldl lZ acc) v' s0 f' s':=by
 obtain⟨f0,f2,f3,f4,f10,f11,f12,f13,f14,hA,hcell,hx,hk,hne,hn,hw⟩:=h
 match ps,hps with
 | [],_=>
  rw [dm] at hx;have z0:decide ((0:Int) < 0)=false:=rfl;rw [oi,zK];refine rG @xy.eq_1 f0 f2 f3 f4 f10 f11 f12 f13 f14 hx z0 @AX @zU @AO @HS @DX.eq_1 tv tv ?_;exact⟨_,_,v,rfl,⟨aL f0,bh,aL f2,aL f3,aL f4,aL f10,aL f11,aL f12,hA,hcell,hn,hw⟩⟩
 | [.mk kd t op c pp],_=>
  have eP:dL (.mk kd t op c pp)=[.sc (.int .i64 kd),.sc (.string ⟨⟨t⟩⟩),.sc (.int .i64 op),.sc (.bool c),dm pp]:=by rw [dL]
  rw [Ig] at hx;have z0:decide ((0:Int) < ((1:Nat):Int))=true:=rfl;have z1:decide ((1:Int) < ((1:Nat):Int))=false:=rfl;have wk:IntKind.i64.wrap (0 + 1)=1:=rfl;have l01 : 0 < 1:=om;have hfold:[aT.mk kd t op c pp].foldl lZ acc=lZ acc (.mk kd t op c pp):=rfl;rw [hfold];by_cases h1:kd=1
  ·subst h1;have ha1:lZ acc (.mk 1 t op c pp)=lz acc t:=if_pos rfl;rw [ha1];obtain⟨v1,s1,w1,w2⟩:=QH (ext:=ext) (t:=t) hA hn om (fun x hx hx1=>htx _ List.mem_cons_self rfl x hx hx1);have hx1:s1.h k=⟨[.lit 90 1 (dL (.mk 1 t op c pp)),iN j,.sc (.int .i64 0)],3,314⟩:=by rw [w2.keep k hk hne]; exact hx
   rw [eP] at hx hx1;rw [oi,zK];simp -implicitDefEqProofs (disch:=omega) only [ZA,Nat.reduceAdd,Nat.reduceEqDiff,↓reduceIte,Nat.reduceLeDiff,reduceCtorEq,Nat.reduceBEq,Nat.reduceLT,aN,bm,bH,au,bS,aP,ck,br,frz,cx,bQ,dK,xy,f0,f2,f3,f4,f10,f11,f12,f13,f14,hx,eA,z0,l01,Nat.one_mul,Nat.zero_mul,w1,wk,AX,zU,AO,AB];rw [oi,zK];refine Du @xy.eq_1 f0 f2 f3 f4 f10 f11 f12 f13 hx1 @yq z1 @AX @zU @AO @HS @DX.eq_1 tv tv ?_;exact⟨_,_,v1,rfl,⟨fR f0,eY,fR f2,fR f3,fR f4,fR f10,eY,fR f12,w2.acc,(w2.same _ om).trans hcell,by have:=w2.n; omega,w2.w _ om hw⟩⟩
  ·have ha1:lZ acc (.mk kd t op c pp)=acc ++ [.mk kd t op c pp]:=if_neg h1;have hk1:(kd == 1)=false:=beq_eq_false_iff_ne.2 h1;rw [ha1];obtain⟨v1,s1,a1,w2⟩:=nW hA hn om (.mk kd t op c pp);have hel:=rV (e:=90) s (dL (.mk kd t op c pp));rw [gG] at hel;have hx1:s1.h k=⟨[.lit 90 1 (dL (.mk kd t op c pp)),iN j,.sc (.int .i64 0)],3,314⟩:=by rw [w2.keep k hk hne]; exact hx
   rw [eP] at hx hx1 hel a1;rw [oi,zK];simp -implicitDefEqProofs (disch:=omega) only [ZA,Nat.reduceAdd,Nat.reduceEqDiff,↓reduceIte,Nat.reduceLeDiff,reduceCtorEq,Nat.reduceBEq,Nat.reduceLT,aN,bm,bH,au,bS,aP,ck,br,frz,cx,bQ,dK,xy,f0,f2,f3,f4,f10,f11,f12,f13,f14,hx,eA,z0,l01,Nat.one_mul,Nat.zero_mul,hk1,hel,a1,wk,AX,zU,AO,AB,eB,aj,List.drop_nil,List.take_nil];rw [oi,zK];refine Du @xy.eq_1 f0 f2 f3 f4 f10 f11 f12 f13 hx1 @yq z1 @AX @zU @AO @HS @DX.eq_1 tv tv ?_;exact⟨_,_,v1,rfl,⟨fR f0,eY,fR f2,fR f3,fR f4,fR f10,eY,fR f12,w2.acc,(w2.same _ om).trans hcell,by have:=w2.n; omega,w2.w _ om hw⟩⟩
theorem sE {p lv fr o:Nat}{acc:List aT}{v:PV}{ps:List aT}{j:Nat}{s0:PS}{k:Nat} (hps:ps.length≤1) (hacc:acc.length < 1000000000) (htx:∀q∈ps,q.kind=1→∀x,acc.getLast?=some x→x.kind=1→x.text.length + q.text.length < 4611686018427387904) {f:aO}{s:PS}{V:aO→PS→Prop}{L:aO→PS→jI}{id:Nat}{rest:bw} (h:O5 b p lv fr o acc v ps j s0 k f s)
  (hk:∀f' s' v',PI b j p lv fr o (ps.foldl lZ acc) v' s0 f' s'→Er V (L f' s')):Er V (KP Tryz.prog Γ ext L id rest (ip 1 (LP Tryz.prog Γ ext 2 pE rC f s))):=by
 obtain⟨f',s',v',e,hI⟩:=I4 hps hacc htx h;rw [e,lF,JV];exact hk f' s' v' hI
end Go.Proofs.YtflfflfodghgpaaGreatDoor
set_option linter.unusedSimpArgs false
namespace Go.Proofs.YtflfflfodghgpaaGreatDoor
open Go Go.EvL Go.PE Go.Mir
variable {ext:ai}{b:ByteArray}
theorem l_err (hb:b.data.toList.length < 1000000000) {a p lv fr o:Nat}{acc:List aT} (hp:p≤6) (hl:a < b.data.toList.length) (ho:o≤a) (h:fe (bt b.data.toList a) p o=false) (h2:acc=[]→lu b.data.toList a p false) {x e:Nat} (he:e≠0) (hC:∀s,Pc ext 350 [.sc (.string b),iN a,iN p,iN lv] (.agg [.sc (.slice none 0 0),iN x,iN e]) s):LC ext b a p lv fr o acc (.error (x,e)):=by
 intro s0 f s v q hq hI;have hA:=hI.acc;have hcell:=hI.cell;have hn:=hI.n;have hw:=hI.w;obtain⟨f0,f1,f2,f3,f4,f10,f11,f12,_,_,_,_⟩:=hI;have hlen:=jd hA;have h1v:=je hA;have hcv:=kJ hA;have hm2:min (min s.w s.n) s0.n=s0.n:=Nat.min_eq_right om;have hne:(s0.n=s.n)=False:=eq_false om;have hne2:(s.n=s0.n)=False:=eq_false om;have hE:=fun s=>pR (ext:=ext) (b:=b) (i:=a) (o:=o) hp hl s;have e1:decide (a < b.data.toList.length)=true:=decide_eq_true hl;rw [bJ] at hq;injection hq with hq;subst hq;have ge:(e == 0)=false:=beq_eq_false_iff_ne.2 he;have hT:(acc.length == 0)=true→∀s,Pc ext 349 [.sc (.string b),iN a,iN p] (.sc (.bool false)) s:=fun hz s=>yn (ext:=ext) (b:=b) om hp hl (h2 (List.eq_nil_of_length_eq_zero (eq_of_beq hz))) s;cases hz:acc.length == 0 with
 | true=>
  have hT0:=hT hz;cases g4:p == 4 with
  | false=>
   refine ac fun L hL=>?_;unfold VC;refine nN @dT.eq_1 @ej.eq_1 f0 f1 f2 f3 f4 f10 f11 f12 @aR @aB @az @aA @ay @ae @aj @am @an hlen h1v hcv hcell hm2 hne hne2 hE h e1 hl hC ge hz hT0 g4 tv tv tv tv tv ?_;exact⟨_,_,_,rfl,rfl,Nat.le_refl _,rfl⟩
  | true=>
   have p4:=eq_of_beq g4;cases q40:bt b.data.toList a == 40 with
   | true=>
    have q41:(bt b.data.toList a == 41)=false:=by rw [eq_of_beq q40]; rfl
    refine ac fun L hL=>?_;unfold VC;refine nN @dT.eq_1 @ej.eq_1 f0 f1 f2 f3 f4 f10 f11 f12 @aR @aB @az @aA @ay @ae @aj @am @an hlen h1v hcv hcell hm2 hne hne2 hE h e1 hl hC ge hz hT0 g4 q40 q41 tv tv tv ?_;exact⟨_,_,_,rfl,rfl,Nat.le_refl _,rfl⟩
   | false=>
    cases q41:bt b.data.toList a == 41 with
    | true=>
     have ho1 : 1≤o:=by
      cases o with
      | zero=>rw [p4,eq_of_beq q41] at h; cases h
      | succ o=>omega
     refine ac fun L hL=>?_;unfold VC;refine nN @dT.eq_1 @ej.eq_1 f0 f1 f2 f3 f4 f10 f11 f12 @aR @aB @az @aA @ay @ae @aj @am @an hlen h1v hcv hcell hm2 hne hne2 hE h e1 hl hC ge hz hT0 g4 q40 q41 tv tv tv ?_;exact⟨_,_,_,rfl,rfl,Nat.le_refl _,rfl⟩
    | false=>
     refine ac fun L hL=>?_;unfold VC;refine nN @dT.eq_1 @ej.eq_1 f0 f1 f2 f3 f4 f10 f11 f12 @aR @aB @az @aA @ay @ae @aj @am @an hlen h1v hcv hcell hm2 hne hne2 hE h e1 hl hC ge hz hT0 g4 q40 q41 tv tv tv ?_;exact⟨_,_,_,rfl,rfl,Nat.le_refl _,rfl⟩
 | false=>
  cases g4:p == 4 with
  | false=>
   refine ac fun L hL=>?_;unfold VC;refine nN @dT.eq_1 @ej.eq_1 f0 f1 f2 f3 f4 f10 f11 f12 @aR @aB @az @aA @ay @ae @aj @am @an hlen h1v hcv hcell hm2 hne hne2 hE h e1 hl hC ge hz g4 tv tv tv tv tv tv ?_;exact⟨_,_,_,rfl,rfl,Nat.le_refl _,rfl⟩
  | true=>
   have p4:=eq_of_beq g4;cases q40:bt b.data.toList a == 40 with
   | true=>
    have q41:(bt b.data.toList a == 41)=false:=by rw [eq_of_beq q40]; rfl
    refine ac fun L hL=>?_;unfold VC;refine nN @dT.eq_1 @ej.eq_1 f0 f1 f2 f3 f4 f10 f11 f12 @aR @aB @az @aA @ay @ae @aj @am @an hlen h1v hcv hcell hm2 hne hne2 hE h e1 hl hC ge hz g4 q40 q41 tv tv tv tv ?_;exact⟨_,_,_,rfl,rfl,Nat.le_refl _,rfl⟩
   | false=>
    cases q41:bt b.data.toList a == 41 with
    | true=>
     have ho1 : 1≤o:=by
      cases o with
      | zero=>rw [p4,eq_of_beq q41] at h; cases h
      | succ o=>omega
     refine ac fun L hL=>?_;unfold VC;refine nN @dT.eq_1 @ej.eq_1 f0 f1 f2 f3 f4 f10 f11 f12 @aR @aB @az @aA @ay @ae @aj @am @an hlen h1v hcv hcell hm2 hne hne2 hE h e1 hl hC ge hz g4 q40 q41 tv tv tv tv ?_;exact⟨_,_,_,rfl,rfl,Nat.le_refl _,rfl⟩
    | false=>
     refine ac fun L hL=>?_;unfold VC;refine nN @dT.eq_1 @ej.eq_1 f0 f1 f2 f3 f4 f10 f11 f12 @aR @aB @az @aA @ay @ae @aj @am @an hlen h1v hcv hcell hm2 hne hne2 hE h e1 hl hC ge hz g4 q40 q41 tv tv tv tv ?_;exact⟨_,_,_,rfl,rfl,Nat.le_refl _,rfl⟩
theorem l_on (hb:b.data.toList.length < 1000000000) {a p lv fr o:Nat}{acc:List aT} (hp:p≤6) (hl:a < b.data.toList.length) (ho:o≤a) (h:fe (bt b.data.toList a) p o=false) (h2:acc=[]→lu b.data.toList a p false) {ps:List aT}{j:Nat} (hC:∀s,Pc ext 350 [.sc (.string b),iN a,iN p,iN lv] (.agg [dm ps,iN j,.sc (.int .i64 0)]) s) (hps:ps.length≤1) (hal:acc.length≤a) (htx:∀q∈ps,q.kind=1→∀x,acc.getLast?=some x→x.kind=1→x.text.length + q.text.length < 4611686018427387904) (r:R) (ih2:LC ext b j p lv fr (if p=4 then cI (bt b.data.toList a) o else o) (ps.foldl lZ acc) r):LC ext b a p lv fr o acc (r):=by
 intro s0 f s v q hq hI;have hA:=hI.acc;have hcell:=hI.cell;have hn:=hI.n;have hw:=hI.w;obtain⟨f0,f1,f2,f3,f4,f10,f11,f12,_,_,_,_⟩:=hI;have hlen:=jd hA;have h1v:=je hA;have hcv:=kJ hA;have hm2:min (min s.w s.n) s0.n=s0.n:=Nat.min_eq_right om;have hne:(s0.n=s.n)=False:=eq_false om;have hne2:(s.n=s0.n)=False:=eq_false om;have hE:=fun s=>pR (ext:=ext) (b:=b) (i:=a) (o:=o) hp hl s;have e1:decide (a < b.data.toList.length)=true:=decide_eq_true hl;have hT:(acc.length == 0)=true→∀s,Pc ext 349 [.sc (.string b),iN a,iN p] (.sc (.bool false)) s:=fun hz s=>yn (ext:=ext) (b:=b) om hp hl (h2 (List.eq_nil_of_length_eq_zero (eq_of_beq hz))) s;cases hz:acc.length == 0 with
 | true=>
  have hT0:=hT hz;cases g4:p == 4 with
  | false=>
   refine ac fun L hL=>?_;refine nN @dT.eq_1 @ej.eq_1 f0 f1 f2 f3 f4 f10 f11 f12 @aR @aB @az @aA @ay @ae @aj @am @an hlen h1v hcv hcell hm2 hne hne2 hE h e1 hl hC hz hT0 g4 tv tv tv tv tv tv ?_;subst hL;have hov:(if p=4 then cI (bt b.data.toList a) o else o)=o:=if_neg (ad g4);rw [hov] at ih2;refine sE (k:=s.n) (s0:=s0) (acc:=acc) (v:=v) (ps:=ps) (j:=j) hps om htx ⟨aL f0,aL f2,aL f3,aL f4,aL f10,aL f11,aL f12,bh,bh,?_,?_,?_,?_,jE hA s.n (.inr (Nat.le_refl _)),?_,?_⟩ fun f' s' v' hI'=>ih2 s0 f' s' v' q hq hI'
   ·exact jv.frame hA (by rw [ek,cR]; omega) fun i hi=>by rw [dD,if_neg om,dw,if_neg om]
   ·rw [dD,if_neg om,dw,if_neg om]; exact hcell
   ·rw [dD,if_pos rfl]
   ·rw [ek,cR]; omega
   ·rw [ek,cR]; omega
   ·rw [kC,gV]; omega
  | true=>
   have p4:=eq_of_beq g4;cases q40:bt b.data.toList a == 40 with
   | true=>
    have q41:(bt b.data.toList a == 41)=false:=by rw [eq_of_beq q40]; rfl
    refine ac fun L hL=>?_;refine nN @dT.eq_1 @ej.eq_1 f0 f1 f2 f3 f4 f10 f11 f12 @aR @aB @az @aA @ay @ae @aj @am @an hlen h1v hcv hcell hm2 hne hne2 hE h e1 hl hC hz hT0 g4 q40 q41 tv tv tv tv ?_;subst hL;have hov:(if p=4 then cI (bt b.data.toList a) o else o)=o + 1:=by rw [if_pos p4]; unfold cI; rw [if_pos (eq_of_beq q40)]
    rw [hov] at ih2;refine sE (k:=s.n) (s0:=s0) (acc:=acc) (v:=v) (ps:=ps) (j:=j) hps om htx ⟨aL f0,aL f2,aL f3,aL f4,aL f10,aL f11,aL f12,bh,bh,?_,?_,?_,?_,jE hA s.n (.inr (Nat.le_refl _)),?_,?_⟩ fun f' s' v' hI'=>ih2 s0 f' s' v' q hq hI'
    ·exact jv.frame hA (by rw [ek,cR]; omega) fun i hi=>by rw [dD,if_neg om,dw,if_neg om]
    ·rw [dD,if_neg om,dw,if_neg om]; exact hcell
    ·rw [dD,if_pos rfl]
    ·rw [ek,cR]; omega
    ·rw [ek,cR]; omega
    ·rw [kC,gV]; omega
   | false=>
    cases q41:bt b.data.toList a == 41 with
    | true=>
     have ho1 : 1≤o:=by
      cases o with
      | zero=>rw [p4,eq_of_beq q41] at h; cases h
      | succ o=>omega
     refine ac fun L hL=>?_;refine nN @dT.eq_1 @ej.eq_1 f0 f1 f2 f3 f4 f10 f11 f12 @aR @aB @az @aA @ay @ae @aj @am @an hlen h1v hcv hcell hm2 hne hne2 hE h e1 hl hC hz hT0 g4 q40 q41 tv tv tv tv ?_;subst hL;have hov:(if p=4 then cI (bt b.data.toList a) o else o)=o - 1:=by rw [if_pos p4]; unfold cI; rw [if_neg (ad q40),if_pos (eq_of_beq q41)]
     rw [hov] at ih2;refine sE (k:=s.n) (s0:=s0) (acc:=acc) (v:=v) (ps:=ps) (j:=j) hps om htx ⟨aL f0,aL f2,aL f3,aL f4,aL f10,aL f11,aL f12,bh,bh,?_,?_,?_,?_,jE hA s.n (.inr (Nat.le_refl _)),?_,?_⟩ fun f' s' v' hI'=>ih2 s0 f' s' v' q hq hI'
     ·exact jv.frame hA (by rw [ek,cR]; omega) fun i hi=>by rw [dD,if_neg om,dw,if_neg om]
     ·rw [dD,if_neg om,dw,if_neg om]; exact hcell
     ·rw [dD,if_pos rfl]
     ·rw [ek,cR]; omega
     ·rw [ek,cR]; omega
     ·rw [kC,gV]; omega
    | false=>
     refine ac fun L hL=>?_;refine nN @dT.eq_1 @ej.eq_1 f0 f1 f2 f3 f4 f10 f11 f12 @aR @aB @az @aA @ay @ae @aj @am @an hlen h1v hcv hcell hm2 hne hne2 hE h e1 hl hC hz hT0 g4 q40 q41 tv tv tv tv ?_;subst hL;have hov:(if p=4 then cI (bt b.data.toList a) o else o)=o:=by rw [if_pos p4]; unfold cI; rw [if_neg (ad q40),if_neg (ad q41)]
     rw [hov] at ih2;refine sE (k:=s.n) (s0:=s0) (acc:=acc) (v:=v) (ps:=ps) (j:=j) hps om htx ⟨aL f0,aL f2,aL f3,aL f4,aL f10,aL f11,aL f12,bh,bh,?_,?_,?_,?_,jE hA s.n (.inr (Nat.le_refl _)),?_,?_⟩ fun f' s' v' hI'=>ih2 s0 f' s' v' q hq hI'
     ·exact jv.frame hA (by rw [ek,cR]; omega) fun i hi=>by rw [dD,if_neg om,dw,if_neg om]
     ·rw [dD,if_neg om,dw,if_neg om]; exact hcell
     ·rw [dD,if_pos rfl]
     ·rw [ek,cR]; omega
     ·rw [ek,cR]; omega
     ·rw [kC,gV]; omega
 | false=>
  cases g4:p == 4 with
  | false=>
   refine ac fun L hL=>?_;refine nN @dT.eq_1 @ej.eq_1 f0 f1 f2 f3 f4 f10 f11 f12 @aR @aB @az @aA @ay @ae @aj @am @an hlen h1v hcv hcell hm2 hne hne2 hE h e1 hl hC hz g4 tv tv tv tv tv tv tv ?_;subst hL;have hov:(if p=4 then cI (bt b.data.toList a) o else o)=o:=if_neg (ad g4);rw [hov] at ih2;refine sE (k:=s.n) (s0:=s0) (acc:=acc) (v:=v) (ps:=ps) (j:=j) hps om htx ⟨aL f0,aL f2,aL f3,aL f4,aL f10,aL f11,aL f12,bh,bh,?_,?_,?_,?_,jE hA s.n (.inr (Nat.le_refl _)),?_,?_⟩ fun f' s' v' hI'=>ih2 s0 f' s' v' q hq hI'
   ·exact jv.frame hA (by rw [ek,cR]; omega) fun i hi=>by rw [dD,if_neg om,dw,if_neg om]
   ·rw [dD,if_neg om,dw,if_neg om]; exact hcell
   ·rw [dD,if_pos rfl]
   ·rw [ek,cR]; omega
   ·rw [ek,cR]; omega
   ·rw [kC,gV]; omega
  | true=>
   have p4:=eq_of_beq g4;cases q40:bt b.data.toList a == 40 with
   | true=>
    have q41:(bt b.data.toList a == 41)=false:=by rw [eq_of_beq q40]; rfl
    refine ac fun L hL=>?_;refine nN @dT.eq_1 @ej.eq_1 f0 f1 f2 f3 f4 f10 f11 f12 @aR @aB @az @aA @ay @ae @aj @am @an hlen h1v hcv hcell hm2 hne hne2 hE h e1 hl hC hz g4 q40 q41 tv tv tv tv tv ?_;subst hL;have hov:(if p=4 then cI (bt b.data.toList a) o else o)=o + 1:=by rw [if_pos p4]; unfold cI; rw [if_pos (eq_of_beq q40)]
    rw [hov] at ih2;refine sE (k:=s.n) (s0:=s0) (acc:=acc) (v:=v) (ps:=ps) (j:=j) hps om htx ⟨aL f0,aL f2,aL f3,aL f4,aL f10,aL f11,aL f12,bh,bh,?_,?_,?_,?_,jE hA s.n (.inr (Nat.le_refl _)),?_,?_⟩ fun f' s' v' hI'=>ih2 s0 f' s' v' q hq hI'
    ·exact jv.frame hA (by rw [ek,cR]; omega) fun i hi=>by rw [dD,if_neg om,dw,if_neg om]
    ·rw [dD,if_neg om,dw,if_neg om]; exact hcell
    ·rw [dD,if_pos rfl]
    ·rw [ek,cR]; omega
    ·rw [ek,cR]; omega
    ·rw [kC,gV]; omega
   | false=>
    cases q41:bt b.data.toList a == 41 with
    | true=>
     have ho1 : 1≤o:=by
      cases o with
      | zero=>rw [p4,eq_of_beq q41] at h; cases h
      | succ o=>omega
     refine ac fun L hL=>?_;refine nN @dT.eq_1 @ej.eq_1 f0 f1 f2 f3 f4 f10 f11 f12 @aR @aB @az @aA @ay @ae @aj @am @an hlen h1v hcv hcell hm2 hne hne2 hE h e1 hl hC hz g4 q40 q41 tv tv tv tv tv ?_;subst hL;have hov:(if p=4 then cI (bt b.data.toList a) o else o)=o - 1:=by rw [if_pos p4]; unfold cI; rw [if_neg (ad q40),if_pos (eq_of_beq q41)]
     rw [hov] at ih2;refine sE (k:=s.n) (s0:=s0) (acc:=acc) (v:=v) (ps:=ps) (j:=j) hps om htx ⟨aL f0,aL f2,aL f3,aL f4,aL f10,aL f11,aL f12,bh,bh,?_,?_,?_,?_,jE hA s.n (.inr (Nat.le_refl _)),?_,?_⟩ fun f' s' v' hI'=>ih2 s0 f' s' v' q hq hI'
     ·exact jv.frame hA (by rw [ek,cR]; omega) fun i hi=>by rw [dD,if_neg om,dw,if_neg om]
     ·rw [dD,if_neg om,dw,if_neg om]; exact hcell
     ·rw [dD,if_pos rfl]
     ·rw [ek,cR]; omega
     ·rw [ek,cR]; omega
     ·rw [kC,gV]; omega
    | false=>
     refine ac fun L hL=>?_;refine nN @dT.eq_1 @ej.eq_1 f0 f1 f2 f3 f4 f10 f11 f12 @aR @aB @az @aA @ay @ae @aj @am @an hlen h1v hcv hcell hm2 hne hne2 hE h e1 hl hC hz g4 q40 q41 tv tv tv tv tv ?_;subst hL;have hov:(if p=4 then cI (bt b.data.toList a) o else o)=o:=by rw [if_pos p4]; unfold cI; rw [if_neg (ad q40),if_neg (ad q41)]
     rw [hov] at ih2;refine sE (k:=s.n) (s0:=s0) (acc:=acc) (v:=v) (ps:=ps) (j:=j) hps om htx ⟨aL f0,aL f2,aL f3,aL f4,aL f10,aL f11,aL f12,bh,bh,?_,?_,?_,?_,jE hA s.n (.inr (Nat.le_refl _)),?_,?_⟩ fun f' s' v' hI'=>ih2 s0 f' s' v' q hq hI'
     ·exact jv.frame hA (by rw [ek,cR]; omega) fun i hi=>by rw [dD,if_neg om,dw,if_neg om]
     ·rw [dD,if_neg om,dw,if_neg om]; exact hcell
     ·rw [dD,if_pos rfl]
     ·rw [ek,cR]; omega
     ·rw [ek,cR]; omega
     ·rw [kC,gV]; omega
end Go.Proofs.YtflfflfodghgpaaGreatDoor
set_option linter.unusedSimpArgs false
namespace Go.Mir
theorem Wx.err {l:List UInt8}{t:dO}{r:R} (h:Wx l t r):∀x,r=.error x→x.2≠0:=by
 induction h with
 | l_err hl h h2 k ih=>intro x hx; injection hx with hx; subst hx; exact ih _ rfl
 | l_tilde hl h h2 k ih=>exact ih
 | l_on hl h h2 k k2 ih ih2=>exact ih2
 | x_brc h h2 k ih=>exact ih
 | x_ari0 h h2 hl h3 h4 k ih=>intro x hx; injection hx with hx; subst hx; exact ih _ rfl
 | t_dq0 hl h h2 h3 k ih=>intro x hx; injection hx with hx; subst hx; exact ih _ rfl
 | w_err k h h2 h3 h4 h5 h6 h7 k2 ih=>intro x hx; injection hx with hx; subst hx; exact ih _ rfl
 | r_sharp hl h k h2 h3 k2 ih=>exact ih
 | r_two h k2 ih=>exact ih
 | q_err hl h k he=>intro x hx; injection hx with hx; subst hx; exact he
 | x_cmd0 h h2 h3 k he=>intro x hx; injection hx with hx; subst hx; exact he
 | _=>intro x hx; first | (injection hx with hx; subst hx; simp only; omega) | cases hx
theorem Ik (acc:List aT) (q:aT):(lZ acc q).length≤acc.length + 1:=by
 unfold lZ;split
 ·unfold lz;split
  ·rename_i p hp;split
   ·rw [List.length_append,List.length_dropLast];simp only [List.length_cons,List.length_nil];omega
   ·simp
  ·simp
 ·simp
theorem FA {acc:List aT}{q:aT}{a j:Nat} (h:∀x∈acc,x.kind=1→x.text.length≤a) (hq:q.kind=1→q.text.length≤j - a) (haj:a≤j):∀x∈lZ acc q,x.kind=1→x.text.length≤j:=by
 intro x hx hk;have old:∀x∈acc,x.kind=1→x.text.length≤j:=fun x hx hk=>Nat.le_trans (h x hx hk) haj;unfold lZ at hx;split at hx
 ·rename_i hqk;have hq1:=hq hqk;unfold lz at hx;split at hx
  ·rename_i p hp;have hpm:p∈acc:=List.mem_of_getLast? hp;split at hx
   ·rename_i hpk;rcases List.mem_append.1 hx with hx | hx
    ·exact old x ((List.dropLast_sublist acc).subset hx) hk
    ·cases hx with
     | head=>
      have h1:=h p hpm hpk;show (p.text ++ q.text).length≤j;rw [List.length_append]; omega
     | tail _ hx=>cases hx
   ·rcases List.mem_append.1 hx with hx | hx
    ·exact old x hx hk
    ·cases hx with
     | head=>show q.text.length≤j; omega
     | tail _ hx=>cases hx
  ·cases hx with
   | head=>show q.text.length≤j; omega
   | tail _ hx=>cases hx
 ·rename_i hqk;rcases List.mem_append.1 hx with hx | hx
  ·exact old x hx hk
  ·cases hx with
   | head=>exact absurd hk hqk
   | tail _ hx=>cases hx
end Go.Mir
namespace Go.Proofs.YtflfflfodghgpaaGreatDoor
open Go Go.EvL Go.PE Go.Mir
variable {ext:ai}{b:ByteArray}
theorem gJ {a p lv fr:Nat}{r:R} (h:LC ext b a p lv fr 0 [] r) (s:PS):Pc ext 328 [.sc (.string b),iN a,iN p,iN lv,iN fr] (bJ r) s:=by
 obtain⟨q,hq⟩ : ∃q,bJ r=.agg q:=by
  cases r with
  | ok x=>obtain⟨l,j⟩:=x; exact⟨_,rfl⟩
  | error x=>obtain⟨i,e⟩:=x; exact⟨_,rfl⟩
 rw [hq];refine fS s.n (fn:=NG) (r:=10) (m:=3) (by rfl) (by simp [NG]) (by rfl) (by rfl) ?_;unfold NG;refine HQ ?_;exact h s _ _ (.sc (.slice none 0 0)) q hq ⟨eY,eY,eY,eY,eY,eY,eY,by simp -implicitDefEqProofs (disch:=omega) only [ZA,Nat.reduceAdd,Nat.reduceEqDiff,↓reduceIte,Nat.reduceLeDiff,reduceCtorEq,Nat.reduceBEq,Nat.reduceLT,aN,bm,bH,au,bS,aP,ck,br,frz,cx,bQ,dK]; rfl,jv.nil _ _ _ _ _,eY,eY,eY⟩
def WC (ext:ai) (b:ByteArray):dO→R→Prop
 | .loop a p lv fr o acc,r=>p≤6→o≤a→acc.length≤a→(∀x∈acc,x.kind=1→x.text.length≤a)→LC ext b a p lv fr o acc r
 | .part a p lv,r=>p≤6→∀s,Pc ext 350 [.sc (.string b),iN a,iN p,iN lv] (bJ r) s
 | .brc a p lv,r=>p≤6→∀s,Pc ext 396 [.sc (.string b),iN a,iN p,iN lv] (bJ r) s
 | .brc2 a p lv,r=>p≤6→B2 ext b a p lv r
theorem ud {g:Nat}{A C:List PV} (hok:∀(ps:List aT) (j:Nat),(∀s,aU Tryz.prog Γ ext g A s=some (.agg [dm ps,iN j,.sc (.int .i64 0)],s))→∀s,aU Tryz.prog Γ ext 350 C s=some (bJ (.ok (ps,j)),s))
  (her:∀(x e:Nat),(∀s,aU Tryz.prog Γ ext g A s=some (.agg [.sc (.slice none 0 0),iN x,iN e],s))→∀s,aU Tryz.prog Γ ext 350 C s=some (bJ (.error (x,e)),s)) (r:R) (h:∀s,aU Tryz.prog Γ ext g A s=some (bJ r,s)):∀s,aU Tryz.prog Γ ext 350 C s=some (bJ r,s):=by
 cases r with
 | ok x=>obtain⟨ps,j⟩:=x; exact hok ps j h
 | error x=>obtain⟨x,e⟩:=x; exact her x e h
theorem Pj (hb:b.data.toList.length < 1000000000) {a p lv:Nat} (hp:p≤6) (hl:a < b.data.toList.length) (hx:bZ b.data.toList a=true) (r:R) (h:∀s,Pc ext 386 [.sc (.string b),iN a,iN p,iN lv] (bJ r) s) (s:PS):Pc ext 369 [.sc (.string b),iN a,iN p,iN lv] (bJ r) s:=by
 cases r with
 | ok x=>obtain⟨ps,j⟩:=x; exact Hl hb hp hl hx ps j h s
 | error x=>obtain⟨x,e⟩:=x; exact GL hb hp hl hx x e h s
theorem Ed (hb:b.data.toList.length < 1000000000) {a p lv:Nat} (hp:p≤6) (hl:a < b.data.toList.length) (hd:bt b.data.toList a=36) (r:R) (h:∀s,Pc ext 369 [.sc (.string b),iN a,iN p,iN lv] (bJ r) s):∀s,Pc ext 350 [.sc (.string b),iN a,iN p,iN lv] (bJ r) s:=
 ud (fun ps j hC=>Iv hb hp hl hd ps j hC) (fun x e hC=>Ic hb hp hl hd x e hC) r h
theorem rp (hb:b.data.toList.length < 1000000000) {a p lv:Nat} (hp:p≤6) (hl:a < b.data.toList.length) (hx:bZ b.data.toList a=true) (r:R) (h:∀s,Pc ext 386 [.sc (.string b),iN a,iN p,iN lv] (bJ r) s):∀s,Pc ext 350 [.sc (.string b),iN a,iN p,iN lv] (bJ r) s:=
 Ed hb hp hl (yE hx) r fun s=>Pj hb hp hl hx r h s
theorem qQ (hb:b.data.toList.length < 1000000000) {a p lv:Nat} (hp:p≤6) (hl:a < b.data.toList.length) (hd:bt b.data.toList a=92) (r:R) (h:∀s,Pc ext 367 [.sc (.string b),iN a,iN p] (bJ r) s):∀s,Pc ext 350 [.sc (.string b),iN a,iN p,iN lv] (bJ r) s:=
 ud (fun ps j hC=>Iw hb hp hl hd ps j hC) (fun x e hC=>JC hb hp hl hd x e hC) r h
theorem EO (hb:b.data.toList.length < 1000000000) {a p lv:Nat} (hp:p≤6) (hl:a < b.data.toList.length) (hd:bt b.data.toList a=96) (r:R) (h:∀s,Pc ext 368 [.sc (.string b),iN a] (bJ r) s):∀s,Pc ext 350 [.sc (.string b),iN a,iN p,iN lv] (bJ r) s:=
 ud (fun ps j hC=>Ib hb hp hl hd ps j hC) (fun x e hC=>IR hb hp hl hd x e hC) r h
theorem AT (hb:b.data.toList.length < 1000000000) {a p lv:Nat} (hp:p≤6) (hl:a < b.data.toList.length) (hd:bt b.data.toList a=39∨bt b.data.toList a=34) (ho:cL p=true) (r:R) (h:∀s,Pc ext 370 [.sc (.string b),iN a,iN lv] (bJ r) s):∀s,Pc ext 350 [.sc (.string b),iN a,iN p,iN lv] (bJ r) s:=by
 rcases hd with hd | hd
 ·exact ud (fun ps j hC=>FW hb hp hl hd ho ps j hC) (fun x e hC=>FR hb hp hl hd ho x e hC) r h
 ·exact ud (fun ps j hC=>Gp hb hp hl hd ho ps j hC) (fun x e hC=>Gt hb hp hl hd ho x e hC) r h
end Go.Proofs.YtflfflfodghgpaaGreatDoor
namespace Go.Proofs.YtflfflfodghgpaaGreatDoor
open Go Go.EvL Go.PE Go.Mir
variable {ext:ai}{b:ByteArray}
theorem Ow (hb:b.data.toList.length < 1000000000) {a p lv:Nat} (hp:p≤6) (hx:bZ b.data.toList a=true) (h:bt b.data.toList (a + 1)=123) (r:R) (hC:∀s,Pc ext 396 [.sc (.string b),iN a,iN p,iN lv] (bJ r) s) (s:PS):Pc ext 386 [.sc (.string b),iN a,iN p,iN lv] (bJ r) s:=by
 cases r with
 | ok x=>obtain⟨ps,j⟩:=x; exact FM hb hp hx h ps j hC s
 | error x=>obtain⟨x,e⟩:=x; exact Fo hb hp hx h x e hC s
theorem nV {x:aT}{a:Nat} (h:x∈([]:List aT)):x.kind=1→x.text.length≤a:=by cases h
theorem JR (hb:b.data.toList.length < 1000000000) {t:dO}{r:R} (h:Wx b.data.toList t r):t.ok b.data.toList→WC ext b t r:=by
 have hb2:b.data.toList.length < 4611686018427387904:=om;have hPar:∀{i j:Nat},i7 b.data.toList i j→i≤b.data.toList.length→∀s,Pc ext 403 [.sc (.string b),iN i] (iN j) s:=fun k hi s=>Ax hb2 hi k s
 induction h with
 | @l_end p lv fr o acc h=>
  intro ok hp ho hal htl;rcases h with rfl | rfl
  ·exact Qa hb
  ·exact QF hb
 | l_open h h2=>intro ok hp ho hal htl; exact l_open hb h h2
 | l_q hl h h2=>intro ok hp ho hal htl; exact l_q hb hp hl h h2
 | l_a0 h h2=>intro ok hp ho hal htl; exact l_a0 hb h h2
 | l_a h h2 h3=>intro ok hp ho hal htl; exact l_a hb h h2 h3
 | l_a1 h h2 h3=>intro ok hp ho hal htl; exact l_a1 hb h h2 h3
 | l_tilde hl h h2 k ih=>
  intro ok hp ho hal htl;refine l_tilde hb hp hl h h2 _ (ih (by simp only [dO.ok]; omega) hp om (by simp) fun x hx hk=>?_);cases hx with
  | head=>cases hk
  | tail _ hx=>cases hx
 | @l_err a p lv fr o acc x hl h h2 k ih=>
  intro ok hp ho hal htl;obtain⟨x,e⟩:=x;exact l_err hb hp hl ho h h2 (k.err _ rfl) (ih hl hp)
 | @l_on a p lv fr o acc ps j r hl h h2 k k2 ih ih2=>
  intro ok hp ho hal htl;have hB:=k.bound hl;obtain⟨b1,b2,b3,b4⟩:=hB;simp only at b1 b2 b3 b4;refine l_on hb hp hl ho h h2 (ih hl hp) b3 hal (fun q hq hk x hx hxk=>?_) r (ih2 b2 hp ?_ ?_ ?_)
  ·have h1:=b4 q hq hk;have h3:=htl x (List.mem_of_getLast? hx) hxk;omega
  ·split
   ·unfold cI; split
    ·omega
    ·split<;>omega
   ·omega
  ·match ps,b3 with
   | [],_=>show acc.length≤j; omega
   | [q],_=>have:=Ik acc q; show (lZ acc q).length≤j; omega
  ·match ps,b3,b4 with
   | [],_,_=>exact fun x hx hk=>Nat.le_trans (htl x hx hk) om
   | [q],_,b4=>exact FA htl (fun hk=>b4 q List.mem_cons_self hk) om
 | s_end5 h h2=>intro ok hp; exact qQ hb hp ok h _ fun s=>KU hb h2 s
 | s_end h h2 h3=>intro ok hp; exact qQ hb hp ok h _ fun s=>OD hb h2 h3 s
 | s_nl h h2 h3=>intro ok hp; exact qQ hb hp ok h _ fun s=>SD hb h2 h3 s
 | s_out h h2 h3 h4=>intro ok hp; exact qQ hb hp ok h _ fun s=>Oj hb hp h2 h3 h4 s
 | s_esc h h2 h3 h4 h5=>intro ok hp; exact qQ hb hp ok h _ fun s=>P2 hb hp h2 h3 h4 h5 s
 | s_par h h2 h3=>
  intro ok hp;rcases h3 with h3 | h3
  ·exact qQ hb hp ok h _ fun s=>Jb hb h2 h3 s
  ·exact qQ hb hp ok h _ fun s=>Jc hb h2 h3 s
 | @s_two a p lv h h2 h3 h4 h5 h6=>
  intro ok hp;by_cases h7:p=4
  ·subst h7;exact qQ hb hp ok h _ fun s=>Lh hb h2 h3 h5 (h6 rfl).1 (h6 rfl).2 s
  ·exact qQ hb hp ok h _ fun s=>QK hb hp h2 h3 h4 h5 h7 s
 | q_err hl h k he=>intro ok hp; exact EO hb hp ok h _ fun s=>QN hb hl h k he s
 | q_ok hl h k c=>intro ok hp; exact EO hb hp ok h _ fun s=>HV hb hl h k _ (fun s q f hq hI h7=>C6 rfl (BE hb hl h k) c hq f hI h7) s
 | q_nl hl h k c c2=>intro ok hp; exact EO hb hp ok h _ fun s=>HV hb hl h k _ (fun s q f hq hI h7=>Do rfl (BE hb hl h k) c c2 hq f hI h7) s
 | q_no hl h k c c2=>intro ok hp; exact EO hb hp ok h _ fun s=>HV hb hl h k _ (fun s q f hq hI h7=>Da rfl (BE hb hl h k) c c2 hq f hI h7) s
 | x_brc h h2 k ih=>intro ok hp; have hl:=bL h; exact rp hb hp ok h _ fun s=>Ow hb hp h h2 _ (ih (by simp only [dO.ok]; omega) hp) s
 | x_deep h h2 hl h3 h4=>intro ok hp; exact rp hb hp ok h _ fun s=>MU hb hp h h2 hl h3 h4 s
 | @x_ari a p lv ps j h h2 hl h3 h4 k ih=>
  intro ok hp;have hB:=k.bound (by simp only [dO.ok]; omega);exact rp hb hp ok h _ fun s=>QV hb hp h h2 hl h3 h4 ps j hB.2.1 (gJ (ih (by simp only [dO.ok]; omega) om om (by simp) fun x hx=>nV hx)) s
 | @x_ari0 a p lv x h h2 hl h3 h4 k ih=>
  intro ok hp;obtain⟨x,e⟩:=x;exact rp hb hp ok h _ fun s=>KL hb hp h h2 hl h3 h4 x e (k.err _ rfl) (gJ (ih (by simp only [dO.ok]; omega) om om (by simp) fun x hx=>nV hx)) s
 | @x_cmd a p lv r h h2 h3 k=>
  intro ok hp;have hl:=bL h;have hB:=k.bound ⟨om,om⟩;have hB2:=hB.2 rfl;simp only [fV.at] at hB2;exact rp hb hp ok h _ fun s=>Qw hb hp h h2 h3 r om hB.1 (pT hb2 (.p_exp (p:=ql p) h (.e_cmd h2 h3 k)) ok) s
 | @x_cmd0 a p lv r e h h2 h3 k he=>intro ok hp; exact rp hb hp ok h _ fun s=>KW hb hp h h2 h3 r e he (pT hb2 (.p_exp (p:=ql p) h (.e_cmd h2 h3 k)) ok) s
 | x_sp h h2=>intro ok hp; exact rp hb hp ok h _ fun s=>S7 hb hp h h2 s
 | x_long h h2 h3 h4 h5=>intro ok hp; exact rp hb hp ok h _ fun s=>Mr hb hp h h2 h3 h4 om s
 | x_nm h h2 h3 h4 h5=>intro ok hp; exact rp hb hp ok h _ fun s=>RO hb hp h h2 h3 h4 om s
 | x_bad hl h h2 h3 h4=>
  intro ok hp;rcases h4 with h4 | h4
  ·exact Ed hb hp hl h _ fun s=>No hb hp hl h2 h3 h4.1 h4.2 s
  ·exact Ed hb hp hl h _ fun s=>Mj hb hp hl h2 h3 h4 s
 | x_lit hl h h2 h3=>intro ok hp; exact Ed hb hp hl h _ fun s=>P8 hb hp hl h2 h3 s
 | t_sq0 hl h h2 h3=>intro ok hp; exact AT hb hp hl (.inl h) h2 _ fun s=>Pr hb hl h om (pT hb2 (.p_sq0 hl h h3) ok) s
 | @t_sq a p lv hl h h2 h3=>intro ok hp; have hg:=mW (fun x=>x != 39) b.data.toList (a + 1); exact AT hb hp hl (.inl h) h2 _ fun s=>RN hb hl h (by unfold cu at *; omega) om (pT hb2 (.p_sq hl h h3) ok) s
 | t_deep hl h h2 h3=>intro ok hp; exact AT hb hp hl (.inr h) h2 _ fun s=>LE hb hl h h3 s
 | @t_dq a p lv ps j hl h h2 h3 k ih=>
  intro ok hp;have hB:=k.bound (by simp only [dO.ok]; omega);exact AT hb hp hl (.inr h) h2 _ fun s=>Rl hb hl h h3 ps j hB.2.1 (gJ (ih (by simp only [dO.ok]; omega) om om (by simp) fun x hx=>nV hx)) s
 | @t_dq0 a p lv x hl h h2 h3 k ih=>
  intro ok hp;obtain⟨x,e⟩:=x;exact AT hb hp hl (.inr h) h2 _ fun s=>Qk hb hl h h3 x e (k.err _ rfl) (gJ (ih (by simp only [dO.ok]; omega) om om (by simp) fun x hx=>nV hx)) s
 | o_op hl h=>intro ok hp; exact fun s=>Sl hb hl h s
 | o_dq hl h=>intro ok hp; exact fun s=>Pf hb hl h s
 | @o_lit a p lv hl h1 h2 h3 h4 h5 h6=>
  intro ok hp;by_cases h0:p=0
  ·subst h0;have h7:=h5 rfl;unfold bR at h7;rw [Bool.or_eq_false_iff,Bool.or_eq_false_iff] at h7;exact fun s=>Lp hb hl h1 h2 h3 (h4 rfl).1 (h4 rfl).2 h7.1.1 h7.1.2 h7.2 s
  ·exact fun s=>Pm hb hp hl h1 h2 h3 h4 h0 h6 s
 | r_long hl h k h2=>intro ok hp; have hd:=k.bd hl; exact fun s=>Nw hb ok hl h hd.2 hd.1 (hPar k hl) om s
 | r_len hl h k h2 h3 h4 h5=>intro ok hp; have hd:=k.bd hl; exact fun s=>PN hb ok hl h hd.2 hd.1 (hPar k hl) om h3 h4 h5 s
 | r_end hl h k h2 h3 h4=>intro ok hp; have hd:=k.bd hl; exact fun s=>PK hb ok hl h hd.2 hd.1 (hPar k hl) om h3 h4 s
 | @r_sharp a p lv j r hl h k h2 h3 k2 ih=>
  intro ok hp;have hd:=k.bd hl;by_cases h4:a + 3 < j
  ·exact fun s=>Ha hb ok hl h hd.2 hd.1 (hPar k hl) om h4 (h3 h4).1 (h3 h4).2 r (ih ok hp) s
  ·exact fun s=>Fh hb ok hl h hd.2 hd.1 (hPar k hl) om h4 r (ih ok hp) s
 | @r_two a p lv r h k2 ih=>
  intro ok hp;by_cases h4:a + 2 < b.data.toList.length
  ·exact fun s=>Kx hb ok h4 (h h4) r (ih ok hp) s
  ·exact fun s=>Mw hb ok h4 r (ih ok hp) s
 | w_long k h=>intro ok hp; have hd:=k.bd ok; exact LF hb hd.2 (hPar k ok) hd.1 h
 | w_end k h h2=>intro ok hp; have hd:=k.bd ok; exact Pv hb hd.2 (hPar k ok) hd.1 h h2
 | w_none k h2=>intro ok hp; exact MF hb ok (hPar k ok) rfl h2
 | w_plain k h h2 h3 h4=>intro ok hp; exact IG hb om (hPar k ok) h h2 h3 h4
 | w_colon0 k h h2 h3 h4 h5 h6 h7=>intro ok hp; exact Fv hb om (hPar k ok) h h2 h3 (gB hb2 h2) h4 h5 h6 h7
 | w_colon k h h2 h3 h4 h5 h6 h7=>intro ok hp; exact JZ hb om (hPar k ok) h h2 h3 (gB hb2 h2) h4 h5 h6 h7
 | w_sharp k h h2 h3 h4 h5 h6 h7 k2=>intro ok hp; exact JP hb om (hPar k ok) h h2 h3 (gB hb2 h2) h4 h5 h6 h7 (hPar k2 om)
 | w_bad k h h2 h3 h4 h5 h6 h7=>intro ok hp; exact Oz hb om (hPar k ok) h h2 h3 (gB hb2 h2) h4 h5 h6 h7
 | w_deep k h h2 h3 h4 h5 h6=>intro ok hp; exact KQ hb om (hPar k ok) h h2 h3 (gB hb2 h2) h4 h5 h6
 | w_join k h h2 h3 h4 h5 h6 h7=>intro ok hp; exact Kr hb om (hPar k ok) h h2 h3 (gB hb2 h2) h4 h5 h6 (mg _ _ h2 h5).1 h7
 | @w_err a p lv j x k h h2 h3 h4 h5 h6 h7 k2 ih=>
  intro ok hp;obtain⟨x,e⟩:=x;have hw:=uw p;exact Pw hb om (hPar k ok) h h2 h3 (gB hb2 h2) h4 h5 h6 hp (mg _ _ h2 h5).1 h7 (k2.err _ rfl) (gJ (ih (mg _ _ h2 h5).1 hw.2.2.2 om (by simp) fun x hx=>nV hx))
 | @w_ok a p lv j ps i k h h2 h3 h4 h5 h6 h7 k2 ih=>
  intro ok hp;have hw:=uw p;have hB:=k2.bound (mg _ _ h2 h5).1;exact Tf hb om (hPar k ok) h h2 h3 (gB hb2 h2) h4 h5 h6 hp (mg _ _ h2 h5).1 h7 (hB.2.2.1 hw.1 hw.2.1) (gJ (ih (mg _ _ h2 h5).1 hw.2.2.2 om (by simp) fun x hx=>nV hx))
end Go.Proofs.YtflfflfodghgpaaGreatDoor
namespace Go.Mir
theorem sL.total (l:List UInt8):∀(m i:Nat),l.length - i < m→∃j,sL l i j:=by
 intro m
 induction m with
 | zero=>intro i h; omega
 | succ m ih=>
  intro i h;cases hj:cF l i with
  | false=>exact⟨_,.stop hj⟩
  | true=>
   have:=iG hj;obtain⟨j,k⟩:=ih (i + 2) (by omega);exact⟨j,.step hj k⟩
theorem lu.total (l:List UInt8) (a p:Nat):∃g,lu l a p g:=by
 cases h:cL p && bt l a == 126 with
 | false=>exact⟨_,.no h⟩
 | true=>
  rw [Bool.and_eq_true,beq_iff_eq] at h;obtain⟨j,k⟩:=sL.total l _ (a + 1) (Nat.lt_succ_self _);exact⟨_,.yes h.1 h.2 k⟩
theorem yM.total (l:List UInt8):∀(m i v:Nat),l.length - i < m→∃j,yM l v i j:=by
 intro m
 induction m with
 | zero=>intro i v h; omega
 | succ m ih=>
  intro i v h;by_cases hl:i < l.length
  ·cases hd:bC (bt l i) with
   | false=>exact⟨_,.stop (.inr (.inl hd))⟩
   | true=>
    by_cases hv : 10 * v + (bt l i - 48)≤2147483647
    ·obtain⟨j,k⟩:=ih (i + 1) (10 * v + (bt l i - 48)) (by omega);exact⟨j,.step hl hd hv k⟩
    ·exact⟨_,.stop (.inr (.inr (by omega)))⟩
  ·exact⟨_,.stop (.inl (by omega))⟩
theorem i7.total (l:List UInt8) (i:Nat):∃j,i7 l i j:=by
 by_cases hl:i < l.length
 ·by_cases h0:bt l i=48
  ·exact⟨_,.zero hl h0⟩
  cases hd:bC (bt l i) with
  | true=>
   obtain⟨j,k⟩:=yM.total l _ i 0 (Nat.lt_succ_self _);exact⟨j,.num hl hd h0 k⟩
  | false=>
   cases hw:dV (bt l i) with
   | true=>exact⟨_,.name hl hd hw⟩
   | false=>
    cases hs:cd (bt l i) with
    | true=>exact⟨_,.spec hl hd hs⟩
    | false=>exact⟨_,.none hl hw hs⟩
 ·exact⟨_,.none0 (by omega)⟩
theorem Closed.total (t:List UInt8):∃g,Closed t g:=by
 obtain⟨r,e,k⟩:=Lx.total (wrap t) _ (.pass 0 0) (Nat.lt_succ_self _) (by show 0 < (wrap t).length; simp [wrap]);exact⟨_,.mk k⟩
def dO.size (l:List UInt8):dO→Nat
 | .loop a _ _ _ _ _=>5 * (l.length - a) + 4
 | .part a _ _=>5 * (l.length - a) + 3
 | .brc a _ _=>5 * (l.length - a) + 2
 | .brc2 a _ _=>5 * (l.length - a) + 1
theorem Wx.total (l:List UInt8):∀(m:Nat) (t:dO),t.size l < m→t.ok l→∃r,Wx l t r:=by
 intro m
 induction m with
 | zero=>intro t h; omega
 | succ m ih=>
  intro t hm ok;cases t with
  | loop a p lv fr o acc=>
   simp only [dO.size,dO.ok] at hm ok;by_cases ha:a=l.length
   ·subst ha;by_cases h:p=0∨p=5
    ·exact⟨_,.l_end h⟩
    ·exact⟨_,.l_open (fun h1=>h (.inl h1)) (fun h1=>h (.inr h1))⟩
   have hl:a < l.length:=by omega
   cases he:fe (bt l a) p o with
   | true=>
    by_cases hp:p=4
    ·subst hp;by_cases h2:a + 1=l.length
     ·exact⟨_,.l_a0 he h2⟩
     ·by_cases h3:bt l (a + 1)=41
      ·exact⟨_,.l_a he (by omega) h3⟩
      ·exact⟨_,.l_a1 he (by omega) h3⟩
    ·exact⟨_,.l_q hl he hp⟩
   | false=>
    obtain⟨g,hg⟩:=lu.total l a p;have step:(acc=[]→lu l a p false)→∃r,Wx l (.loop a p lv fr o acc) r:=by
     intro hT;obtain⟨r,k⟩:=ih (.part a p lv) (by simp only [dO.size]; omega) hl;cases r with
     | error x=>exact⟨_,.l_err hl he hT k⟩
     | ok x=>
      obtain⟨ps,j⟩:=x;have hB:=k.bound hl;obtain⟨b1,b2,_,_⟩:=hB;simp only at b1 b2;obtain⟨r,k2⟩:=ih (.loop j p lv fr (if p=4 then cI (bt l a) o else o) (ps.foldl lZ acc)) (by simp only [dO.size]; omega) b2;exact⟨r,.l_on hl he hT k k2⟩
    cases acc with
    | nil=>
     cases g with
     | true=>
      obtain⟨r,k⟩:=ih (.loop (a + 1) p lv fr o [pF]) (by simp only [dO.size]; omega) (by simp only [dO.ok]; omega);exact⟨r,.l_tilde hl he hg k⟩
     | false=>exact step fun _=>hg
    | cons c acc=>exact step fun h=>by cases h
  | part a p lv=>
   simp only [dO.size,dO.ok] at hm ok;by_cases h92:bt l a=92
   ·by_cases h2:a + 1=l.length
    ·by_cases h5:p=5
     ·subst h5; exact⟨_,.s_end5 h92 h2⟩
     ·exact⟨_,.s_end h92 h2 h5⟩
    have h2':a + 1 < l.length:=by omega
    by_cases h3:bt l (a + 1)=10
    ·exact⟨_,.s_nl h92 h2' h3⟩
    cases h4:cL p with
    | true=>exact⟨_,.s_out h92 h2' h3 h4⟩
    | false=>
     cases h5:bP (bt l (a + 1)) p with
     | true=>exact⟨_,.s_esc h92 h2' h3 h4 h5⟩
     | false=>
      by_cases h6:p=4∧(bt l (a + 1)=40∨bt l (a + 1)=41)
      ·obtain⟨rfl,h6⟩:=h6;exact⟨_,.s_par h92 h2' h6⟩
      ·exact⟨_,.s_two h92 h2' h3 h4 h5 fun hp=>⟨fun h=>h6 ⟨hp,.inl h⟩,fun h=>h6 ⟨hp,.inr h⟩⟩⟩
   by_cases h96:bt l a=96
   ·obtain⟨r,e,k⟩:=Lx.total l _ (.bq (a + 1) a) (Nat.lt_succ_self _) ⟨by omega,ok⟩;by_cases he:e=0
    ·subst he;obtain⟨g,c⟩:=Closed.total (fm (oO (sub l (a + 1) (r - 1))));cases g with
     | true=>exact⟨_,.q_ok ok h96 k c⟩
     | false=>
      obtain⟨g,c2⟩:=Closed.total (fm (oO (sub l (a + 1) (r - 1))) ++ [10]);cases g with
      | true=>exact⟨_,.q_nl ok h96 k c c2⟩
      | false=>exact⟨_,.q_no ok h96 k c c2⟩
    ·exact⟨_,.q_err ok h96 k he⟩
   by_cases h36:bt l a=36
   ·cases hx:bZ l a with
    | true=>
     have hl1:=bL hx;by_cases h1:bt l (a + 1)=123
     ·obtain⟨r,k⟩:=ih (.brc a p lv) (by simp only [dO.size]; omega) (by simp only [dO.ok]; omega);exact⟨r,.x_brc hx h1 k⟩
     by_cases h2:bt l (a + 1)=40
     ·by_cases h3:a + 2 < l.length∧bt l (a + 2)=40
      ·by_cases h4 : 32≤lv
       ·exact⟨_,.x_deep hx h2 h3.1 h3.2 h4⟩
       ·obtain⟨r,k⟩:=ih (.loop (a + 3) 4 (lv + 1) a 0 []) (by simp only [dO.size]; omega) (by simp only [dO.ok]; omega);cases r with
        | error x=>exact⟨_,.x_ari0 hx h2 h3.1 h3.2 (by omega) k⟩
        | ok x=>exact⟨_,.x_ari hx h2 h3.1 h3.2 (by omega) k⟩
      ·have h3':a + 2 < l.length→bt l (a + 2)≠40:=fun h h'=>h3 ⟨h,h'⟩;obtain⟨r,e,k⟩:=Lx.total l _ (.cmd (a + 2) a 1 true) (Nat.lt_succ_self _) ⟨by omega,ok⟩;by_cases he:e=0
       ·subst he; exact⟨_,.x_cmd hx h2 h3' k⟩
       ·exact⟨_,.x_cmd0 hx h2 h3' k he⟩
     cases hs:cd (bt l (a + 1)) with
     | true=>exact⟨_,.x_sp hx hs⟩
     | false=>
      by_cases h5 : 32 < dP l (a + 1) - (a + 1)
      ·exact⟨_,.x_long hx hs h1 h2 h5⟩
      ·exact⟨_,.x_nm hx hs h1 h2 (by omega)⟩
    | false=>
     by_cases h4:cL p=true∧((a + 1 < l.length∧bt l (a + 1)=96)∨cF l (a + 1)=true)
     ·exact⟨_,.x_bad ok h36 hx h4.1 h4.2⟩
     ·refine⟨_,.x_lit ok h36 hx fun ho=>⟨fun h=>h4 ⟨ho,.inl h⟩,?_⟩⟩;cases hj:cF l (a + 1) with
      | false=>rfl
      | true=>exact absurd ⟨ho,.inr hj⟩ h4
   by_cases ho:cL p=true∧(bt l a=39∨bt l a=34)
   ·obtain⟨ho,hq⟩:=ho;by_cases h39:bt l a=39
    ·have:=kr (q:=fun x=>x != 39) (l:=l) (i:=a + 1) (by omega);by_cases h3:cu l 39 (a + 1)=l.length
     ·exact⟨_,.t_sq0 ok h39 ho h3⟩
     ·exact⟨_,.t_sq ok h39 ho (by unfold cu at *; omega)⟩
    have h34:bt l a=34:=hq.resolve_left h39;by_cases h4 : 32≤lv
    ·exact⟨_,.t_deep ok h34 ho h4⟩
    ·obtain⟨r,k⟩:=ih (.loop (a + 1) 2 (lv + 1) a 0 []) (by simp only [dO.size]; omega) (by simp only [dO.ok]; omega);cases r with
     | error x=>exact⟨_,.t_dq0 ok h34 ho (by omega) k⟩
     | ok x=>exact⟨_,.t_dq ok h34 ho (by omega) k⟩
   by_cases h0:p=0∧bR (bt l a)=true
   ·obtain⟨rfl,h0⟩:=h0;exact⟨_,.o_op ok h0⟩
   by_cases h3:p=3∧bt l a=34
   ·obtain⟨rfl,h3⟩:=h3;exact⟨_,.o_dq ok h3⟩
   refine⟨_,.o_lit ok h92 h96 h36 (fun h=>⟨fun h1=>ho ⟨h,.inl h1⟩,fun h1=>ho ⟨h,.inr h1⟩⟩) (fun hp=>?_) fun hp h=>h3 ⟨hp,h⟩⟩;cases hb:bR (bt l a) with
   | false=>rfl
   | true=>exact absurd ⟨hp,hb⟩ h0
  | brc a p lv=>
   simp only [dO.size,dO.ok] at hm ok;obtain⟨r,k2⟩:=ih (.brc2 a p lv) (by simp only [dO.size]; omega) ok;by_cases h1:a + 2 < l.length∧bt l (a + 2)=35
   ·obtain⟨hl,h⟩:=h1;obtain⟨j,k⟩:=i7.total l (a + 3);have hd:=k.bd hl;by_cases h2 : 32 < j - (a + 3)
    ·exact⟨_,.r_long hl h k h2⟩
    by_cases h3:a + 3 < j
    ·by_cases h4:j=l.length
     ·exact⟨_,.r_end hl h k (by omega) h3 h4⟩
     by_cases h5:bt l j=125
     ·exact⟨_,.r_len hl h k (by omega) h3 (by omega) h5⟩
     ·exact⟨r,.r_sharp hl h k (by omega) (fun _=>⟨by omega,h5⟩) k2⟩
    ·exact⟨r,.r_sharp hl h k (by omega) (fun h=>absurd h h3) k2⟩
   ·exact⟨r,.r_two (fun h h'=>h1 ⟨h,h'⟩) k2⟩
  | brc2 a p lv=>
   simp only [dO.size,dO.ok] at hm ok;obtain⟨j,k⟩:=i7.total l (a + 2);have hd:=k.bd ok;by_cases h : 32 < j - (a + 2)
   ·exact⟨_,.w_long k h⟩
   by_cases h2:j=l.length
   ·exact⟨_,.w_end k (by omega) h2⟩
   have h2':j < l.length:=by omega
   by_cases h3:j=a + 2
   ·subst h3; exact⟨_,.w_none k h2'⟩
   have h3':a + 2 < j:=by omega
   by_cases h4:bt l j=125
   ·exact⟨_,.w_plain k (by omega) h2' h3' h4⟩
   by_cases h5:(kO l j).1=0
   ·by_cases h6:bt l j=58
    ·by_cases h7:j + 1=l.length
     ·exact⟨_,.w_colon0 k (by omega) h2' h3' h4 h5 h6 h7⟩
     ·exact⟨_,.w_colon k (by omega) h2' h3' h4 h5 h6 (by omega)⟩
    ·by_cases h7:bt l (a + 2)=35
     ·obtain⟨i,ki⟩:=i7.total l (a + 3);exact⟨_,.w_sharp k (by omega) h2' h3' h4 h5 h6 h7 ki⟩
     ·exact⟨_,.w_bad k (by omega) h2' h3' h4 h5 h6 h7⟩
   ·by_cases h6 : 32≤lv
    ·exact⟨_,.w_deep k (by omega) h2' h3' h4 h5 h6⟩
    have ho:=mg l j h2' h5;cases h7:cF l (j + (kO l j).2.2) with
    | true=>exact⟨_,.w_join k (by omega) h2' h3' h4 h5 (by omega) h7⟩
    | false=>
     obtain⟨r,k2⟩:=ih (.loop (j + (kO l j).2.2) (dQ p) (lv + 1) a 0 []) (by simp only [dO.size]; omega) ho.1;cases r with
     | error x=>exact⟨_,.w_err k (by omega) h2' h3' h4 h5 (by omega) h7 k2⟩
     | ok x=>exact⟨_,.w_ok k (by omega) h2' h3' h4 h5 (by omega) h7 k2⟩
end Go.Mir
set_option linter.unusedSimpArgs false
namespace Go.Mir
inductive gY (t:List UInt8) (p:Nat):R→Prop where
 | long (h : 16384 < t.length):gY t p (.error (0,3))
 | wx {r} (h:t.length≤16384) (k:Wx t (.loop 0 p 1 0 0 []) r):gY t p r
theorem gY.total (t:List UInt8) (p:Nat):∃r,gY t p r:=by
 by_cases h:t.length≤16384
 ·obtain⟨r,k⟩:=Wx.total t _ (.loop 0 p 1 0 0 []) (Nat.lt_succ_self _) (Nat.zero_le _);exact⟨r,.wx h k⟩
 ·exact⟨_,.long (by omega)⟩
open Go Go.PE
def GW:R→List PV
 | .ok (l,_)=>[dm l,.sc (.int .i64 0),.sc (.int .i64 0)]
 | .error (a,e)=>[.sc (.slice none 0 0),iN a,iN e]
theorem wa:type_of% (And.intro (@GW.eq_1)<|@GW.eq_2):=And.intro (@GW.eq_1)<|@GW.eq_2
end Go.Mir
namespace Go.PE
open Go Go.EvL
section
variable {P:Program}{Γ:Nat→Option fN}{ext:ai}
theorem jP {g r r2 r3:Nat}{fn:fN}{args:List PV}{s:PS}{u:PV}{v w:Value} (hu:∀n s,cx n s u=some u) (hg:Γ g=some fn) (hl:args.length≤fn.nt) (hr:fn.res=[.tmp r,.tmp r2,.tmp r3]) (hk:fn.keep=false) (h:Er (fun f' s'=>s.n≤s'.w∧f' r=u∧f' r2=.sc v∧f' r3=.sc w) (aS P Γ ext fn.body (cK args 0) ⟨s.h,s.n,s.n⟩)):aU P Γ ext g args s=some (.tup [u,.sc v,.sc w],s):=by
 refine ij hg hl h ?_;rintro f s' ⟨hw,h,h2,h3⟩;refine fJ (vs:=[u,.sc v,.sc w]) hk (by rw [hr]; simp only [ck,Option.map_some,h,h2,h3]) hw ?_;show (dK s.n s' [u,.sc v,.sc w]).map PV.tup=_;simp only [dK,hu,Option.bind_some,Option.map_some];rfl
end
end Go.PE
namespace Go.Proofs.YtflfflfodghgpaaGreatDoor
open Go Go.EvL Go.PE Go.Mir
variable {ext:ai}
theorem x9 (n:Nat) (s:PS) (l:List aT):cx n s (dm l)=some (dm l):=by cases l<;>(rw [dm]; rfl)
theorem By {x:aT}{a:Nat} (h:x∈([]:List aT)):x.kind=1→x.text.length≤a:=by cases h
theorem N4 {t:List UInt8}{r:R} (h:gY t 0 r) (s:PS):Pc ext 301 [.sc (.string ⟨⟨t⟩⟩)] (.tup (GW r)) s:=by
 cases h with
 | long h=>
  have c1:decide (16384 < t.length)=true:=decide_eq_true h;refine jP (fun n s=>rfl) (fn:=wy) (r:=2) (r2:=3) (r3:=4) (by rfl) (by simp [wy]) (by rfl) (by rfl) ?_;unfold wy;refine Sx c1 ?_;exact⟨rfl,rfl⟩
 | wx h k=>
  have c1:decide (16384 < t.length)=false:=df;have hw:=JR (ext:=ext) (b:=⟨⟨t⟩⟩) (show t.length < 1000000000 by omega) k (Nat.zero_le _) om (Nat.le_refl _) (Nat.le_refl _) fun x hx=>By hx;have hC:=fun s=>gJ hw s;cases r with
  | ok x=>
   obtain⟨ps,j⟩:=x;have hC':∀s,Pc ext 328 [.sc (.string ⟨⟨t⟩⟩),.sc (.int .i64 0),.sc (.int .i64 0),.sc (.int .i64 1),.sc (.int .i64 0)] (.agg [dm ps,iN j,.sc (.int .i64 0)]) s:=hC;refine jP (fun n s=>x9 n s ps) (fn:=wy) (r:=2) (r2:=3) (r3:=4) (by rfl) (by simp [wy]) (by rfl) (by rfl) ?_;unfold wy;exact tf c1 hC' @aR @aB @az @aA @ay @ae @aj
  | error x=>
   obtain⟨x,e⟩:=x;have he:(e == 0)=false:=beq_eq_false_iff_ne.2 (k.err _ rfl);have hC':∀s,Pc ext 328 [.sc (.string ⟨⟨t⟩⟩),.sc (.int .i64 0),.sc (.int .i64 0),.sc (.int .i64 1),.sc (.int .i64 0)] (.agg [.sc (.slice none 0 0),iN x,iN e]) s:=hC;refine jP (fun n s=>rfl) (fn:=wy) (r:=2) (r2:=3) (r3:=4) (by rfl) (by simp [wy]) (by rfl) (by rfl) ?_;unfold wy;simp -implicitDefEqProofs (disch:=first | omega | (unfold cH bM; simp<;>omega)) only [ZS,seval,ZT,ZX,c1,hC',he,aR,aB,az,aA,ay,ae,aj]
end Go.Proofs.YtflfflfodghgpaaGreatDoor
set_option linter.unusedSimpArgs false
namespace Go.Proofs.YtflfflfodghgpaaGreatDoor
open Go Go.EvL Go.PE Go.Mir
variable {ext:ai}
theorem PZ {t:List UInt8}{r:R} (h:gY t 5 r) (s:PS):Pc ext 327 [.sc (.string ⟨⟨t⟩⟩)] (.tup (GW r)) s:=by
 cases h with
 | long h=>
  have c1:decide (16384 < t.length)=true:=decide_eq_true h;refine jP (fun n s=>rfl) (fn:=wd) (r:=2) (r2:=3) (r3:=4) (by rfl) (by simp [wd]) (by rfl) (by rfl) ?_;unfold wd;refine Sx c1 ?_;exact⟨rfl,rfl⟩
 | wx h k=>
  have c1:decide (16384 < t.length)=false:=df;have hw:=JR (ext:=ext) (b:=⟨⟨t⟩⟩) (show t.length < 1000000000 by omega) k (Nat.zero_le _) om (Nat.le_refl _) (Nat.le_refl _) fun x hx=>By hx;have hC:=fun s=>gJ hw s;cases r with
  | ok x=>
   obtain⟨ps,j⟩:=x;have hC':∀s,Pc ext 328 [.sc (.string ⟨⟨t⟩⟩),.sc (.int .i64 0),.sc (.int .i64 5),.sc (.int .i64 1),.sc (.int .i64 0)] (.agg [dm ps,iN j,.sc (.int .i64 0)]) s:=hC;refine jP (fun n s=>x9 n s ps) (fn:=wd) (r:=2) (r2:=3) (r3:=4) (by rfl) (by simp [wd]) (by rfl) (by rfl) ?_;unfold wd;exact tf c1 hC' @aR @aB @az @aA @ay @ae @aj
  | error x=>
   obtain⟨x,e⟩:=x;have he:(e == 0)=false:=beq_eq_false_iff_ne.2 (k.err _ rfl);have hC':∀s,Pc ext 328 [.sc (.string ⟨⟨t⟩⟩),.sc (.int .i64 0),.sc (.int .i64 5),.sc (.int .i64 1),.sc (.int .i64 0)] (.agg [.sc (.slice none 0 0),iN x,iN e]) s:=hC;refine jP (fun n s=>rfl) (fn:=wd) (r:=2) (r2:=3) (r3:=4) (by rfl) (by simp [wd]) (by rfl) (by rfl) ?_;unfold wd;simp -implicitDefEqProofs (disch:=first | omega | (unfold cH bM; simp<;>omega)) only [ZS,seval,ZT,ZX,c1,hC',he,aR,aB,az,aA,ay,ae,aj]
end Go.Proofs.YtflfflfodghgpaaGreatDoor
namespace Go.Mir
def lI (p:Nat):List UInt8→List UInt8
 | []=>[]
 | c :: l=>if bP c.toNat p then 92 :: c :: lI p l else c :: lI p l
theorem lK (p:Nat) (a b:List UInt8):lI p (a ++ b)=lI p a ++ lI p b:=by
 induction a with
 | nil=>rfl
 | cons c a ih=>
  rw [List.cons_append,lI,lI,ih];by_cases h:bP c.toNat p=true
  ·rw [if_pos h,if_pos h];rfl
  ·rw [if_neg h,if_neg h];rfl
theorem EE (p:Nat) (a:List UInt8):(lI p a).length≤2 * a.length:=by
 induction a with
 | nil=>exact Nat.le_refl _
 | cons c a ih=>
  rw [lI];by_cases h:bP c.toNat p=true
  ·rw [if_pos h];simp only [List.length_cons];omega
  ·rw [if_neg h];simp only [List.length_cons];omega
theorem QU (p:Nat) (a:List UInt8):a.length≤(lI p a).length:=by
 induction a with
 | nil=>exact Nat.le_refl _
 | cons c a ih=>
  rw [lI];by_cases h:bP c.toNat p=true
  ·rw [if_pos h];simp only [List.length_cons];omega
  ·rw [if_neg h];simp only [List.length_cons];omega
def eN:List aT→Bool
 | []=>false
 | q :: _=>q.kind == 1 && !q.text.isEmpty && dV (bt q.text 0)
mutual
def EV (pl:Nat) (fo:Bool):aT→List UInt8
 | .mk _ t o c ps=>
  if o == 5 then 36 :: 123 :: 35 :: (t ++ [125]) else
  if o != 0 then 36 :: 123 :: (t ++ ((if c then [58] else []) ++ (iR o ++ (dN (dQ pl) ps ++ [125])))) else
  if decide (1 < t.length) && bC (bt t 0) then 36 :: 123 :: (t ++ [125]) else
  if fo && !t.isEmpty && dV (bt t 0) && !bC (bt t 0) then 36 :: 123 :: (t ++ [125]) else 36 :: t
def sP (pl:Nat) (fo:Bool):aT→List UInt8
 | .mk k t o c ps=>
  if k == 7 then [126] else
  if k == 1 then (if cL pl then t else lI pl t) else
  if k == 2 then (if t == [39] then [92,39] else 39 :: (t ++ [39])) else
  if k == 3 then 34 :: (dN 2 ps ++ [34]) else
  if k == 5 then 36 :: 40 :: (t ++ [41]) else
  if k == 6 then 36 :: 40 :: 40 :: (dN 4 ps ++ [41,41]) else
  if k == 4 then (
   if o == 5 then 36 :: 123 :: 35 :: (t ++ [125]) else
   if o != 0 then 36 :: 123 :: (t ++ ((if c then [58] else []) ++ (iR o ++ (dN (dQ pl) ps ++ [125])))) else
   if decide (1 < t.length) && bC (bt t 0) then 36 :: 123 :: (t ++ [125]) else
   if fo && !t.isEmpty && dV (bt t 0) && !bC (bt t 0) then 36 :: 123 :: (t ++ [125]) else 36 :: t) else []
def dN (pl:Nat):List aT→List UInt8
 | []=>[]
 | p :: ps=>sP pl (eN ps) p ++ dN pl ps
end
theorem L6:type_of% (And.intro (@dN.eq_1)<|@dN.eq_2):=And.intro (@dN.eq_1)<|@dN.eq_2
theorem Hx (pl:Nat) (fo:Bool) (t:List UInt8) (o:Int) (c:Bool) (ps:List aT):sP pl fo (.mk 4 t o c ps)=EV pl fo (.mk 4 t o c ps):=by
 rw [sP,EV];rfl
theorem Qi {c:Prop} [Decidable c] {a b:List UInt8}{n:Nat} (h:a.length≤n) (g:b.length≤n):(if c then a else b).length≤n:=by
 by_cases k:c
 ·rw [if_pos k]; exact h
 ·rw [if_neg k]; exact g
theorem vg (o:Int):(iR o).length≤2:=by
 unfold iR
 repeat' split
 all_goals decide
mutual
def oS:aT→Nat
 | .mk _ t _ _ ps=>2 * t.length + 8 + iD ps
def iD:List aT→Nat
 | []=>0
 | p :: ps=>oS p + iD ps
end
mutual
theorem Gq (pl:Nat) (fo:Bool):∀p:aT,(sP pl fo p).length≤oS p
 | .mk k t o c ps=>by
  have h2:=jQ 2 ps;have h4:=jQ 4 ps;have hw:=jQ (dQ pl) ps;have he:=EE pl t;have hs:=vg o;have hc:(if c then [(58:UInt8)] else []).length≤1:=by cases c<;>decide
  rw [sP,oS]
  repeat' apply Qi
  all_goals try simp only [List.length_cons,List.length_append,List.length_nil]
  all_goals omega
theorem jQ (pl:Nat):∀l:List aT,(dN pl l).length≤iD l
 | []=>by rw [dN]; exact Nat.le_refl _
 | p :: ps=>by
  have h:=Gq pl (eN ps) p;have h2:=jQ pl ps;rw [dN,iD,List.length_append];omega
end
end Go.Mir
set_option linter.unusedSimpArgs false
namespace Go.Proofs.YtflfflfodghgpaaGreatDoor
open Go Go.EvL Go.PE Go.Mir
variable {ext:ai}
theorem ba_add (a c:List UInt8):ByteArray.mk ⟨a⟩ ++ ByteArray.mk ⟨c⟩=ByteArray.mk ⟨a ++ c⟩:=by
 apply ByteArray.ext;apply Array.ext';rw [ByteArray.data_append,Array.toList_append]
theorem Ii {t:List UInt8}{p:Nat} (hp:p≤6) (ht:(lI p t).length < 4611686018427387904) (s:PS):∀(k i:Nat) (f:aO),i + k=t.length→f 0=.sc (.string ⟨⟨t⟩⟩)→f 1=.sc (.int .i64 (p:Int))→f 5=.sc (.string ⟨⟨lI p (t.take i)⟩⟩)→f 6=.sc (.int .i64 (i:Int))→
  Er (fun f' s'=>s'=s∧f' 4=.sc (.string ⟨⟨lI p t⟩⟩)) (LP Tryz.prog Γ ext 0 sn uO f s):=by
 intro k
 induction k with
 | zero=>
  intro i f hk h0 h1 h5 h6;have e1:decide (i < t.length)=false:=df;have e2:t.take i=t:=List.take_of_length_le om;rw [e2] at h5;refine ac fun L hL=>?_;exact wn @sn.eq_1 @uO.eq_1 h0 h1 h5 h6 e1
 | succ k ih=>
  intro i f hk h0 h1 h5 h6;have hl:i < t.length:=om;have e1:decide (i < t.length)=true:=dt;have hm:=QU p t;have n1:i≤i + 1:=om;have n2:i + 1≤t.length:=om;have hs:t.take (i + 1)=t.take i ++ [t[i]]:=by rw [List.take_succ_eq_append_getElem hl]
  have hc:bt t i=t[i].toNat:=nL hl;have hd:(t.drop i).take (i + 1 - i)=[t[i]]:=by
   rw [Nat.add_sub_cancel_left,List.drop_eq_getElem_cons hl];rfl
  have hb:(lI p (t.take i)).length≤(lI p t).length:=by
   have:=lK p (t.take i) (t.drop i);rw [List.take_append_drop] at this;rw [this,List.length_append];omega
  refine ac fun L hL=>?_;cases e2:bP (bt t i) p with
  | false=>
   have e3:lI p (t.take (i + 1))=lI p (t.take i) ++ [t[i]]:=by
    rw [hs,lK];show _ ++ (if bP t[i].toNat p then _ else _)=_;rw [← hc,e2];rfl
   have hx:ByteArray.mk ⟨lI p (t.take i)⟩ ++ ByteArray.mk ⟨[t[i]]⟩=ByteArray.mk ⟨lI p (t.take i) ++ [t[i]]⟩:=ba_add _ _;have hy:(ByteArray.mk ⟨lI p (t.take i)⟩).size + (ByteArray.mk ⟨[t[i]]⟩).size < 9223372036854775808:=by
    show (lI p (t.take i)).length + 1 < _;omega
   simp -implicitDefEqProofs (disch:=omega) only [ZS,seval,sn,uO,h0,h1,h5,h6,e1,hl,j5 hp,e2,n1,n2,hd,l7,hx,hy];subst hL;exact ih (i + 1) _ om (aL h0) (aL h1) (aL e3) bh
  | true=>
   have e3:lI p (t.take (i + 1))=lI p (t.take i) ++ [92,t[i]]:=by
    rw [hs,lK];show _ ++ (if bP t[i].toNat p then _ else _)=_;rw [← hc,e2];rfl
   have hb2:(lI p (t.take (i + 1))).length≤(lI p t).length:=by
    have:=lK p (t.take (i + 1)) (t.drop (i + 1));rw [List.take_append_drop] at this;rw [this,List.length_append];omega
   rw [e3,List.length_append] at hb2;have hx1:ByteArray.mk ⟨lI p (t.take i)⟩ ++ ByteArray.mk #[92]=ByteArray.mk ⟨lI p (t.take i) ++ [92]⟩:=ba_add _ _;have hx:ByteArray.mk ⟨lI p (t.take i) ++ [92]⟩ ++ ByteArray.mk ⟨[t[i]]⟩=ByteArray.mk ⟨lI p (t.take i) ++ [92] ++ [t[i]]⟩:=ba_add _ _;have hy1:(ByteArray.mk ⟨lI p (t.take i)⟩).size + (ByteArray.mk #[92]).size < 9223372036854775808:=by
    show (lI p (t.take i)).length + 1 < _;omega
   have hy:(ByteArray.mk ⟨lI p (t.take i) ++ [92]⟩).size + (ByteArray.mk ⟨[t[i]]⟩).size < 9223372036854775808:=by
    show (lI p (t.take i) ++ [92]).length + 1 < _;rw [List.length_append];show (lI p (t.take i)).length + 1 + 1 < _;omega
   simp -implicitDefEqProofs (disch:=omega) only [ZS,seval,sn,uO,h0,h1,h5,h6,e1,hl,j5 hp,e2,n1,n2,hd,l7,hx1,hx,hy1,hy];subst hL;rw [List.append_assoc] at hx;exact ih (i + 1) _ om (by simp -implicitDefEqProofs (disch:=omega) only [ZS,seval,h0]) (by simp -implicitDefEqProofs (disch:=omega) only [ZS,seval,h1]) (by simp -implicitDefEqProofs (disch:=omega) only [ZS,seval,ZX,e3,List.append_assoc]) (by simp -implicitDefEqProofs (disch:=omega) only [ZS,seval])
theorem xf {t:List UInt8}{p:Nat} (hp:p≤6) (ht:(lI p t).length < 4611686018427387904) (s:PS):Pc ext 330 [.sc (.string ⟨⟨t⟩⟩),iN p] (.sc (.string ⟨⟨lI p t⟩⟩)) s:=by
 refine q1 Q5 4 ?_;unfold Q5;refine HQ ?_;exact Ii hp ht _ t.length 0 _ om eY eY eY eY
end Go.Proofs.YtflfflfodghgpaaGreatDoor
namespace Go.Proofs.YtflfflfodghgpaaGreatDoor
open Go Go.EvL Go.PE
variable {ext:ai}
theorem Ty (x y:ao) (s:PS) (r:Bool) (h:∀s,aU Tryz.prog Γ ext 186 [x.parts,y.parts] s=some (.sc (.bool r),s)) :
  aU Tryz.prog Γ ext 249 [.agg x.cells,.agg y.cells] s=some (.sc (.bool (x.eqB y && r)),s):=by
 rw [gv (fn:=B1) (by rfl) _ _ (by simp [B1])];cases h1:x.kind == y.kind with
 | false=>simp -implicitDefEqProofs only [B1,aD,bB,cq,bg,j8,ax,aq,fq,aN,bm,cK,Nat.zero_add,Nat.add_zero,Nat.reduceAdd,ef,Option.map_some,Option.bind_some,aI,aC,aM,Nat.reduceEqDiff,bx,↓reduceIte,bH,cG,bz,aK,dw,cR,gV,dl,au,List.length_cons,List.length_nil,Nat.left_eq_add,Nat.one_ne_zero,Nat.reduceLeDiff,Nat.zero_le,and_self,List.drop_zero,List.take_succ_cons,List.take_zero,Nat.le_refl,lR,G9,aP,ck,br,frz,cx,bQ,i4,Bool.false_eq_true,ao.cells,ao.eqB,h1,Bool.false_and]
 | true=>
  cases h2:x.text.toList == y.text.toList with
  | false=>simp -implicitDefEqProofs only [B1,aD,bB,cq,bg,j8,ax,aq,fD,fq,aN,bm,cK,Nat.zero_add,Nat.add_zero,Nat.reduceAdd,ef,Option.map_some,Option.bind_some,aI,aC,aM,Nat.reduceEqDiff,bx,↓reduceIte,bH,cG,bz,aK,dw,cR,gV,dl,au,List.length_cons,List.length_nil,Nat.left_eq_add,Nat.one_ne_zero,Nat.reduceLeDiff,Nat.zero_le,and_self,List.drop_succ_cons,List.drop_zero,List.take_succ_cons,List.take_zero,Nat.le_refl,lR,kX,beq_self_eq_true,G9,aP,ck,br,frz,cx,bQ,i4,Bool.false_eq_true,ao.cells,ao.eqB,h1,h2,Bool.false_and,Bool.and_false]
  | true=>
   cases h3:x.op == y.op with
   | false=>simp -implicitDefEqProofs only [B1,aD,bB,cq,bg,j8,ax,aq,fD,fq,aN,bm,cK,Nat.zero_add,Nat.add_zero,Nat.reduceAdd,ef,Option.map_some,Option.bind_some,aI,aC,aM,Nat.reduceEqDiff,bx,↓reduceIte,bH,cG,bz,aK,dw,cR,gV,dl,au,List.length_cons,List.length_nil,Nat.left_eq_add,Nat.one_ne_zero,Nat.reduceLeDiff,Nat.zero_le,and_self,List.drop_succ_cons,List.drop_zero,List.take_succ_cons,List.take_zero,Nat.le_refl,lR,kX,beq_self_eq_true,G9,aP,ck,br,frz,cx,bQ,i4,Bool.false_eq_true,ao.cells,ao.eqB,h1,h2,h3,Bool.false_and,Bool.and_false]
   | true=>
    cases h4:x.colon == y.colon with
    | false=>simp -implicitDefEqProofs only [B1,aD,bB,cq,bg,j8,ax,aq,fD,fq,aN,bm,cK,Nat.zero_add,Nat.add_zero,Nat.reduceAdd,ef,Option.map_some,Option.bind_some,aI,aC,aM,Nat.reduceEqDiff,bx,↓reduceIte,bH,cG,bz,aK,dw,cR,gV,dl,au,List.length_cons,List.length_nil,Nat.left_eq_add,Nat.one_ne_zero,Nat.reduceLeDiff,Nat.zero_le,and_self,List.drop_succ_cons,List.drop_zero,List.take_succ_cons,List.take_zero,Nat.le_refl,lR,kX,beq_self_eq_true,G9,aP,ck,br,frz,cx,bQ,i4,Bool.false_eq_true,ao.cells,ao.eqB,h1,h2,h3,h4,B6 Tryz.underlying4,Bool.false_and,Bool.and_false]
    | true=>simp -implicitDefEqProofs only [B1,aD,bB,cq,bg,j8,ax,aq,fD,aN,bm,cK,Nat.zero_add,Nat.add_zero,Nat.reduceAdd,ef,Option.map_some,Option.bind_some,aI,aC,fB,aM,Nat.reduceEqDiff,bx,↓reduceIte,bH,cG,bz,aK,dw,cR,gV,dl,au,List.length_cons,List.length_nil,Nat.left_eq_add,Nat.one_ne_zero,Nat.reduceLeDiff,Nat.zero_le,and_self,List.drop_succ_cons,List.drop_zero,List.take_succ_cons,List.take_zero,Nat.le_refl,lR,kX,beq_self_eq_true,bS,aP,ck,br,frz,cx,bQ,List.map_cons,List.map_nil,List.nil_append,List.append_nil,i4,Bool.false_eq_true,ao.cells,ao.eqB,h1,h2,h3,h4,h,B6 Tryz.underlying4,Bool.true_and]
def bA:Nat→PV→Prop
 | 0,_=>False
 | d + 1,p=>∃l:Option (List ao),p=b9 90 ao.cells l∧(l.getD []).length < 4611686018427387904∧∀x∈l.getD [],bA d x.parts
theorem dH {α:Type} (e:Nat) (c:α→List PV) (l:Option (List α)):cX (b9 e c l)=true:=by cases l<;>rfl
theorem bA.one {d:Nat}{p:PV} (h:bA d p):cX p=true:=by
 cases d with
 | zero=>cases h
 | succ d=>obtain⟨l,rfl,_⟩:=h; exact dH _ _ _
theorem ao.ones {d:Nat}{x:ao} (h:bA d x.parts):x.cells.all cX=true:=by
 simp only [ao.cells,List.all_cons,List.all_nil,h.one,Bool.and_true]; rfl
theorem U4:Γ 248=some (Py 90 5 #[(.int .i64 0),(.string ⟨#[]⟩),(.int .i64 0),(.bool false),(.slice none 0 0)] 3):=(rfl)
theorem CE:∀(d:Nat) (a b:PV),bA d a→bA d b→∃r,(∀s,aU Tryz.prog Γ ext 186 [a,b] s=some (.sc (.bool r),s))∧∀s,aU Tryz.prog Γ ext 185 [a,b] s=some (.sc (.bool r),s):=by
 intro d
 induction d with
 | zero=>intro a b h; cases h
 | succ d ih=>
  rintro a b ⟨l,rfl,hl,hl'⟩ ⟨m,rfl,hm,hm'⟩;have key:∀i:Nat,∃r:Bool,∀x y:ao,(l.getD [])[i]?=some x→(m.getD [])[i]?=some y→(∀s,aU Tryz.prog Γ ext 186 [x.parts,y.parts] s=some (.sc (.bool r),s))∧∀s,aU Tryz.prog Γ ext 185 [x.parts,y.parts] s=some (.sc (.bool r),s):=by
   intro i;cases hx:(l.getD [])[i]? with
   | none=>exact⟨true,fun x y h=>by cases h⟩
   | some x=>
    cases hy:(m.getD [])[i]? with
    | none=>exact⟨true,fun x y _ h=>by cases h⟩
    | some y=>
     obtain⟨r,hr⟩:=ih x.parts y.parts (hl' x (List.mem_of_getElem? hx)) (hm' y (List.mem_of_getElem? hy));exact⟨r,fun x' y' h1 h2=>by injection h1 with h1; injection h2 with h2; subst h1; subst h2; exact hr⟩
  obtain⟨r,hr⟩:=Classical.axiomOfChoice key;refine⟨(l.getD []).length == (m.getD []).length && oH (fun i=>(match (l.getD [])[i]?,(m.getD [])[i]? with | some x,some y=>x.eqB y | _,_=>true) && r i) 0 (l.getD []).length,fun s=>?_,fun s=>?_⟩
  ·have h132:=Kt (P:=Tryz.prog) (ext:=ext) (e:=90) (t:=90) ao.len (by rfl) U4 (l:=l) (m:=m) (fun x hx=>hx.elim (fun h=>ao.ones (hl' x h)) (fun h=>ao.ones (hm' x h))) (g:=249) hl (r:=fun i=>(match (l.getD [])[i]?,(m.getD [])[i]? with | some x,some y=>x.eqB y | _,_=>true) && r i) (fun i x y h1 h2 s=>by
    simp only [h1,h2];exact Ty x y s (r i) (hr i x y h1 h2).1)
   rw [gv (fn:=L0) (by rfl) _ _ (by simp [L0])];simp -implicitDefEqProofs only [L0,aD,bB,cq,bg,ax,aq,aN,bm,cK,Nat.zero_add,Option.map_some,Option.bind_some,aI,aC,fB,aM,Nat.reduceEqDiff,↓reduceIte,bH,cG,aK,Nat.one_ne_zero,Nat.le_refl,bS,aP,ck,br,frz,cx,bQ,List.map_cons,List.map_nil,List.nil_append,List.append_nil,i4,Bool.false_eq_true,reduceCtorEq,h132]
  ·refine Gk hl (G:=185) (nt:=61) (inner:=tQ) (by rw [← TS]; rfl) (by omega) (fun i x y h1 h2 f s hin=>?_) s;have h:=TL (ext:=ext) x y (hl' x (List.mem_of_getElem? h1)).one (hm' y (List.mem_of_getElem? h2)).one (r i) (hr i x y h1 h2).2 h1 h2 f s hin;simp only [h1,h2];exact h
end Go.Proofs.YtflfflfodghgpaaGreatDoor
namespace Go.Proofs.YtflfflfodghgpaaGreatDoor
open Go Go.EvL Go.PE Go.Mir
mutual
def Kj:aT→ao→Prop
 | .mk k t o c ps,x=>x.kind=k∧x.text=⟨⟨t⟩⟩∧x.op=o∧x.colon=c∧∃y:Option (List ao),x.parts=b9 90 ao.cells y∧tH ps (y.getD [])
def tH:List aT→List ao→Prop
 | [],xs=>xs=[]
 | p :: ps,xs=>∃x xs',xs=x :: xs'∧Kj p x∧tH ps xs'
end
def Ki (l:List aT) (v:PV):Prop:=∃y:Option (List ao),v=b9 90 ao.cells y∧tH l (y.getD [])
theorem tH.nil {xs:List ao} (h:tH [] xs):xs=[]:=by rw [tH] at h; exact h
theorem tH.cons {p:aT}{ps:List aT}{xs:List ao} (h:tH (p :: ps) xs):∃x xs',xs=x :: xs'∧Kj p x∧tH ps xs':=by rw [tH] at h; exact h
theorem tH.length:∀{l:List aT}{xs:List ao},tH l xs→xs.length=l.length
 | [],_,h=>by rw [h.nil]; rfl
 | _ :: ps,_,h=>by
  obtain⟨x,xs',rfl,_,h⟩:=h.cons;rw [List.length_cons,List.length_cons,tH.length h]
theorem bA.read:∀{d:Nat}{v:PV},bA d v→∃l,Ki l v
 | 0,_,h=>by cases h
 | d + 1,v,h=>by
  obtain⟨y,rfl,_,h⟩:=h;suffices hh:∀xs:List ao,(∀x∈xs,bA d x.parts)→∃l,tH l xs by
   obtain⟨l,hl⟩:=hh _ h;exact⟨l,y,rfl,hl⟩
  intro xs
  induction xs with
  | nil=>exact fun _=>⟨[],by rw [tH]⟩
  | cons x xs ih=>
   intro hx;obtain⟨l,hl⟩:=ih fun z hz=>hx z (List.mem_cons_of_mem _ hz);obtain⟨ps,z,hz,hp⟩:=bA.read (hx x (List.mem_cons_self ..));refine⟨.mk x.kind x.text.data.toList x.op x.colon ps :: l,?_⟩;rw [tH];refine⟨x,xs,rfl,?_,hl⟩;rw [Kj];exact⟨rfl,rfl,rfl,rfl,z,hz,hp⟩
end Go.Proofs.YtflfflfodghgpaaGreatDoor
set_option linter.unusedSimpArgs false
namespace Go.PE
open Go Go.EvL
theorem ch {P:Program} (t:Nat) (x y:Operand) {a c:List UInt8} (h:a.length + c.length < 9223372036854775808):gP P .add t x y (.sc (.string ⟨⟨a⟩⟩)) (.sc (.string ⟨⟨c⟩⟩))=some (.sc (.string ⟨⟨a ++ c⟩⟩)):=by
 rw [l7 t x y (a:=⟨⟨a⟩⟩) (b:=⟨⟨c⟩⟩) h];show some (PV.sc (.string (ByteArray.mk ⟨a⟩ ++ ByteArray.mk ⟨c⟩)))=_;rw [Go.Proofs.YtflfflfodghgpaaGreatDoor.ba_add]
theorem eF {P:Program}{Γ:Nat→Option fN}{ext:ai}{g r:Nat}{fn:fN}{args:List PV}{s:PS}{u:Value} (hg:Γ g=some fn) (hl:args.length≤fn.nt) (hr:fn.res=[.tmp r]) (hk:fn.keep=false) (h:Er (fun f' s'=>s.n≤s'.w∧f' r=.sc u) (aS P Γ ext fn.body (cK args 0) ⟨s.h,s.n,s.n⟩)):aU P Γ ext g args s=some (.sc u,s):=by
 refine ij hg hl h ?_;rintro f s' ⟨hw,h⟩;refine fJ (vs:=[.sc u]) hk (by rw [hr]; simp only [ck,Option.map_some,h]) hw ?_;rfl
theorem mu (fn:fN) (r:Nat) {P:Program}{Γ:Nat→Option fN}{ext:ai}{g:Nat}{args:List PV}{s:PS}{u:Value} (h:Er (fun f' s'=>s.n≤s'.w∧f' r=.sc u) (aS P Γ ext fn.body (cK args 0) ⟨s.h,s.n,s.n⟩)) (hg:Γ g=some fn:=by rfl) (hl:args.length≤fn.nt:=by exact Nat.le_of_ble_eq_true rfl) (hr:fn.res=[.tmp r]:=by rfl) (hk:fn.keep=false:=by rfl):aU P Γ ext g args s=some (.sc u,s):=eF hg hl hr hk h
end Go.PE
namespace Go.Proofs.YtflfflfodghgpaaGreatDoor
open Go Go.EvL Go.PE Go.Mir
variable {ext:ai}
theorem LU {k o:Int}{t:List UInt8}{c:Bool}{ps:List aT}{v:PV}{pl:Nat} (hpl:pl≤6) (hsz:oS (.mk k t o c ps) < 1000000000000) {y:Option (List ao)}{ns:List aT} (hn:tH ns (y.getD []))
  (hs:∀s,Pc ext 302 [v,.sc (.int .i64 (dQ pl))] (.sc (.string ⟨⟨dN (dQ pl) ps⟩⟩)) s) (s:PS) :
  Pc ext 331 [.agg (ao.mk k ⟨⟨t⟩⟩ o c v).cells,iN pl,b9 90 ao.cells y] (.sc (.string ⟨⟨EV pl (eN ns) (.mk k t o c ps)⟩⟩)) s:=by
 have hl:=jQ (dQ pl) ps;have hg:=vg o;have u1:ez Γ 353=true:=rfl;have u2:ez Γ 354=true:=rfl;have u3:ez Γ 302=true:=rfl;rw [oS] at hsz;refine mu Po 6 ?_;generalize hY:b9 90 ao.cells y=Y;unfold Po ao.cells;rw [EV];have hend:s.n≤((⟨s.h,s.n,s.n⟩ : PS).new ⟨[.sc (.int .i64 k),.sc (.string ⟨⟨t⟩⟩),.sc (.int .i64 o),.sc (.bool c),v],0,90⟩).w:=Nat.le_refl _;have he:∀t:List UInt8,((ByteArray.mk ⟨t⟩).toList == (ByteArray.mk #[]).toList)=t.isEmpty:=fun t=>by
  rw [ByteArray.toList_eq,ByteArray.toList_eq];cases t<;>rfl
 cases c1:o == 5 with
 | true=>simp -implicitDefEqProofs (disch:=first | omega | (simp only [List.length_append,List.length_cons,List.length_nil]; omega)) only [ZS,seval,ch,c1]
 | false=>
  cases c2:o != 0 with
  | true=>
   cases c with
   | true=>
    simp -implicitDefEqProofs (disch:=first | omega | (unfold cH bM; simp<;>omega) | (simp only [List.length_append,List.length_cons,List.length_nil]; omega)) only [ZS,seval,ZT,ch,c1,c2,hs,Iz,qA hpl,u1,u2,u3];simp only [List.append_assoc,List.cons_append,List.nil_append]
   | false=>
    simp -implicitDefEqProofs (disch:=first | omega | (unfold cH bM; simp<;>omega) | (simp only [List.length_append,List.length_cons,List.length_nil]; omega)) only [ZS,seval,ZT,ch,c1,c2,hs,Iz,qA hpl,u1,u2,u3];simp only [List.append_assoc,List.cons_append,List.nil_append]
  | false=>
   by_cases hd:(decide (1 < t.length) && bC (bt t 0))=true
   ·rw [hd];obtain⟨h1,h2⟩:=Bool.and_eq_true_iff.1 hd;have hl0 : 0 < t.length:=by have:=of_decide_eq_true h1; omega
    simp -implicitDefEqProofs (disch:=first | omega | (simp only [List.length_append,List.length_cons,List.length_nil]; omega)) only [ZS,seval,ch,c1,c2,h1,h2,hl0,cg]
   ·have hd':(decide (1 < t.length) && bC (bt t 0))=false:=Bool.eq_false_iff.2 hd;rw [hd'];have key:∃d:Bool,decide (1 < t.length)=d∧(d=true→0 < t.length∧bC (bt t 0)=false):=by
     refine⟨_,rfl,fun h1=>⟨by have:=of_decide_eq_true h1; omega,?_⟩⟩;rw [h1,Bool.true_and] at hd';exact hd'
    obtain⟨d,d1,d2⟩:=key;have z0:decide ((0:Int) > 0)=false:=rfl;cases ns with
    | nil=>
     have hy:=hn.nil;have hy':eA false Y=some (.sc (.int .i64 0)):=by rw [← hY,cA,hy]; rfl
     cases d with
     | true=>
      obtain⟨hl0,h2⟩:=d2 rfl;simp -implicitDefEqProofs (disch:=first | omega | (simp only [List.length_append,List.length_cons,List.length_nil]; omega)) only [ZS,seval,ZX,ch,c1,c2,d1,h2,hl0,cg,hy',z0,eN]
     | false=>simp -implicitDefEqProofs (disch:=first | omega | (simp only [List.length_append,List.length_cons,List.length_nil]; omega)) only [ZS,seval,ZX,ch,c1,c2,d1,cg,hy',z0,eN]
    | cons q ns=>
     obtain⟨x,xs,hxs,hq,_⟩:=hn.cons;obtain⟨qk,qt,qo,qc,qp⟩:=q;obtain⟨xk,xt,xo,xc,xp⟩:=x;rw [Kj] at hq;obtain⟨rfl,rfl,rfl,rfl,_⟩:=hq;obtain⟨R,hR⟩ : ∃R,xs.flatMap ao.cells=R:=⟨_,rfl⟩
     have hyl:Y=.lit 90 (xs.length + 1) (.sc (.int .i64 xk) :: .sc (.string ⟨⟨qt⟩⟩) :: .sc (.int .i64 xo) :: .sc (.bool xc) :: xp :: R):=by
      rw [← hY,← hR];cases y with
      | none=>cases hxs
      | some l=>
       cases hxs;rfl
     have hfl:R.length + 1 + 1 + 1 + 1 + 1=(xs.length + 1) * 5:=by
      have:=aQ ao.len xs;rw [hR] at this;omega
     have w1 : 1≤(xs.length + 1) * 5:=om;have w2 : 1≤R.length + 1 + 1 + 1 + 1:=om;have hpos : 0 < xs.length + 1:=Nat.succ_pos _;have g1:decide (((xs.length + 1:Nat):Int) > 0)=true:=dt;subst hyl;cases k1:xk == 1 with
     | false=>
      have hf:eN (.mk xk qt xo xc qp :: ns)=false:=by simp only [eN,aT.kind,k1,Bool.false_and]
      cases d with
      | true=>
       obtain⟨hl0,h2⟩:=d2 rfl;simp -implicitDefEqProofs (disch:=first | omega | (simp only [List.length_append,List.length_cons,List.length_nil]; omega)) only [ZS,seval,ZX,ch,c1,c2,d1,h2,hl0,cg,hf,w1,w2,z0,k1,g1,hpos,hfl,Nat.mul_one,Nat.zero_mul,ap,he]
      | false=>simp -implicitDefEqProofs (disch:=first | omega | (simp only [List.length_append,List.length_cons,List.length_nil]; omega)) only [ZS,seval,ZX,ch,c1,c2,d1,cg,hf,w1,w2,z0,k1,g1,hpos,hfl,Nat.mul_one,Nat.zero_mul,ap,he]
     | true=>
      cases k2:qt.isEmpty with
      | true=>
       have hf:eN (.mk xk qt xo xc qp :: ns)=false:=by simp only [eN,aT.kind,aT.text,k1,k2,Bool.true_and,Bool.not_true,Bool.false_and]
       cases d with
       | true=>
        obtain⟨hl0,h2⟩:=d2 rfl;simp -implicitDefEqProofs (disch:=first | omega | (simp only [List.length_append,List.length_cons,List.length_nil]; omega)) only [ZS,seval,ZX,ch,c1,c2,d1,h2,hl0,cg,hf,w1,w2,z0,k1,k2,g1,hpos,hfl,Nat.mul_one,Nat.zero_mul,ap,he]
       | false=>simp -implicitDefEqProofs (disch:=first | omega | (simp only [List.length_append,List.length_cons,List.length_nil]; omega)) only [ZS,seval,ZX,ch,c1,c2,d1,cg,hf,w1,w2,z0,k1,k2,g1,hpos,hfl,Nat.mul_one,Nat.zero_mul,ap,he]
      | false=>
       have hq0 : 0 < qt.length:=by cases qt with | nil=>cases k2 | cons a t=>exact Nat.succ_pos _
       cases k3:dV (bt qt 0) with
       | false=>
        have hf:eN (.mk xk qt xo xc qp :: ns)=false:=by simp only [eN,aT.kind,aT.text,k1,k2,k3,Bool.true_and,Bool.not_false,Bool.and_false]
        cases d with
        | true=>
         obtain⟨hl0,h2⟩:=d2 rfl;simp -implicitDefEqProofs (disch:=first | omega | (simp only [List.length_append,List.length_cons,List.length_nil]; omega)) only [ZS,seval,ZX,ch,c1,c2,d1,h2,hl0,cg,hf,w1,w2,z0,k1,k2,k3,hq0,eI,g1,hpos,hfl,Nat.mul_one,Nat.zero_mul,ap,he]
        | false=>simp -implicitDefEqProofs (disch:=first | omega | (simp only [List.length_append,List.length_cons,List.length_nil]; omega)) only [ZS,seval,ZX,ch,c1,c2,d1,cg,hf,w1,w2,z0,k1,k2,k3,hq0,eI,g1,hpos,hfl,Nat.mul_one,Nat.zero_mul,ap,he]
       | true=>
        have hf:eN (.mk xk qt xo xc qp :: ns)=true:=by simp only [eN,aT.kind,aT.text,k1,k2,k3,Bool.true_and,Bool.not_false,Bool.and_false]
        cases t1:t.isEmpty with
        | true=>
         cases d with
         | true=>
          obtain⟨hl0,h2⟩:=d2 rfl;simp -implicitDefEqProofs (disch:=first | omega | (simp only [List.length_append,List.length_cons,List.length_nil]; omega)) only [ZS,seval,ZX,ch,c1,c2,d1,h2,hl0,cg,hf,w1,w2,z0,k1,k2,k3,hq0,eI,g1,hpos,hfl,Nat.mul_one,Nat.zero_mul,ap,he,t1]
         | false=>simp -implicitDefEqProofs (disch:=first | omega | (simp only [List.length_append,List.length_cons,List.length_nil]; omega)) only [ZS,seval,ZX,ch,c1,c2,d1,cg,hf,w1,w2,z0,k1,k2,k3,hq0,eI,g1,hpos,hfl,Nat.mul_one,Nat.zero_mul,ap,he,t1]
        | false=>
         have hl0 : 0 < t.length:=by cases t with | nil=>cases t1 | cons a t=>exact Nat.succ_pos _
         cases t2:dV (bt t 0) with
         | false=>
          cases d with
          | true=>
           obtain⟨hl0,h2⟩:=d2 rfl;simp -implicitDefEqProofs (disch:=first | omega | (simp only [List.length_append,List.length_cons,List.length_nil]; omega)) only [ZS,seval,ZX,ch,c1,c2,d1,h2,hl0,cg,hf,w1,w2,z0,k1,k2,k3,hq0,eI,g1,hpos,hfl,Nat.mul_one,Nat.zero_mul,ap,he,t1,t2]
          | false=>simp -implicitDefEqProofs (disch:=first | omega | (simp only [List.length_append,List.length_cons,List.length_nil]; omega)) only [ZS,seval,ZX,ch,c1,c2,d1,cg,hf,w1,w2,z0,k1,k2,k3,hq0,eI,g1,hpos,hfl,Nat.mul_one,Nat.zero_mul,ap,he,t1,t2,hl0]
         | true=>
          cases t3:bC (bt t 0) with
          | false=>
           cases d with
           | true=>
            obtain⟨hl0,h2⟩:=d2 rfl;simp -implicitDefEqProofs (disch:=first | omega | (simp only [List.length_append,List.length_cons,List.length_nil]; omega)) only [ZS,seval,ZX,ch,c1,c2,d1,h2,hl0,cg,hf,w1,w2,z0,k1,k2,k3,hq0,eI,g1,hpos,hfl,Nat.mul_one,Nat.zero_mul,ap,he,t1,t2,t3]
           | false=>simp -implicitDefEqProofs (disch:=first | omega | (simp only [List.length_append,List.length_cons,List.length_nil]; omega)) only [ZS,seval,ZX,ch,c1,c2,d1,cg,hf,w1,w2,z0,k1,k2,k3,hq0,eI,g1,hpos,hfl,Nat.mul_one,Nat.zero_mul,ap,he,t1,t2,t3,hl0]
          | true=>
           cases d with
           | true=>
            obtain⟨hl0,h2⟩:=d2 rfl;rw [t3] at h2;cases h2
           | false=>simp -implicitDefEqProofs (disch:=first | omega | (simp only [List.length_append,List.length_cons,List.length_nil]; omega)) only [ZS,seval,ZX,ch,c1,c2,d1,cg,hf,w1,w2,z0,k1,k2,k3,hq0,eI,g1,hpos,hfl,Nat.mul_one,Nat.zero_mul,ap,he,t1,t2,t3,hl0]
end Go.Proofs.YtflfflfodghgpaaGreatDoor
set_option linter.unusedSimpArgs false
namespace Go.Proofs.YtflfflfodghgpaaGreatDoor
open Go Go.EvL Go.PE Go.Mir
variable {ext:ai}
theorem Gv {n:Nat} (hrec:∀(ps:List aT) (v:PV) (q:Nat),iD ps < n→q≤6→Ki ps v→∀s,aU Tryz.prog Γ ext 302 [v,.sc (.int .i64 (q:Int))] s=some (.sc (.string ⟨⟨dN q ps⟩⟩),s)) (hn12:n < 1000000000000) {pl:Nat} (hpl:pl≤6) {xs:List ao} (hx:xs.length < 1000000000000) (n0:Nat) {W:List UInt8} (hW:W.length < 1000000000000) :
  ∀(suf:List aT) (i:Nat) (acc:List UInt8) (f:aO) (s:PS),i≤xs.length→tH suf (xs.drop i)→iD suf≤n→acc ++ dN pl suf=W→(n0≤s.w∧n0≤s.n)→f 0=.lit 90 xs.length (xs.flatMap ao.cells)→f 1=iN pl→f 5=.sc (.string ⟨⟨acc⟩⟩)→f 6=iN i→
  Er (fun f' s'=>n0≤s'.w∧f' 4=.sc (.string ⟨⟨W⟩⟩)) (LP Tryz.prog Γ ext 0 im zl f s):=by
 intro suf
 induction suf with
 | nil=>
  intro i acc f s hi hd hs ha hw h0 h1 h5 h6;have hl:=hd.length;rw [List.length_drop,List.length_nil] at hl;have e1:decide (i < xs.length)=false:=df;rw [dN,List.append_nil] at ha;subst ha;refine ac fun L hL=>?_;refine Ci @im.eq_1 @zl.eq_1 h0 h1 h5 h6 e1 ?_;exact hw.1
 | cons p suf ih=>
  intro i acc f s hi hd hs ha hw h0 h1 h5 h6;obtain⟨x,xs',hxs,hp,hd'⟩:=hd.cons;have hl:=hd.length;rw [List.length_drop,List.length_cons] at hl;have hil:i < xs.length:=om;have e1:decide (i < xs.length)=true:=decide_eq_true hil;have hj:xs[i]?=some x:=by
   have:=List.getElem?_drop (xs:=xs) (i:=i) (j:=0);rw [hxs] at this;rw [Nat.add_zero] at this;rw [← this];rfl
  have hxs':xs'=xs.drop (i + 1):=by
   rw [← List.drop_drop,hxs];rfl
  subst hxs';have hfl:=aQ ao.len xs;have hk3:=mO ao.len hj;rw [iD] at hs;obtain⟨k,t,o,c,ps⟩:=p;obtain⟨xk,xt,xo,xc,xp⟩:=x;have hp2:=hp;rw [Kj] at hp;obtain⟨rfl,rfl,rfl,rfl,z,rfl,hz⟩:=hp;rw [oS] at hs;have hR:=fun q hq=>hrec ps (b9 90 ao.cells z) q om hq ⟨z,rfl,hz⟩;obtain⟨v,hv⟩ : ∃v,b9 90 ao.cells z=v:=⟨_,rfl⟩
  have ov:cX v=true:=by rw [← hv]; exact dH _ _ _
  have cv:bx v=[v]:=by rw [← hv]; cases z<;>rfl
  rw [hv] at hR hk3;have hR2:∀s,Pc ext 302 [v,.sc (.int .i64 2)] (.sc (.string ⟨⟨dN 2 ps⟩⟩)) s:=hR 2 om;have hR4:∀s,Pc ext 302 [v,.sc (.int .i64 4)] (.sc (.string ⟨⟨dN 4 ps⟩⟩)) s:=hR 4 om;have hlen:acc.length + ((sP pl (eN suf) (.mk xk t xo xc ps)).length + (dN pl suf).length)=W.length:=by rw [← ha,dN,List.length_append,List.length_append]
  have hgo:=ih (i + 1) (acc ++ sP pl (eN suf) (.mk xk t xo xc ps));rw [dN,← List.append_assoc] at ha;simp only [ao.cells] at hk3;have hlen':=hlen;have hgo':=hgo;have ha':=ha;have hesc:(lI pl t).length < 4611686018427387904:=by have:=EE pl t; omega
  have he:((ByteArray.mk ⟨t⟩).toList == (ByteArray.mk #[39]).toList)=(t == [39]):=by rw [ByteArray.toList_eq,ByteArray.toList_eq]
  rw [sP] at hlen hgo ha;refine ac fun L hL=>?_;cases c7:xk == 7 with
  | true=>
   rw [c7,if_pos rfl] at hlen hgo ha
   try simp only [List.length_cons,List.length_append,List.length_nil] at hlen
   simp -implicitDefEqProofs (disch:=first | omega | (simp only [List.length_append,List.length_cons,List.length_nil]; omega)) only [ZS,seval,ZX,ch,im,h0,h1,h5,h6,e1,hil,hfl,hk3,ov,cv,aR,aB,az,aA,ay,he,hR2,hR4,aZ hpl,c7];subst hL;exact hgo _ _ hil hd' om ha bh (aL h0) (aL h1) (jC h5 @List.append_nil.{0} @List.append_assoc.{0}) bh
  | false=>
   rw [c7,if_neg Bool.false_ne_true] at hlen hgo ha;cases c1:xk == 1 with
   | true=>
    rw [c1,if_pos rfl] at hlen hgo ha;cases c10:cL pl with
    | true=>
     rw [c10,if_pos rfl] at hlen hgo ha
     try simp only [List.length_cons,List.length_append,List.length_nil] at hlen
     simp -implicitDefEqProofs (disch:=first | omega | (simp only [List.length_append,List.length_cons,List.length_nil]; omega)) only [ZS,seval,ZX,ch,im,h0,h1,h5,h6,e1,hil,hfl,hk3,ov,cv,aR,aB,az,aA,ay,he,hR2,hR4,aZ hpl,c7,c1,xf hpl hesc,c10];subst hL;exact hgo _ _ hil hd' om ha bh (aL h0) (aL h1) (jC h5 @List.append_nil.{0} @List.append_assoc.{0}) bh
    | false=>
     rw [c10,if_neg Bool.false_ne_true] at hlen hgo ha
     try simp only [List.length_cons,List.length_append,List.length_nil] at hlen
     simp -implicitDefEqProofs (disch:=first | omega | (simp only [List.length_append,List.length_cons,List.length_nil]; omega)) only [ZS,seval,ZX,ch,im,h0,h1,h5,h6,e1,hil,hfl,hk3,ov,cv,aR,aB,az,aA,ay,he,hR2,hR4,aZ hpl,c7,c1,xf hpl hesc,c10];subst hL;exact hgo _ _ hil hd' om ha bh (aL h0) (aL h1) (jC h5 @List.append_nil.{0} @List.append_assoc.{0}) bh
   | false=>
    rw [c1,if_neg Bool.false_ne_true] at hlen hgo ha;cases c2:xk == 2 with
    | true=>
     rw [c2,if_pos rfl] at hlen hgo ha;cases c20:t == [39] with
     | true=>
      rw [c20,if_pos rfl] at hlen hgo ha
      try simp only [List.length_cons,List.length_append,List.length_nil] at hlen
      simp -implicitDefEqProofs (disch:=first | omega | (simp only [List.length_append,List.length_cons,List.length_nil]; omega)) only [ZS,seval,ZX,ch,im,h0,h1,h5,h6,e1,hil,hfl,hk3,ov,cv,aR,aB,az,aA,ay,he,hR2,hR4,aZ hpl,c7,c1,c2,c20];subst hL;exact hgo _ _ hil hd' om ha bh (aL h0) (aL h1) (jC h5 @List.append_nil.{0} @List.append_assoc.{0}) bh
     | false=>
      rw [c20,if_neg Bool.false_ne_true] at hlen hgo ha
      try simp only [List.length_cons,List.length_append,List.length_nil] at hlen
      simp -implicitDefEqProofs (disch:=first | omega | (simp only [List.length_append,List.length_cons,List.length_nil]; omega)) only [ZS,seval,ZX,ch,im,h0,h1,h5,h6,e1,hil,hfl,hk3,ov,cv,aR,aB,az,aA,ay,he,hR2,hR4,aZ hpl,c7,c1,c2,c20];subst hL;exact hgo _ _ hil hd' om ha (by simp -implicitDefEqProofs (disch:=omega) only [ZS,seval]; omega) (by simp -implicitDefEqProofs (disch:=omega) only [ZS,seval,h0]) (by simp -implicitDefEqProofs (disch:=omega) only [ZS,seval,h1]) (by simp -implicitDefEqProofs (disch:=omega) only [ZS,seval,ZX,h5,List.append_nil,List.append_assoc]) (by simp -implicitDefEqProofs (disch:=omega) only [ZS,seval])
    | false=>
     rw [c2,if_neg Bool.false_ne_true] at hlen hgo ha;cases c3:xk == 3 with
     | true=>
      rw [c3,if_pos rfl] at hlen hgo ha
      try simp only [List.length_cons,List.length_append,List.length_nil] at hlen
      simp -implicitDefEqProofs (disch:=first | omega | (simp only [List.length_append,List.length_cons,List.length_nil]; omega)) only [ZS,seval,ZX,ch,im,h0,h1,h5,h6,e1,hil,hfl,hk3,ov,cv,aR,aB,az,aA,ay,he,hR2,hR4,aZ hpl,c7,c1,c2,c3];subst hL;exact hgo _ _ hil hd' om ha (by simp -implicitDefEqProofs (disch:=omega) only [ZS,seval]; omega) (by simp -implicitDefEqProofs (disch:=omega) only [ZS,seval,h0]) (by simp -implicitDefEqProofs (disch:=omega) only [ZS,seval,h1]) (by simp -implicitDefEqProofs (disch:=omega) only [ZS,seval,ZX,h5,List.append_nil,List.append_assoc]) (by simp -implicitDefEqProofs (disch:=omega) only [ZS,seval])
     | false=>
      rw [c3,if_neg Bool.false_ne_true] at hlen hgo ha;cases c5:xk == 5 with
      | true=>
       rw [c5,if_pos rfl] at hlen hgo ha
       try simp only [List.length_cons,List.length_append,List.length_nil] at hlen
       simp -implicitDefEqProofs (disch:=first | omega | (simp only [List.length_append,List.length_cons,List.length_nil]; omega)) only [ZS,seval,ZX,ch,im,h0,h1,h5,h6,e1,hil,hfl,hk3,ov,cv,aR,aB,az,aA,ay,he,hR2,hR4,aZ hpl,c7,c1,c2,c3,c5];subst hL;exact hgo _ _ hil hd' om ha (by simp -implicitDefEqProofs (disch:=omega) only [ZS,seval]; omega) (by simp -implicitDefEqProofs (disch:=omega) only [ZS,seval,h0]) (by simp -implicitDefEqProofs (disch:=omega) only [ZS,seval,h1]) (by simp -implicitDefEqProofs (disch:=omega) only [ZS,seval,ZX,h5,List.append_nil,List.append_assoc]) (by simp -implicitDefEqProofs (disch:=omega) only [ZS,seval])
      | false=>
       rw [c5,if_neg Bool.false_ne_true] at hlen hgo ha;cases c6:xk == 6 with
       | true=>
        rw [c6,if_pos rfl] at hlen hgo ha
        try simp only [List.length_cons,List.length_append,List.length_nil] at hlen
        simp -implicitDefEqProofs (disch:=first | omega | (simp only [List.length_append,List.length_cons,List.length_nil]; omega)) only [ZS,seval,ZX,ch,im,h0,h1,h5,h6,e1,hil,hfl,hk3,ov,cv,aR,aB,az,aA,ay,he,hR2,hR4,aZ hpl,c7,c1,c2,c3,c5,c6];subst hL;exact hgo _ _ hil hd' om ha (by simp -implicitDefEqProofs (disch:=omega) only [ZS,seval]; omega) (by simp -implicitDefEqProofs (disch:=omega) only [ZS,seval,h0]) (by simp -implicitDefEqProofs (disch:=omega) only [ZS,seval,h1]) (by simp -implicitDefEqProofs (disch:=omega) only [ZS,seval,ZX,h5,List.append_nil,List.append_assoc]) (by simp -implicitDefEqProofs (disch:=omega) only [ZS,seval])
       | false=>
        rw [c6,if_neg Bool.false_ne_true] at hlen hgo ha;cases c4:xk == 4 with
        | true=>
         rw [c4,if_pos rfl] at hlen hgo ha;obtain rfl:xk=4:=beq_iff_eq.1 c4;rw [Hx] at hlen' hgo' ha';have hS:b9 90 ao.cells (some (xs.drop (i + 1)))=.lit 90 (xs.length - (i + 1)) (((xs.flatMap ao.cells).drop ((i + 1) * 5)).take ((xs.length - (i + 1)) * 5)):=by
          rw [wJ ao.len,List.take_of_length_le (by rw [aQ ao.len,List.length_drop]; exact Nat.le_refl _)];show PV.lit 90 (xs.drop (i + 1)).length _=_;rw [List.length_drop]
         have hQ:=fun s=>LU (ext:=ext) (k:=4) (o:=xo) (t:=t) (c:=xc) (ps:=ps) (v:=v) hpl (by rw [oS]; omega) (y:=some (xs.drop (i + 1))) (ns:=suf) hd' (hR _ (by unfold dQ; split<;>(try split)<;>omega)) s;simp only [hS,ao.cells] at hQ;have u4:ez Γ 331=true:=rfl;have n1:i + 1≤xs.length:=om;simp -implicitDefEqProofs (disch:=first | omega | (unfold cH bM; simp<;>omega) | (simp only [List.length_append,List.length_cons,List.length_nil]; omega)) only [ZS,seval,ZT,ZX,ch,im,h0,h1,h5,h6,e1,hil,hfl,hk3,ov,cv,aR,aB,az,aA,ay,he,hR2,hR4,aZ hpl,c7,c1,c2,c3,c5,c6,c4,hQ,u4,n1,IT];subst hL;exact hgo' _ _ hil hd' om ha' bh (aL h0) (aL h1) (aL h5) bh
        | false=>
         rw [c4,if_neg Bool.false_ne_true] at hlen hgo ha
         try simp only [List.length_cons,List.length_append,List.length_nil] at hlen
         simp -implicitDefEqProofs (disch:=first | omega | (simp only [List.length_append,List.length_cons,List.length_nil]; omega)) only [ZS,seval,ZX,ch,im,h0,h1,h5,h6,e1,hil,hfl,hk3,ov,cv,aR,aB,az,aA,ay,he,hR2,hR4,aZ hpl,c7,c1,c2,c3,c5,c6,c4];subst hL;exact hgo _ _ hil hd' om ha bh (aL h0) (aL h1) (jC h5 @List.append_nil.{0} @List.append_assoc.{0}) bh
theorem xi:∀l:List aT,l.length≤iD l
 | []=>Nat.zero_le _
 | .mk k t o c ps :: l=>by
  have:=xi l;rw [iD,oS,List.length_cons];omega
theorem BW:∀(n:Nat) (l:List aT) (v:PV) (pl:Nat),iD l=n→n < 1000000000000→pl≤6→Ki l v→∀s,Pc ext 302 [v,iN pl] (.sc (.string ⟨⟨dN pl l⟩⟩)) s:=by
 intro n
 induction n using Nat.strongRecOn with
 | _ n ih=>
 intro l v pl hn h12 hpl h s;have hrec:∀(ps:List aT) (v:PV) (q:Nat),iD ps < n→q≤6→Ki ps v→∀s,Pc ext 302 [v,iN q] (.sc (.string ⟨⟨dN q ps⟩⟩)) s:=fun ps v q h1 h2 h3 s=>ih _ h1 ps v q rfl om h2 h3 s;obtain⟨y,rfl,hy⟩:=h;have hlen:=jQ pl l;have hll:=xi l;have hyl:=hy.length;refine mu KA 4 ?_;cases y with
 | none=>
  have hl:l=[]:=List.eq_nil_of_length_eq_zero hyl.symm;subst hl;have z0:decide ((0:Int) < 0)=false:=rfl;unfold KA;refine tJ @bW ?_;refine ac fun L hL=>?_;exact qs @im.eq_1 @zl.eq_1 @L6 z0
 | some xs=>
  unfold KA;refine tJ @bW ?_;exact Gv hrec h12 hpl (xs:=xs) (by rw [show xs.length=l.length from hyl]; omega) s.n (W:=dN pl l) om l 0 [] _ _ (Nat.zero_le _) hy om rfl ⟨Nat.le_refl _,Nat.le_refl _⟩ (aL @bW) bh bh bh
end Go.Proofs.YtflfflfodghgpaaGreatDoor
set_option linter.unusedSimpArgs false
namespace Go.Proofs.YtflfflfodghgpaaGreatDoor
open Go Go.EvL Go.PE Go.Mir
variable {ext:ai}
def H2 (same:List aT→Bool):R→Bool
 | .ok (ps,_)=>same ps
 | .error _=>false
theorem As:type_of% (And.intro (@H2.eq_1)<|@H2.eq_2):=And.intro (@H2.eq_1)<|@H2.eq_2
theorem Dv {l:List aT}{v:PV} (hsz:iD l < 1000000000000) (h:Ki l v) {same:List aT→Bool}{r:R} (hs:∀ps j,r=.ok (ps,j)→∀s,Pc ext 185 [dm ps,v] (.sc (.bool (same ps))) s) (hp:gY (dN 0 l) 0 r) (s:PS) :
  Pc ext 265 [v] (.sc (.int .i64 (if H2 same r then 0 else 1))) s:=by
 have h1:∀s,Pc ext 302 [v,.sc (.int .i64 0)] (.sc (.string ⟨⟨dN 0 l⟩⟩)) s:=BW _ l v 0 rfl hsz om h;have h2:=fun s=>N4 (ext:=ext) hp s;refine mu QJ 2 ?_;unfold QJ;cases r with
 | ok x=>
  obtain⟨ps,j⟩:=x;have hs':=hs ps j rfl;have z0:((0:Int) != 0)=false:=rfl;cases c:same ps with
  | true=>exact wn h1 h2 @wa z0 hs' c @As
  | false=>exact wn h1 h2 @wa z0 hs' c @As
 | error x=>
  obtain⟨a,e⟩:=x;have he:(e == 0)=false:=by
   cases hp with
   | long=>rfl
   | wx _ k=>exact beq_eq_false_iff_ne.2 (k.err _ rfl)
  exact tI h1 h2 @wa he @As
end Go.Proofs.YtflfflfodghgpaaGreatDoor
set_option linter.unusedSimpArgs false
namespace Go.Proofs.YtflfflfodghgpaaGreatDoor
open Go Go.EvL Go.PE Go.Mir
variable {ext:ai}
theorem OO {l:List aT}{v:PV} (hsz:iD l < 1000000000000) (h:Ki l v) {same:List aT→Bool}{r:R} (hs:∀ps j,r=.ok (ps,j)→∀s,Pc ext 185 [dm ps,v] (.sc (.bool (same ps))) s) (hp:gY (dN 0 l) 0 r) (s:PS) :
  Pc ext 299 [v] (.tup [.sc (.string ⟨⟨if H2 same r then dN 0 l else []⟩⟩),.sc (.int .i64 (if H2 same r then 0 else 1))]) s:=by
 have h1:∀s,Pc ext 302 [v,.sc (.int .i64 0)] (.sc (.string ⟨⟨dN 0 l⟩⟩)) s:=BW _ l v 0 rfl hsz om h;have h2:=fun s=>Dv (ext:=ext) hsz h hs hp s;refine da (fn:=KD) (r:=2) (r2:=3) (by rfl) (by simp [KD]) (by rfl) (by rfl) ?_;unfold KD;have z0:((0:Int) != 0)=false:=rfl;have z1:((1:Int) != 0)=true:=rfl;cases c:H2 same r with
 | true=>
  rw [c] at h2;simp only [if_true] at h2;exact jC h1 h2 z0
 | false=>
  rw [c] at h2;simp only [Bool.false_eq_true,if_false] at h2;exact jC h1 h2 z1
theorem Cj {l:List aT}{v:PV} (hsz:iD l < 1000000000000) (h:Ki l v) {same:List aT→Bool}{r:R} (hs:∀ps j,r=.ok (ps,j)→∀s,Pc ext 185 [dm ps,v] (.sc (.bool (same ps))) s) (hp:gY (dN 5 l) 5 r) (s:PS) :
  Pc ext 300 [v] (.tup [.sc (.string ⟨⟨dN 5 l⟩⟩),.sc (.bool (H2 same r))]) s:=by
 have h1:∀s,Pc ext 302 [v,.sc (.int .i64 5)] (.sc (.string ⟨⟨dN 5 l⟩⟩)) s:=BW _ l v 5 rfl hsz om h;have h2:=fun s=>PZ (ext:=ext) hp s;refine da (fn:=Lk) (r:=2) (r2:=3) (by rfl) (by simp [Lk]) (by rfl) (by rfl) ?_;unfold Lk;have z0:((0:Int) == 0)=true:=rfl;cases r with
 | ok x=>
  obtain⟨ps,j⟩:=x;have hs':=hs ps j rfl;exact kU h1 h2 @wa z0 hs' @As
 | error x=>
  obtain⟨a,e⟩:=x;have he:(e == 0)=false:=by
   cases hp with
   | long=>rfl
   | wx _ k=>exact beq_eq_false_iff_ne.2 (k.err _ rfl)
  exact tI h1 h2 @wa he @As
end Go.Proofs.YtflfflfodghgpaaGreatDoor
namespace Go.Mir
inductive Sm (N:Nat):aT→Prop where
 | mk {k t o c ps} (h:ps.length≤N) (hs:∀q∈ps,Sm N q):Sm N (.mk k t o c ps)
theorem Sm.nil {N:Nat}{k:Int}{t:List UInt8}{o:Int}{c:Bool} : Sm N (.mk k t o c []):=.mk (Nat.zero_le _) fun q hq=>by cases hq
theorem Sm.one {N:Nat}{k:Int}{t:List UInt8}{o:Int}{c:Bool} : ∀q∈[aT.mk k t o c []],Sm N q:=fun q hq=>by
 cases hq with
 | head=>exact Sm.nil
 | tail _ h=>cases h
theorem Sm.sub {N:Nat}{k:Int}{t:List UInt8}{o:Int}{c:Bool}{ps:List aT} (h:ps.length≤N) (hs:∀q∈ps,Sm N q):∀q∈[aT.mk k t o c ps],Sm N q:=fun q hq=>by
 cases hq with
 | head=>exact .mk h hs
 | tail _ h=>cases h
def dO.pre (N:Nat):dO→Prop
 | .loop a _ _ _ _ acc=>acc.length≤a∧∀q∈acc,Sm N q
 | _=>True
def WS (N:Nat):dO→R→Prop
 | .loop _ _ _ _ _ _,.ok x=>x.1.length≤x.2∧∀q∈x.1,Sm N q
 | _,.ok x=>∀q∈x.1,Sm N q
 | _,.error _=>True
theorem Kd {N:Nat}{l:List aT}{t:List UInt8} (h:∀q∈l,Sm N q):(lz l t).length≤l.length + 1∧∀q∈lz l t,Sm N q:=by
 unfold lz;split
 ·split
  ·refine⟨by simp only [List.length_append,List.length_dropLast,List.length_cons,List.length_nil]; omega,fun q hq=>?_⟩;rcases List.mem_append.1 hq with hq | hq
   ·exact h q (List.dropLast_subset _ hq)
   ·exact Sm.one q hq
  ·refine⟨by simp only [List.length_append,List.length_cons,List.length_nil]; omega,fun q hq=>?_⟩;rcases List.mem_append.1 hq with hq | hq
   ·exact h q hq
   ·exact Sm.one q hq
 ·exact⟨by simp only [List.length_cons,List.length_nil]; omega,Sm.one⟩
theorem Nt {N:Nat}{l:List aT}{p:aT} (h:∀q∈l,Sm N q) (hp:Sm N p):(lZ l p).length≤l.length + 1∧∀q∈lZ l p,Sm N q:=by
 unfold lZ;split
 ·exact Kd h
 ·refine⟨by simp only [List.length_append,List.length_cons,List.length_nil]; omega,fun q hq=>?_⟩;rcases List.mem_append.1 hq with hq | hq
  ·exact h q hq
  ·cases hq with
   | head=>exact hp
   | tail _ h=>cases h
theorem KB {N:Nat}{l ps:List aT} (h1:ps.length≤1) (h:∀q∈l,Sm N q) (hp:∀q∈ps,Sm N q):(ps.foldl lZ l).length≤l.length + 1∧∀q∈ps.foldl lZ l,Sm N q:=by
 match ps,h1 with
 | [],_=>exact⟨Nat.le_succ _,h⟩
 | [p],_=>exact Nt h (hp p (List.mem_cons_self ..))
theorem Wx.small {l:List UInt8}{t:dO}{r:R} (h:Wx l t r):t.ok l→t.pre l.length→WS l.length t r:=by
 induction h with
 | l_end h=>intro ok pr; exact pr
 | l_q hl h h2=>intro ok pr; exact pr
 | l_a h h2 h3=>intro ok pr; exact pr
 | @l_tilde a p lv fr o r hl h h2 k ih=>
  intro ok pr;have:=ih (by simp only [dO.ok]; omega) ⟨Nat.succ_le_succ (Nat.zero_le _),Sm.one⟩;cases r with
  | error x=>trivial
  | ok x=>exact this
 | @l_on a p lv fr o acc ps j r hl h h2 k k2 ih ih2=>
  intro ok pr;have hb:=k.bound hl;have hf:=KB hb.2.2.1 pr.2 (ih hl trivial);have:=ih2 hb.2.1 ⟨by have:=hb.1; have:=pr.1; have:=hf.1; simp only at *; omega,hf.2⟩;cases r with
  | error x=>trivial
  | ok x=>exact this
 | @x_brc a p lv r h h2 k ih=>
  intro ok pr;have hl:=bL h;have:=ih (by simp only [dO.ok]; omega) trivial;cases r with
  | error x=>trivial
  | ok x=>exact this
 | x_ari h h2 hl h3 h4 k ih=>
  intro ok pr;have hb:=k.bound (by simp only [dO.ok]; omega);have:=ih (by simp only [dO.ok]; omega) ⟨Nat.zero_le _,fun q hq=>by cases hq⟩;exact Sm.sub (Nat.le_trans this.1 hb.2.1) this.2
 | t_dq hl h h2 h3 k ih=>
  intro ok pr;have hb:=k.bound (by simp only [dO.ok]; omega);have:=ih (by simp only [dO.ok]; omega) ⟨Nat.zero_le _,fun q hq=>by cases hq⟩;exact Sm.sub (Nat.le_trans this.1 hb.2.1) this.2
 | s_nl h h2 h3=>intro ok pr q hq; cases hq
 | @r_sharp a p lv j r hl h k h2 h3 k2 ih=>intro ok pr; have:=ih (by simp only [dO.ok] at *; omega) trivial; cases r with | error x=>trivial | ok x=>exact this
 | @r_two a p lv r h k2 ih=>intro ok pr; have:=ih (by simp only [dO.ok] at *; omega) trivial; cases r with | error x=>trivial | ok x=>exact this
 | @w_ok a p lv j ps i k h h2 h3 h4 h5 h6 h7 k2 ih=>
  intro ok pr;have ho:=mg l j h2 h5;have hb:=k2.bound ho.1;have:=ih ho.1 ⟨Nat.zero_le _,fun q hq=>by cases hq⟩;exact Sm.sub (Nat.le_trans this.1 hb.2.1) this.2
 | _=>intro ok pr; first | trivial | exact Sm.one
end Go.Mir
namespace Go.Proofs.YtflfflfodghgpaaGreatDoor
open Go Go.EvL Go.PE
variable {ext:ai}
structure aw where
 pos:Int
 parts:PV
def aw.cells (x:aw):List PV:=[.sc (.int .i64 x.pos),x.parts]
theorem aw.len (x:aw):x.cells.length=2:=(rfl)
def qZ (d:Nat) (p:PV):Prop:=∃l:Option (List aw),p=b9 82 aw.cells l∧(l.getD []).length < 4611686018427387904∧∀x∈l.getD [],bA d x.parts
end Go.Proofs.YtflfflfodghgpaaGreatDoor
namespace Go.Proofs.YtflfflfodghgpaaGreatDoor
open Go Go.EvL Go.PE
variable {ext:ai}
structure aF where
 pos:Int
 name:ByteArray
 vpos:Int
 parts:PV
def aF.cells (x:aF):List PV:=[.sc (.int .i64 x.pos),.sc (.string x.name),.sc (.int .i64 x.vpos),x.parts]
theorem aF.len (x:aF):x.cells.length=4:=(rfl)
def s6 (d:Nat) (p:PV):Prop:=∃l:Option (List aF),p=b9 84 aF.cells l∧(l.getD []).length < 4611686018427387904∧∀x∈l.getD [],bA d x.parts
end Go.Proofs.YtflfflfodghgpaaGreatDoor
namespace Go.Proofs.YtflfflfodghgpaaGreatDoor
open Go Go.EvL Go.PE
variable {ext:ai}
structure bo where
 pos:Int
 fd:Int
 op:Int
 tpos:Int
 parts:PV
def bo.cells (x:bo):List PV:=[.sc (.int .i64 x.pos),.sc (.int .i64 x.fd),.sc (.int .i64 x.op),.sc (.int .i64 x.tpos),x.parts]
theorem bo.len (x:bo):x.cells.length=5:=(rfl)
def vL (d:Nat) (p:PV):Prop:=∃l:Option (List bo),p=b9 148 bo.cells l∧(l.getD []).length < 4611686018427387904∧∀x∈l.getD [],bA d x.parts
end Go.Proofs.YtflfflfodghgpaaGreatDoor
namespace Go.Proofs.YtflfflfodghgpaaGreatDoor
open Go Go.EvL Go.PE
variable {ext:ai}
structure ah where
 kind:Int
 pos:Int
 name:ByteArray
 all:Bool
 assigns:PV
 words:PV
 redirs:PV
 kids:PV
 items:PV
def ah.cells (x:ah):List PV:=[.sc (.int .i64 x.kind),.sc (.int .i64 x.pos),.sc (.string x.name),.sc (.bool x.all),x.assigns,x.words,x.redirs,x.kids,x.items]
theorem ah.len (x:ah):x.cells.length=9:=(rfl)
structure be where
 pats:PV
 body:PV
def be.cells (x:be):List PV:=[x.pats,x.body]
theorem be.len (x:be):x.cells.length=2:=(rfl)
end Go.Proofs.YtflfflfodghgpaaGreatDoor
namespace Go.Proofs.YtflfflfodghgpaaGreatDoor
open Go Go.EvL Go.PE
variable {ext:ai}
def iC {α:Type} (e:Nat) (c:α→List PV) (Q:α→Prop) (p:PV):Prop:=∃l:Option (List α),p=b9 e c l∧(l.getD []).length < 4611686018427387904∧∀x∈l.getD [],Q x
theorem iC.one {α:Type}{e:Nat}{c:α→List PV}{Q:α→Prop}{p:PV} (h:iC e c Q p):cX p=true:=by
 obtain⟨l,rfl,_⟩:=h; exact dH _ _ _
def dn (D:Nat):Nat→ah→Prop
 | 0,_=>False
 | d + 1,x=>s6 D x.assigns∧qZ D x.words∧vL D x.redirs∧iC 28 ah.cells (dn D d) x.kids∧iC 150 be.cells (fun it=>qZ D it.pats∧iC 28 ah.cells (dn D d) it.body) x.items
theorem dn.ones {D d:Nat}{x:ah} (h:dn D d x):x.cells.all cX=true:=by
 cases d with
 | zero=>cases h
 | succ d=>
  obtain⟨h1,h2,h3,h4,h5⟩:=h;have w1:cX x.assigns=true:=iC.one h1;have w2:cX x.words=true:=iC.one h2;have w3:cX x.redirs=true:=iC.one h3;simp only [ah.cells,List.all_cons,List.all_nil,w1,w2,w3,h4.one,h5.one,Bool.and_true]; rfl
end Go.Proofs.YtflfflfodghgpaaGreatDoor
namespace Go.Proofs.YtflfflfodghgpaaGreatDoor
open Go Go.EvL Go.PE
variable {ext:ai}
structure Pd (a:PV) (s0:PS) (i:Nat) (f:aO) (s:PS):Prop where
 s:s=s0
 a:f 0=a
 i:f 6=.sc (.int .i64 (i:Int))
 x:∃z:Int,f 4=.sc (.int .i64 z)
 y:∃z:Int,f 5=.sc (.int .i64 z)
theorem Js:∀(d:Nat) (a:PV),bA d a→∀s,∃z y:Int,aU Tryz.prog Γ ext 58 [a] s=some (.tup [.sc (.int .i64 z),.sc (.int .i64 y)],s):=by
 intro d
 induction d with
 | zero=>intro a h; cases h
 | succ d ih=>
  rintro a ⟨l,rfl,hl,hl'⟩ s;have L:=cA (e:=90) (c:=ao.cells) l;suffices h:∃q,aU Tryz.prog Γ ext 58 [b9 90 ao.cells l] s=some q∧∃z y:Int,q=(.tup [.sc (.int .i64 z),.sc (.int .i64 y)],s) by
   obtain⟨q,e,z,y,rfl⟩:=h;exact⟨z,y,e⟩
  refine yL (fn:=QY) (by rfl) (by simp [QY]) ?_;generalize hQ:H8 QY s _=Q;unfold QY;refine fA (fun f s'=>s'=⟨s.h,s.n,s.n⟩∧f 0=b9 90 ao.cells l) ?_ ?_
  ·simp -implicitDefEqProofs only [bg,ax,aq,aN,bm,cK,aC,bH];exact⟨_,_,rfl,rfl,rfl⟩
  rintro f _ ⟨rfl,h0⟩;refine fA (fun f s'=>s'=⟨s.h,s.n,s.n⟩∧f 0=b9 90 ao.cells l∧(∃z:Int,f 4=.sc (.int .i64 z))∧∃z:Int,f 5=.sc (.int .i64 z)) ?_ ?_
  ·simp -implicitDefEqProofs only [bg,ax,aq,aN,bm,Option.map_some,aI,aC,aM,↓reduceIte,bH,h0,L];exact⟨_,_,rfl,rfl,h0,⟨_,rfl⟩,⟨_,rfl⟩⟩
  rintro f _ ⟨rfl,h0,h4,h5⟩;refine kD ?_;refine fA (Pd (b9 90 ao.cells l) ⟨s.h,s.n,s.n⟩ 0) ?_ ?_
  ·simp -implicitDefEqProofs only [bg,ax,aq,aN,bm,aC,bH];exact⟨_,_,rfl,rfl,h0,rfl,h4,h5⟩
  intro f s1 hI;refine nc (l.getD []).length (Pd (b9 90 ao.cells l) ⟨s.h,s.n,s.n⟩) (Pd (b9 90 ao.cells l) ⟨s.h,s.n,s.n⟩ (l.getD []).length) hI ?_ ?_
  ·rintro i f _ hi ⟨rfl,h0,h6,⟨z,hz⟩,⟨y,hy⟩⟩;by_cases hlt:i < (l.getD []).length
   ·have h5:(decide ((i:Int) < ((l.getD []).length:Int)))=true:=by simp; exact hlt
    have hx:(l.getD [])[i]?=some ((l.getD [])[i]):=List.getElem?_eq_getElem hlt;generalize (l.getD [])[i]=x at hx;obtain⟨m,rfl⟩ : ∃k,l=some k:=by cases l with | none=>simp at hx | some k=>exact⟨k,rfl⟩
    obtain⟨cz,cy,hc⟩:=ih x.parts (hl' x (List.mem_of_getElem? hx)) ⟨s.h,s.n,s.n⟩;simp only [b9,Option.getD_some] at h0 hx hlt L h5 hl;have h1:=aQ ao.len m;obtain⟨r1,h3⟩:=de ao.len hx;have h7:=fX (i:=i) (by omega);simp -implicitDefEqProofs only [aD,bB,aY,bV,aW,ce,bg,ax,aq,aN,bm,Option.map_some,Option.bind_some,aI,aC,fB,aM,Nat.reduceEqDiff,↓reduceIte,bH,cG,lF,fy,bz,aK,au,List.length_cons,Nat.reduceLeDiff,and_self,List.drop_succ_cons,List.drop_zero,List.take_succ_cons,List.take_zero,gN,dI,bS,List.map_cons,List.map_nil,List.nil_append,List.append_nil,List.cons_append,Bool.false_eq_true,reduceCtorEq,eE,gp,oZ,rl,List.getElem?_cons_zero,List.getElem?_cons_succ,h0,h6,hz,hy,L,h5,h7,hlt,h1,h3,ap,ao.cells,hc,b9];exact⟨hlt,rfl,h0,rfl,⟨_,rfl⟩,⟨_,rfl⟩⟩
   ·obtain rfl:i=(l.getD []).length:=by omega
    have h5:(decide (((l.getD []).length:Int) < ((l.getD []).length:Int)))=false:=by simp
    simp -implicitDefEqProofs only [aD,bB,aY,bV,aW,bg,ax,aq,aN,bm,Option.map_some,aI,aM,Nat.reduceEqDiff,↓reduceIte,cG,iT,gq,bz,aK,true_and,dI,reduceCtorEq,gp,pj,h0,h6,L,h5];exact⟨rfl,h0,h6,⟨z,hz⟩,⟨y,hy⟩⟩
  ·rintro f _ ⟨rfl,h0,h6,⟨z,hz⟩,⟨y,hy⟩⟩;refine yN ?_;simp -implicitDefEqProofs only [bg,ax,aq,aN,bm,aI,aM,Nat.reduceEqDiff,↓reduceIte,hz,hy];refine⟨_,_,rfl,?_⟩;subst hQ;refine yU ?_ ⟨z,y,rfl⟩;simp -implicitDefEqProofs only [Option.map_some,Option.bind_some,aM,Nat.reduceEqDiff,↓reduceIte,Nat.le_refl,aP,ck,br,frz,cx,bQ,Bool.false_eq_true,dK,QY]
end Go.Proofs.YtflfflfodghgpaaGreatDoor
namespace Go.Proofs.YtflfflfodghgpaaGreatDoor
open Go Go.EvL Go.PE
variable {ext:ai}
theorem xz {α β:Type}{g:α→List β}{l:List α}{i:Nat}{x:α} (h:l[i]?=some x):(l.take (i + 1)).flatMap g=(l.take i).flatMap g ++ g x:=by
 rw [List.take_add_one,h,List.flatMap_append];simp
theorem rn {α β:Type}{g:α→List β} (l:List α) (i:Nat):((l.take i).flatMap g).length≤(l.flatMap g).length:=by
 conv=>rhs; rw [← List.take_append_drop i l,List.flatMap_append,List.length_append]
 omega
theorem ah.clean {x:ah} (h1:cM x.assigns=true) (h2:cM x.words=true) (h3:cM x.redirs=true) (h4:cM x.kids=true) (h5:cM x.items=true):x.cells.all cM=true:=by
 simp only [ah.cells,List.all_cons,List.all_nil,h1,h2,h3,h4,h5,Bool.and_true]; rfl
theorem vW {α:Type} (e:Nat) (c:α→List PV) (l:Option (List α)):cM (b9 e c l)=true:=by cases l<;>rfl
theorem iC.clean {α:Type}{e:Nat}{c:α→List PV}{Q:α→Prop}{p:PV} (h:iC e c Q p):cM p=true:=by
 obtain⟨l,rfl,_⟩:=h; exact vW _ _ _
theorem dn.cleans {D d:Nat}{x:ah} (h:dn D d x):x.cells.all cM=true:=by
 cases d with
 | zero=>cases h
 | succ d=>
  obtain⟨h1,h2,h3,h4,h5⟩:=h;exact ah.clean (iC.clean h1) (iC.clean h2) (iC.clean h3) h4.clean h5.clean
structure Jw (x:ah) (b:Nat) (l:List ah) (f:aO) (s:PS):Prop where
 p:f 1=.ptr b 0 9
 h:s.h b=⟨x.cells,0,28⟩
 n:b + 1≤s.n
 w:b≤s.w
 acc:jv 28 9 ah.cells (b + 1) l (f 3) s
theorem kids_ok (x:ah) (lk:Option (List ah)) (li:Option (List be)) (bd:be→Option (List ah)) (hk:x.kids=b9 28 ah.cells lk) (hit:x.items=b9 150 be.cells li) (hbd:∀it∈li.getD [],it.body=b9 28 ah.cells (bd it))
  (hbig:(lk.getD []).length + ((li.getD []).flatMap fun it=>(bd it).getD []).length≤16777216) (hlen:(li.getD []).length≤16777216)
  (ho:∀y,y∈lk.getD []∨(∃it∈li.getD [],y∈(bd it).getD [])→y.cells.all cX=true∧y.cells.all cM=true) (s:PS) :
  aU Tryz.prog Γ ext 59 [.agg x.cells] s=some (b9 28 ah.cells (eH (lk.getD [] ++ (li.getD []).flatMap fun it=>(bd it).getD [])),s):=by
 have L:=cA (e:=150) (c:=be.cells) li;suffices h:∃q,aU Tryz.prog Γ ext 59 [.agg x.cells] s=some q∧q=(b9 28 ah.cells (eH (lk.getD [] ++ (li.getD []).flatMap fun it=>(bd it).getD [])),s) by
  obtain⟨q,e,rfl⟩:=h;exact e
 refine yL (fn:=Tb) (by rfl) (by simp [Tb]) ?_;generalize hQ:H8 Tb s _=Q;unfold Tb;refine fA (fun f s'=>f 1=.ptr s.n 0 9∧s'.h s.n=⟨x.cells,0,28⟩∧s'.n=s.n + 1∧s'.w=s.n) ?_ ?_
 ·simp -implicitDefEqProofs only [bg,ax,aq,aN,bm,cK,aI,aC,aM,bx,↓reduceIte,bH];exact⟨_,_,rfl,rfl,by simp -implicitDefEqProofs only [↓reduceIte,dw],rfl,rfl⟩
 rintro f s1 ⟨p1,p2,p3,p4⟩;refine fA (Jw x s.n []) ?_ ?_
 ·simp -implicitDefEqProofs only [bg,ax,aq,aN,bm,aC,bH];exact⟨_,_,rfl,p1,p2,by omega,by omega,.nil _ _ _ _ _⟩
 rintro f s1 ⟨p1,p2,p3,p4,p5⟩;refine fA (Jw x s.n (lk.getD [])) ?_ ?_
 ·obtain⟨v',s',a1,a2,a3,a4,a5⟩:=p5.app (bytes:=160) ah.len (lk.getD []) (by omega) (by simp only [List.length_nil]; omega) (by simp only [List.length_nil]; omega) (fun y hy=>(ho y (.inl hy)).1) p3;have he:=rh (e:=28) ah.len lk s1;simp only [ah.cells] at p2;simp -implicitDefEqProofs only [bg,ax,aq,aN,bm,Nat.zero_add,Nat.reduceAdd,Option.map_some,Option.bind_some,aI,aM,Nat.reduceEqDiff,↓reduceIte,dl,au,List.length_cons,List.length_nil,Nat.reduceLeDiff,Nat.zero_le,and_self,List.drop_succ_cons,List.drop_zero,List.take_succ_cons,List.take_zero,Nat.le_refl,Bool.false_eq_true,p1,p2,hk,he,a1];refine⟨_,_,rfl,p1,?_,by omega,a5 _ (by omega) p4,by rw [List.nil_append] at a2; exact a2⟩;rw [a3 _ (by omega)];exact p2
 rintro f s1 hI;refine kD ?_;refine fA (fun f s1=>Jw x s.n (lk.getD [] ++ ((li.getD []).take 0).flatMap fun it=>(bd it).getD []) f s1∧f 4=.sc (.int .i64 ((0:Nat):Int))) ?_ ?_
 ·obtain⟨p1,p2,p3,p4,p5⟩:=hI;simp -implicitDefEqProofs only [bg,ax,aq,aN,bm,aC,bH,List.take_zero];exact⟨_,_,rfl,⟨p1,p2,p3,p4,by rw [List.flatMap_nil,List.append_nil]; exact p5⟩,rfl⟩
 rintro f s1 hI;refine nc (li.getD []).length (fun i f s1=>Jw x s.n (lk.getD [] ++ ((li.getD []).take i).flatMap fun it=>(bd it).getD []) f s1∧f 4=.sc (.int .i64 (i:Int))) (fun f s1=>Jw x s.n (lk.getD [] ++ (li.getD []).flatMap fun it=>(bd it).getD []) f s1) hI ?_ ?_
 ·rintro i f s1 hi ⟨⟨p1,p2,p3,p4,p5⟩,h4⟩;by_cases hlt:i < (li.getD []).length
  ·have h5:(decide ((i:Int) < ((li.getD []).length:Int)))=true:=by simp; exact hlt
   have hx:(li.getD [])[i]?=some ((li.getD [])[i]):=List.getElem?_eq_getElem hlt;generalize (li.getD [])[i]=it at hx;have hmem:=List.mem_of_getElem? hx;have hb:=hbd it hmem;have hfl:=xz (g:=fun it=>(bd it).getD []) hx;have hle:=rn (g:=fun it=>(bd it).getD []) (li.getD []) (i + 1);rw [hfl,List.length_append] at hle;obtain⟨v',s',a1,a2,a3,a4,a5⟩:=p5.app (bytes:=160) ah.len ((bd it).getD []) (by omega) (by rw [List.length_append]; omega) (by rw [List.length_append]; omega) (fun y hy=>(ho y (.inr ⟨it,hmem,hy⟩)).1) p3;have he:=rh (e:=28) ah.len (bd it) s1;have h6:s'.h s.n=⟨x.cells,0,28⟩:=by rw [a3 _ (by omega)]; exact p2
   obtain⟨m,rfl⟩ : ∃k,li=some k:=by cases li with | none=>simp at hx | some k=>exact⟨k,rfl⟩
   simp only [b9,Option.getD_some] at hit hx hlt L h5 hlen hfl;have h1:=aQ be.len m;obtain⟨r1,h3⟩:=de be.len hx;have h7:=fX (i:=i) (by omega);simp only [ah.cells,hit] at p2;simp -implicitDefEqProofs only [aD,bB,aY,bV,aW,ce,bg,ax,aq,aN,bm,Nat.zero_add,Nat.reduceAdd,Option.map_some,Option.bind_some,aI,aC,aM,Nat.reduceEqDiff,↓reduceIte,bH,cG,lF,fy,bz,aK,dl,au,List.length_cons,List.length_nil,Nat.reduceLeDiff,Nat.zero_le,and_self,and_true,List.drop_succ_cons,List.drop_zero,List.take_succ_cons,List.take_zero,Nat.le_refl,gN,dI,List.nil_append,List.cons_append,Bool.false_eq_true,eE,gp,oZ,p1,p2,h4,L,h5,h7,hlt,h1,h3,ap,be.cells,hb,he,a1];refine⟨hlt,p1,h6,by omega,a5 _ (by omega) p4,?_⟩;show jv 28 9 ah.cells (s.n + 1) (lk.getD [] ++ (m.take (i + 1)).flatMap fun it=>(bd it).getD []) v' s';rw [hfl,← List.append_assoc];exact a2
  ·obtain rfl:i=(li.getD []).length:=by omega
   have h5:(decide (((li.getD []).length:Int) < ((li.getD []).length:Int)))=false:=by simp
   have p2':=p2;simp only [ah.cells,hit] at p2';simp -implicitDefEqProofs only [aD,bB,aY,bV,aW,bg,ax,aq,aN,bm,Nat.zero_add,Nat.reduceAdd,Option.map_some,Option.bind_some,aI,aM,Nat.reduceEqDiff,↓reduceIte,cG,iT,gq,bz,aK,dl,au,List.length_cons,List.length_nil,Nat.zero_le,and_self,true_and,List.drop_succ_cons,List.drop_zero,List.take_succ_cons,List.take_zero,Nat.le_refl,dI,Bool.false_eq_true,gp,pj,p1,p2',h4,L,h5];refine⟨p1,p2,p3,p4,?_⟩;rw [List.take_length] at p5;exact p5
 ·rintro f s1 ⟨p1,p2,p3,p4,p5⟩;refine yN ?_;simp -implicitDefEqProofs only [bg,ax,aq,aN,bm,aI,aM,↓reduceIte];refine⟨_,_,rfl,?_⟩;subst hQ;refine yU ?_ rfl;refine fJ (vs:=[f 3]) rfl rfl p4 ?_;refine Cq (p5.frz ah.len (by omega) fun y hy=>?_);rw [List.mem_append,List.mem_flatMap] at hy;exact (ho y (hy.imp id id)).2
end Go.Proofs.YtflfflfodghgpaaGreatDoor
