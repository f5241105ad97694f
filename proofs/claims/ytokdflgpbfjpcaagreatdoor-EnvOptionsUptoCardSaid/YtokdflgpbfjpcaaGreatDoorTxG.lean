/- What functions of the program and of the reference compute, on values. No statement is proved here. -/
import Derived.Test.YtokdflgpbfjpcaaGreatDoorTxF
set_option linter.all false
namespace Go.Proofs.YtokdflgpbfjpcaaGreatDoor
open Go Go.EvL Go.PE Go.Mir
variable {ext:ar}{b:ByteArray}
def rR:bj:=(sr [mt 78 0,mt 79 9,ob 80 (cl 333 [(tp 78),(tp 79)]),mt 11 80]
 (.seq (tO [mt 81 11,mt 82 9,ob 83 (bn .sub 3 81 82),ob 84 (bi .gtr 83 32)] 84
 (sr [mt 85 9,ob 86 (cl 278 [(tp 85),(ki 3)]),o0 (.store 275 3 (tp 8) (tp 86))]
 .ret)
 .skip)
 (.seq (tO [mt 87 9,mt 88 0,ob 89 (.len true (tp 88)),ob 90 (bn .eql 3 87 89),mt 91 90,gt 91 false 92 11,gt 91 false 93 0,og 91 false 94 (.len true (tp 93)),og 91 false 95 (bn .eql 3 92 94),ob 96 (po 91 95)] 96
 (sr [mt 97 1,ob 98 (cl 278 [(tp 97),(ki 7)]),o0 (.store 275 3 (tp 8) (tp 98))]
 .ret)
 .skip)
 (.seq (tO [mt 99 11,mt 100 9,ob 101 (bn .eql 3 99 100)] 101
 (sr [mt 102 9,ob 103 (cl 278 [(tp 102),(ki 6)]),o0 (.store 275 3 (tp 8) (tp 103))]
 .ret)
 .skip)
 (sr [mt 104 0,mt 105 9,mt 106 11,ob 107 (.sslc (tp 104) (some (tp 105)) (some (tp 106))),ob 108 (.build [(.int .i64 0),(.string ⟨#[]⟩),(.int .i64 0),(.bool false),(.slice none 0 0)] [(0,1,(ki 4)),(1,1,(tp 107))]),ob 12 (.alloc 155 (.agg #[(.int .i64 0),(.string ⟨#[]⟩),(.int .i64 0),(.bool false),(.slice none 0 0)])),o0 (.store 155 5 (tp 12) (tp 108))]
 (.seq (tO [mt 109 0,mt 110 11,ob 111 (.sidx (tp 109) (tp 110)),ob 112 (bc .eql 111 125)] 112
 (sr [ob 113 (.load 155 true 5 (tp 12)),mt 114 11,ob 115 (bi .add 114 1),ob 116 (cl 303 [(tp 113),(tp 115)]),o0 (.store 275 3 (tp 8) (tp 116))]
 .ret)
 .skip)
 (sr [mt 118 0,mt 119 11,ob 120 (cl 334 [(tp 118),(tp 119)]),mt 117 120,ob 121 (.ext (tp 117) 0),ob 122 (.ext (tp 117) 1),ob 123 (.ext (tp 117) 2),mt 13 121,mt 14 122,mt 15 123]
 (.seq (tO [mt 124 13,ob 125 (bi .eql 124 0)] 125
 (.seq (tO [mt 126 0,mt 127 11,ob 128 (.sidx (tp 126) (tp 127)),ob 129 (bc .eql 128 58),mt 130 129,gt 130 true 131 11,og 130 true 132 (bi .add 131 1),gt 130 true 133 0,og 130 true 134 (.len true (tp 133)),og 130 true 135 (bn .eql 3 132 134),ob 136 (pk 130 135)] 136
 (sr [mt 137 1,ob 138 (cl 278 [(tp 137),(ki 7)]),o0 (.store 275 3 (tp 8) (tp 138))]
 .ret)
 .skip)
 (.seq (tO [mt 139 0,mt 140 11,ob 141 (.sidx (tp 139) (tp 140)),ob 142 (bc .eql 141 58)] 142
 (sr [mt 143 11,ob 144 (bi .add 143 1),ob 145 (cl 278 [(tp 144),(ki 6)]),o0 (.store 275 3 (tp 8) (tp 145))]
 .ret)
 .skip)
 (.seq (tO [mt 146 0,mt 147 9,ob 148 (.sidx (tp 146) (tp 147)),ob 149 (bc .eql 148 35)] 149
 (sr [mt 150 0,mt 151 9,ob 152 (bi .add 151 1),ob 153 (cl 333 [(tp 150),(tp 152)]),ob 154 (cl 278 [(tp 153),(ki 6)]),o0 (.store 275 3 (tp 8) (tp 154))]
 .ret)
 .skip)
 (sr [mt 155 11,ob 156 (cl 278 [(tp 155),(ki 6)]),o0 (.store 275 3 (tp 8) (tp 156))]
 .ret))))
 .skip)
 (.seq (tO [mt 157 3,ob 158 (bi .geq 157 32)] 158
 (sr [mt 159 11,ob 160 (cl 278 [(tp 159),(ki 5)]),o0 (.store 275 3 (tp 8) (tp 160))]
 .ret)
 .skip)
 (.seq (tO [mt 161 0,mt 162 11,mt 163 15,ob 164 (bn .add 3 162 163),ob 165 (cl 296 [(tp 161),(tp 164)])] 165
 (sr [mt 166 11,mt 167 15,ob 168 (bn .add 3 166 167),ob 169 (cl 278 [(tp 168),(ki 6)]),o0 (.store 275 3 (tp 8) (tp 169))]
 .ret)
 .skip)
 (sr [mt 170 0,mt 171 11,mt 172 15,ob 173 (bn .add 3 171 172),mt 174 2,ob 175 (cl 284 [(tp 174)]),mt 176 3,ob 177 (bi .add 176 1),mt 178 1,ob 179 (cl 264 [(tp 170),(tp 173),(tp 175),(tp 177),(tp 178)]),ob 16 (.alloc 275 (.agg #[(.slice none 0 0),(.int .i64 0),(.int .i64 0)])),o0 (.store 275 3 (tp 16) (tp 179))]
 (.seq (tO [ob 180 (.faddr 2 (tp 16)),ob 181 (.load 3 false 1 (tp 180)),ob 182 (bi .neq 181 0)] 182
 (sr [ob 183 (.load 275 true 3 (tp 16)),o0 (.store 275 3 (tp 8) (tp 183))]
 .ret)
 .skip)
 (.seq (.draw [(mt 184 13,[13],[]),(mt 185 14,[14],[0]),(ob 186 (.faddr 0 (tp 16)),[16],[1,0]),(ob 187 (.load 100 false 1 (tp 186)),[186],[1,0]),(ob 188 (.faddr 2 (tp 12)),[12],[3,2,1]),(o0 (.store 3 1 (tp 188) (tp 184)),[188,184],[3,2,1]),(ob 189 (.faddr 3 (tp 12)),[12],[3,2]),(o0 (.store 4 1 (tp 189) (tp 185)),[189,185],[3,2]),(ob 190 (.faddr 4 (tp 12)),[12],[]),(o0 (.store 100 1 (tp 190) (tp 187)),[190,187],[])])
 (sr [ob 191 (.load 155 true 5 (tp 12)),ob 192 (.faddr 1 (tp 16)),ob 193 (.load 3 false 1 (tp 192)),ob 194 (bi .add 193 1),ob 195 (cl 303 [(tp 191),(tp 194)]),o0 (.store 275 3 (tp 8) (tp 195))]
 .ret))))))))))))))
def VC (q:List PV) (r:Nat) (s:PS) (f':aX) (s':PS):Prop:=s.n≤s'.w∧f' r=.ptr s.n 0 3∧∃cs low e,s'.h s.n=⟨cs,low,e⟩∧cs.length=3∧low≤3∧iI s.n s' cs=some q
def m9 (s:PS):PS:=(⟨s.h,s.n,s.n⟩ : PS).new ⟨[.sc (.slice none 0 0),.sc (.int .i64 0),.sc (.int .i64 0)],0,275⟩
def B2 (ext:ar) (b:ByteArray) (a p lv:Nat) (r:R):Prop:=∀(s:PS) (f:aX) (q:List PV),bS r=.agg q→f 0=.sc (.string b)→f 1=iN a→f 2=iN p→f 3=iN lv→f 8=.ptr s.n 0 3→f 9=iN (a + 2:Nat)→Er (VC q 8 s) (aT Tryz.prog Γ ext rR f (m9 s))
theorem LV (hb:b.data.toList.length < 1000000000) {a p lv:Nat}{j:Nat} (hj:j≤b.data.toList.length) (hJ:∀s,Pc ext 333 [.sc (.string b),iN (a + 2:Nat)] (iN j) s) (h1:a + 2≤j) (h : 32 < j - (a + 2)):B2 ext b a p lv (.error (a + 2,3)):=by
 intro s f q hq f0 f1 f2 f3 f8 f9;rw [bS] at hq;injection hq with hq;subst hq;have g0:(decide (32 < j - (a + 2)))=true:=decide_eq_true h;unfold rR m9 VC;have n0:a + 2≤j:=om;exact qx f0 f1 f2 f3 f8 f9 @aY @aG @aF @aE @aI @aq @ax @aA @az @aP @aM g0 n0 hJ tv tv
theorem Qr (hb:b.data.toList.length < 1000000000) {a p lv:Nat}{j:Nat} (hj:j≤b.data.toList.length) (hJ:∀s,Pc ext 333 [.sc (.string b),iN (a + 2:Nat)] (iN j) s) (h1:a + 2≤j) (h:j - (a + 2)≤32) (h2:j=b.data.toList.length):B2 ext b a p lv (.error (a,7)):=by
 intro s f q hq f0 f1 f2 f3 f8 f9;rw [bS] at hq;injection hq with hq;subst hq;have g0:(decide (32 < j - (a + 2)))=false:=df;have g1:(j == b.data.toList.length)=true:=by rw [h2]; exact beq_self_eq_true _
 unfold rR m9 VC;cases c1:a + 2 == b.data.toList.length with
 | false=>
  have c1p:=aj c1;have n0:a + 2≤j:=om;exact qx f0 f1 f2 f3 f8 f9 @aY @aG @aF @aE @aI @aq @ax @aA @az @aP @aM g0 g1 c1 n0 hJ
 | true=>
  have c1p:=eq_of_beq c1;have n0:a + 2≤j:=om;exact qx f0 f1 f2 f3 f8 f9 @aY @aG @aF @aE @aI @aq @ax @aA @az @aP @aM g0 g1 c1 n0 hJ
theorem NC (hb:b.data.toList.length < 1000000000) {a p lv:Nat}{j:Nat} (hj:j≤b.data.toList.length) (hJ:∀s,Pc ext 333 [.sc (.string b),iN (a + 2:Nat)] (iN j) s) (h1:j=a + 2) (h2:a + 2 < b.data.toList.length):B2 ext b a p lv (.error (a + 2,6)):=by
 intro s f q hq f0 f1 f2 f3 f8 f9;rw [bS] at hq;injection hq with hq;subst hq;have g0:(decide (32 < j - (a + 2)))=false:=df;have g1:(a + 2 == b.data.toList.length)=false:=bf;have g2:(j == b.data.toList.length)=false:=bf;have g3:(j == a + 2)=true:=by rw [h1]; exact beq_self_eq_true _
 unfold rR m9 VC;have n0:a + 2≤j:=om;exact AK f0 f1 f2 f3 f8 f9 @aY @aG @aF @aE @aI @aq @ax @aA @az @aP @aM g0 g1 g2 g3 n0 hJ tv tv tv
theorem Jz (hb:b.data.toList.length < 1000000000) {a p lv:Nat}{j:Nat} (hj:j≤b.data.toList.length) (hJ:∀s,Pc ext 333 [.sc (.string b),iN (a + 2:Nat)] (iN j) s) (h:j - (a + 2)≤32) (h2:j < b.data.toList.length) (h3:a + 2 < j) (h4:bt b.data.toList j=125):B2 ext b a p lv (.ok ([sR (sub b.data.toList (a + 2) j)],j + 1)):=by
 intro s f q hq f0 f1 f2 f3 f8 f9;rw [bS] at hq;injection hq with hq;subst hq;have g0:(decide (32 < j - (a + 2)))=false:=df;have g1:(a + 2 == b.data.toList.length)=false:=bf;have g2:(j == b.data.toList.length)=false:=bf;have g3:(j == a + 2)=false:=bf;have g4:(bt b.data.toList j == 125)=true:=by rw [h4]; rfl
 unfold rR m9 VC;have n0:a + 2≤j:=om;have n1:j≤b.data.toList.length:=om;have n2:j < b.data.toList.length:=om;exact AK f0 f1 f2 f3 f8 f9 @aY @aG @aF @aE @aI @aq @ax @aA @az @aP @aM g0 g1 g2 g3 g4 n0 n1 n2 hJ
theorem I0 (hb:b.data.toList.length < 1000000000) {a p lv:Nat}{j:Nat} (hj:j≤b.data.toList.length) (hJ:∀s,Pc ext 333 [.sc (.string b),iN (a + 2:Nat)] (iN j) s) (h:j - (a + 2)≤32) (h2:j < b.data.toList.length) (h3:a + 2 < j) {o:Int}{cb:Bool}{k:Nat} (hO:∀s,Pc ext 334 [.sc (.string b),iN j] (.tup [.sc (.int .i64 o),.sc (.bool cb),iN k]) s) (h4:bt b.data.toList j≠125) (h5:o=0) (h6:bt b.data.toList j=58) (h7:j + 1=b.data.toList.length):B2 ext b a p lv (.error (a,7)):=by
 intro s f q hq f0 f1 f2 f3 f8 f9;rw [bS] at hq;injection hq with hq;subst hq;have g0:(decide (32 < j - (a + 2)))=false:=df;have g1:(a + 2 == b.data.toList.length)=false:=bf;have g2:(j == b.data.toList.length)=false:=bf;have g3:(j == a + 2)=false:=bf;have g4:(bt b.data.toList j == 125)=false:=beq_eq_false_iff_ne.2 (h4);have g5:(o == 0)=true:=by rw [h5]; rfl
 have g6:(bt b.data.toList j == 58)=true:=by rw [h6]; rfl
 have g7:(j + 1 == b.data.toList.length)=true:=by rw [h7]; exact beq_self_eq_true _
 unfold rR m9 VC;have n0:a + 2≤j:=om;have n1:j≤b.data.toList.length:=om;have n2:j < b.data.toList.length:=om;exact HN f0 f1 f2 f3 f8 f9 @aY @aG @aF @aE @aI @aq @ax @aA @az @aP @aM g0 g1 g2 g3 g4 g5 g6 g7 n0 n1 n2 hJ hO tv tv
theorem Lm (hb:b.data.toList.length < 1000000000) {a p lv:Nat}{j:Nat} (hj:j≤b.data.toList.length) (hJ:∀s,Pc ext 333 [.sc (.string b),iN (a + 2:Nat)] (iN j) s) (h:j - (a + 2)≤32) (h2:j < b.data.toList.length) (h3:a + 2 < j) {o:Int}{cb:Bool}{k:Nat} (hO:∀s,Pc ext 334 [.sc (.string b),iN j] (.tup [.sc (.int .i64 o),.sc (.bool cb),iN k]) s) (h4:bt b.data.toList j≠125) (h5:o=0) (h6:bt b.data.toList j=58) (h7:j + 1 < b.data.toList.length):B2 ext b a p lv (.error (j + 1,6)):=by
 intro s f q hq f0 f1 f2 f3 f8 f9;rw [bS] at hq;injection hq with hq;subst hq;have g0:(decide (32 < j - (a + 2)))=false:=df;have g1:(a + 2 == b.data.toList.length)=false:=bf;have g2:(j == b.data.toList.length)=false:=bf;have g3:(j == a + 2)=false:=bf;have g4:(bt b.data.toList j == 125)=false:=beq_eq_false_iff_ne.2 (h4);have g5:(o == 0)=true:=by rw [h5]; rfl
 have g6:(bt b.data.toList j == 58)=true:=by rw [h6]; rfl
 have g7:(j + 1 == b.data.toList.length)=false:=bf;unfold rR m9 VC;have n0:a + 2≤j:=om;have n1:j≤b.data.toList.length:=om;have n2:j < b.data.toList.length:=om;exact HN f0 f1 f2 f3 f8 f9 @aY @aG @aF @aE @aI @aq @ax @aA @az @aP @aM g0 g1 g2 g3 g4 g5 g6 g7 n0 n1 n2 hJ hO tv tv
theorem Lj (hb:b.data.toList.length < 1000000000) {a p lv:Nat}{j:Nat} (hj:j≤b.data.toList.length) (hJ:∀s,Pc ext 333 [.sc (.string b),iN (a + 2:Nat)] (iN j) s) (h:j - (a + 2)≤32) (h2:j < b.data.toList.length) (h3:a + 2 < j) {o:Int}{cb:Bool}{k:Nat} (hO:∀s,Pc ext 334 [.sc (.string b),iN j] (.tup [.sc (.int .i64 o),.sc (.bool cb),iN k]) s) (h4:bt b.data.toList j≠125) (h5:o=0) (h6:bt b.data.toList j≠58) (h7:bt b.data.toList (a + 2)=35) {i:Nat} (hI:∀s,Pc ext 333 [.sc (.string b),iN (a + 2 + 1:Nat)] (iN i) s):B2 ext b a p lv (.error (i,6)):=by
 intro s f q hq f0 f1 f2 f3 f8 f9;rw [bS] at hq;injection hq with hq;subst hq;have g0:(decide (32 < j - (a + 2)))=false:=df;have g1:(a + 2 == b.data.toList.length)=false:=bf;have g2:(j == b.data.toList.length)=false:=bf;have g3:(j == a + 2)=false:=bf;have g4:(bt b.data.toList j == 125)=false:=beq_eq_false_iff_ne.2 (h4);have g5:(o == 0)=true:=by rw [h5]; rfl
 have g6:(bt b.data.toList j == 58)=false:=beq_eq_false_iff_ne.2 (h6);have g7:(bt b.data.toList (a + 2) == 35)=true:=by rw [h7]; rfl
 unfold rR m9 VC;have n0:a + 2≤j:=om;have n1:j≤b.data.toList.length:=om;have n2:j < b.data.toList.length:=om;have n3:a + 2 < b.data.toList.length:=om;exact HN f0 f1 f2 f3 f8 f9 @aY @aG @aF @aE @aI @aq @ax @aA @az @aP @aM g0 g1 g2 g3 g4 g5 g6 g7 n0 n1 n2 n3 hJ hO hI
theorem QP (hb:b.data.toList.length < 1000000000) {a p lv:Nat}{j:Nat} (hj:j≤b.data.toList.length) (hJ:∀s,Pc ext 333 [.sc (.string b),iN (a + 2:Nat)] (iN j) s) (h:j - (a + 2)≤32) (h2:j < b.data.toList.length) (h3:a + 2 < j) {o:Int}{cb:Bool}{k:Nat} (hO:∀s,Pc ext 334 [.sc (.string b),iN j] (.tup [.sc (.int .i64 o),.sc (.bool cb),iN k]) s) (h4:bt b.data.toList j≠125) (h5:o=0) (h6:bt b.data.toList j≠58) (h7:bt b.data.toList (a + 2)≠35):B2 ext b a p lv (.error (j,6)):=by
 intro s f q hq f0 f1 f2 f3 f8 f9;rw [bS] at hq;injection hq with hq;subst hq;have g0:(decide (32 < j - (a + 2)))=false:=df;have g1:(a + 2 == b.data.toList.length)=false:=bf;have g2:(j == b.data.toList.length)=false:=bf;have g3:(j == a + 2)=false:=bf;have g4:(bt b.data.toList j == 125)=false:=beq_eq_false_iff_ne.2 (h4);have g5:(o == 0)=true:=by rw [h5]; rfl
 have g6:(bt b.data.toList j == 58)=false:=beq_eq_false_iff_ne.2 (h6);have g7:(bt b.data.toList (a + 2) == 35)=false:=beq_eq_false_iff_ne.2 (h7);unfold rR m9 VC;have n0:a + 2≤j:=om;have n1:j≤b.data.toList.length:=om;have n2:j < b.data.toList.length:=om;have n3:a + 2 < b.data.toList.length:=om;exact HN f0 f1 f2 f3 f8 f9 @aY @aG @aF @aE @aI @aq @ax @aA @az @aP @aM g0 g1 g2 g3 g4 g5 g6 g7 n0 n1 n2 n3 hJ hO tv
theorem Pn (hb:b.data.toList.length < 1000000000) {a p lv:Nat}{j:Nat} (hj:j≤b.data.toList.length) (hJ:∀s,Pc ext 333 [.sc (.string b),iN (a + 2:Nat)] (iN j) s) (h:j - (a + 2)≤32) (h2:j < b.data.toList.length) (h3:a + 2 < j) {o:Int}{cb:Bool}{k:Nat} (hO:∀s,Pc ext 334 [.sc (.string b),iN j] (.tup [.sc (.int .i64 o),.sc (.bool cb),iN k]) s) (h4:bt b.data.toList j≠125) (h5:o≠0) (h6 : 32≤lv):B2 ext b a p lv (.error (j,5)):=by
 intro s f q hq f0 f1 f2 f3 f8 f9;rw [bS] at hq;injection hq with hq;subst hq;have g0:(decide (32 < j - (a + 2)))=false:=df;have g1:(a + 2 == b.data.toList.length)=false:=bf;have g2:(j == b.data.toList.length)=false:=bf;have g3:(j == a + 2)=false:=bf;have g4:(bt b.data.toList j == 125)=false:=beq_eq_false_iff_ne.2 (h4);have g5:(o == 0)=false:=beq_eq_false_iff_ne.2 h5;have g6:(decide (32≤lv))=true:=decide_eq_true h6;unfold rR m9 VC;have n0:a + 2≤j:=om;have n1:j≤b.data.toList.length:=om;have n2:j < b.data.toList.length:=om;exact HN f0 f1 f2 f3 f8 f9 @aY @aG @aF @aE @aI @aq @ax @aA @az @aP @aM g0 g1 g2 g3 g4 g5 g6 n0 n1 n2 hJ hO tv tv tv
theorem OJ (hb:b.data.toList.length < 1000000000) {a p lv:Nat}{j:Nat} (hj:j≤b.data.toList.length) (hJ:∀s,Pc ext 333 [.sc (.string b),iN (a + 2:Nat)] (iN j) s) (h:j - (a + 2)≤32) (h2:j < b.data.toList.length) (h3:a + 2 < j) {o:Int}{cb:Bool}{k:Nat} (hO:∀s,Pc ext 334 [.sc (.string b),iN j] (.tup [.sc (.int .i64 o),.sc (.bool cb),iN k]) s) (h4:bt b.data.toList j≠125) (h5:o≠0) (h6:lv < 32) (hk:j + k≤b.data.toList.length) (h7:cX b.data.toList (j + k)=true):B2 ext b a p lv (.error (j + k,6)):=by
 intro s f q hq f0 f1 f2 f3 f8 f9;rw [bS] at hq;injection hq with hq;subst hq;have hB:=hb
 replace hb:b.data.toList.length < 4611686018427387904:=om
 have g0:(decide (32 < j - (a + 2)))=false:=df;have g1:(a + 2 == b.data.toList.length)=false:=bf;have g2:(j == b.data.toList.length)=false:=bf;have g3:(j == a + 2)=false:=bf;have g4:(bt b.data.toList j == 125)=false:=beq_eq_false_iff_ne.2 (h4);have g5:(o == 0)=false:=beq_eq_false_iff_ne.2 h5;have g6:(decide (32≤lv))=false:=df;have g7:(cX b.data.toList (j + k))=true:=h7;unfold rR m9 VC;have n0:a + 2≤j:=om;have n1:j≤b.data.toList.length:=om;have n2:j < b.data.toList.length:=om;have n3:j + k≤b.data.toList.length:=om;have u2:=fun s=>gR (ext:=ext) hb (i:=j + k) om s;exact HN f0 f1 f2 f3 f8 f9 @aY @aG @aF @aE @aI @aq @ax @aA @az @aP @aM g0 g1 g2 g3 g4 g5 g6 g7 n0 n1 n2 n3 hJ hO u2
theorem SA (hb:b.data.toList.length < 1000000000) {a p lv:Nat}{j:Nat} (hj:j≤b.data.toList.length) (hJ:∀s,Pc ext 333 [.sc (.string b),iN (a + 2:Nat)] (iN j) s) (h:j - (a + 2)≤32) (h2:j < b.data.toList.length) (h3:a + 2 < j) {o:Int}{cb:Bool}{k:Nat} (hO:∀s,Pc ext 334 [.sc (.string b),iN j] (.tup [.sc (.int .i64 o),.sc (.bool cb),iN k]) s) (h4:bt b.data.toList j≠125) (h5:o≠0) (h6:lv < 32) (hp:p≤6) (hk:j + k≤b.data.toList.length) (h7:cX b.data.toList (j + k)=false) {x e:Nat} (he:e≠0) (hC:∀s,Pc ext 264 [.sc (.string b),iN (j + k:Nat),iN (eB p),iN (lv + 1:Nat),iN a] (.agg [.sc (.slice none 0 0),iN x,iN e]) s):B2 ext b a p lv (.error (x,e)):=by
 intro s f q hq f0 f1 f2 f3 f8 f9;rw [bS] at hq;injection hq with hq;subst hq;have hB:=hb
 replace hb:b.data.toList.length < 4611686018427387904:=om
 have nq0:(s.n=s.n + 1 + 1)=False:=eq_false om;have nq1:(s.n + 1 + 1=s.n)=False:=eq_false om;have nq2:(s.n + 1=s.n + 1 + 1)=False:=eq_false om;have nq3:(s.n + 1 + 1=s.n + 1)=False:=eq_false om;have nq4:(s.n + 1=s.n)=False:=eq_false om;have nq5:(s.n=s.n + 1)=False:=eq_false om;have g0:(decide (32 < j - (a + 2)))=false:=df;have g1:(a + 2 == b.data.toList.length)=false:=bf;have g2:(j == b.data.toList.length)=false:=bf;have g3:(j == a + 2)=false:=bf;have g4:(bt b.data.toList j == 125)=false:=beq_eq_false_iff_ne.2 (h4);have g5:(o == 0)=false:=beq_eq_false_iff_ne.2 h5;have g6:(decide (32≤lv))=false:=df;have g7:(cX b.data.toList (j + k))=false:=h7;have g8:(e == 0)=false:=beq_eq_false_iff_ne.2 he;unfold rR m9 VC;have n0:a + 2≤j:=om;have n1:j≤b.data.toList.length:=om;have n2:j < b.data.toList.length:=om;have n3:j + k≤b.data.toList.length:=om;have u2:=fun s=>gR (ext:=ext) hb (i:=j + k) om s;have u3:=fun s=>s5 (ext:=ext) hp s;simp -implicitDefEqProofs (disch:=omega) only [ZS,seval,ZX,f0,f1,f2,f3,f8,f9,aY,aG,aF,aE,aI,aq,ax,aA,az,aP,aM,nq0,nq1,nq2,nq3,nq4,nq5,g0,g1,g2,g3,g4,g5,g6,g7,g8,n0,n1,n2,n3,hJ,hO,u2,u3,hC]
 all_goals first | exact⟨_,_,_,rfl,rfl,Nat.le_refl _,rfl⟩ | exact⟨_,_,_,rfl,rfl,Nat.le_refl _,bP (bu _ _ _)⟩
theorem U8 (hb:b.data.toList.length < 1000000000) {a p lv:Nat}{j:Nat} (hj:j≤b.data.toList.length) (hJ:∀s,Pc ext 333 [.sc (.string b),iN (a + 2:Nat)] (iN j) s) (h:j - (a + 2)≤32) (h2:j < b.data.toList.length) (h3:a + 2 < j) {o:Int}{cb:Bool}{k:Nat} (hO:∀s,Pc ext 334 [.sc (.string b),iN j] (.tup [.sc (.int .i64 o),.sc (.bool cb),iN k]) s) (h4:bt b.data.toList j≠125) (h5:o≠0) (h6:lv < 32) (hp:p≤6) (hk:j + k≤b.data.toList.length) (h7:cX b.data.toList (j + k)=false) {ps:List aS}{i:Nat} (hi:i < b.data.toList.length) (hC:∀s,Pc ext 264 [.sc (.string b),iN (j + k:Nat),iN (eB p),iN (lv + 1:Nat),iN a] (.agg [dl ps,iN i,.sc (.int .i64 0)]) s):B2 ext b a p lv (.ok ([.mk 4 (sub b.data.toList (a + 2) j) o cb ps],i + 1)):=by
 intro s f q hq f0 f1 f2 f3 f8 f9;rw [bS] at hq;injection hq with hq;subst hq;have hB:=hb
 replace hb:b.data.toList.length < 4611686018427387904:=om
 have nq0:(s.n=s.n + 1 + 1)=False:=eq_false om;have nq1:(s.n + 1 + 1=s.n)=False:=eq_false om;have nq2:(s.n + 1=s.n + 1 + 1)=False:=eq_false om;have nq3:(s.n + 1 + 1=s.n + 1)=False:=eq_false om;have nq4:(s.n + 1=s.n)=False:=eq_false om;have nq5:(s.n=s.n + 1)=False:=eq_false om;have g0:(decide (32 < j - (a + 2)))=false:=df;have g1:(a + 2 == b.data.toList.length)=false:=bf;have g2:(j == b.data.toList.length)=false:=bf;have g3:(j == a + 2)=false:=bf;have g4:(bt b.data.toList j == 125)=false:=beq_eq_false_iff_ne.2 (h4);have g5:(o == 0)=false:=beq_eq_false_iff_ne.2 h5;have g6:(decide (32≤lv))=false:=df;have g7:(cX b.data.toList (j + k))=false:=h7;unfold rR m9 VC;have n0:a + 2≤j:=om;have n1:j≤b.data.toList.length:=om;have n2:j < b.data.toList.length:=om;have n3:j + k≤b.data.toList.length:=om;have u2:=fun s=>gR (ext:=ext) hb (i:=j + k) om s;have u3:=fun s=>s5 (ext:=ext) hp s;simp -implicitDefEqProofs (disch:=first | omega | (unfold cZ cd; simp<;>omega)) only [ZS,seval,ZT,ZX,f0,f1,f2,f3,f8,f9,aY,aG,aF,aE,aI,aq,ax,aA,az,aP,aM,nq0,nq1,nq2,nq3,nq4,nq5,g0,g1,g2,g3,g4,g5,g6,g7,n0,n1,n2,n3,hJ,hO,u2,u3,hC]
 all_goals first | exact⟨_,_,_,rfl,rfl,Nat.le_refl _,rfl⟩ | exact⟨_,_,_,rfl,rfl,Nat.le_refl _,bP (bu _ _ _)⟩
theorem DC:Γ 326=some ⟨196,(sr [ob 8 (.alloc 275 (.agg #[(.slice none 0 0),(.int .i64 0),(.int .i64 0)]))]
 (sr [mt 17 1,ob 18 (bi .add 17 2),mt 9 18]
 (.seq (tO [mt 19 9,mt 20 0,ob 21 (.len true (tp 20)),ob 22 (bn .lss 3 19 21),mt 23 22,gt 23 true 24 0,gt 23 true 25 9,og 23 true 26 (.sidx (tp 24) (tp 25)),og 23 true 27 (bc .eql 26 35),ob 28 (pk 23 27)] 28
 (sr [mt 29 0,mt 30 9,ob 31 (bi .add 30 1),ob 32 (cl 333 [(tp 29),(tp 31)]),mt 10 32]
 (.seq (tO [mt 33 10,mt 34 9,ob 35 (bn .sub 3 33 34),ob 36 (bi .sub 35 1),ob 37 (bi .gtr 36 32)] 37
 (sr [mt 38 9,ob 39 (bi .add 38 1),ob 40 (cl 278 [(tp 39),(ki 3)]),o0 (.store 275 3 (tp 8) (tp 40))]
 .ret)
 .skip)
 (.seq (tO [mt 41 10,mt 42 9,ob 43 (bi .add 42 1),ob 44 (bn .gtr 3 41 43),mt 45 44,gt 45 true 46 10,gt 45 true 47 0,og 45 true 48 (.len true (tp 47)),og 45 true 49 (bn .lss 3 46 48),ob 50 (pk 45 49),mt 51 50,gt 51 true 52 0,gt 51 true 53 10,og 51 true 54 (.sidx (tp 52) (tp 53)),og 51 true 55 (bc .eql 54 125),ob 56 (pk 51 55)] 56
 (sr [mt 57 0,mt 58 9,ob 59 (bi .add 58 1),mt 60 10,ob 61 (.sslc (tp 57) (some (tp 59)) (some (tp 60))),ob 62 (.build [(.int .i64 0),(.string ⟨#[]⟩),(.int .i64 0),(.bool false),(.slice none 0 0)] [(0,1,(ki 4)),(1,1,(tp 61)),(2,1,(ki 5))]),mt 63 10,ob 64 (bi .add 63 1),ob 65 (cl 303 [(tp 62),(tp 64)]),o0 (.store 275 3 (tp 8) (tp 65))]
 .ret)
 .skip)
 (tO [mt 66 10,mt 67 9,ob 68 (bi .add 67 1),ob 69 (bn .gtr 3 66 68),mt 70 69,gt 70 true 71 10,gt 70 true 72 0,og 70 true 73 (.len true (tp 72)),og 70 true 74 (bn .eql 3 71 73),ob 75 (pk 70 74)] 75
 (sr [mt 76 1,ob 77 (cl 278 [(tp 76),(ki 7)]),o0 (.store 275 3 (tp 8) (tp 77))]
 .ret)
 .skip))))
 .skip)
 rR))),[.cell 8 true 3],false⟩:=(rfl)
theorem Mh (hb:b.data.toList.length < 1000000000) {a p lv:Nat} (h0:a + 2≤b.data.toList.length) (hl:a + 2 < b.data.toList.length) (h:bt b.data.toList (a + 2)=35) {j:Nat} (hj:j≤b.data.toList.length) (hj0:a + 3≤j) (hJ:∀s,Pc ext 333 [.sc (.string b),iN (a + 2 + 1:Nat)] (iN j) s) (h2 : 32 < j - (a + 2) - 1) (s:PS):Pc ext 326 [.sc (.string b),iN a,iN p,iN lv] (bS (.error (a + 2 + 1,3))) s:=by
 have g0:(decide (a + 2 < b.data.toList.length))=true:=decide_eq_true hl;have g1:(bt b.data.toList (a + 2) == 35)=true:=by rw [h]; rfl
 have g2:(decide (32 < j - (a + 2) - 1))=true:=decide_eq_true h2;refine gD s.n (r:=8) (m:=3) DC (by simp) (by rfl) (by rfl) ?_;have n0:a + 2 < b.data.toList.length:=om;have n1:a + 2≤j:=om;have n2 : 1≤j - (a + 2):=om;exact ug @aY @aG @aF @aE @aI @aq @ax @aA @az @aP @aM g0 g1 g2 n0 n1 n2 hJ tv
theorem SJ (hb:b.data.toList.length < 1000000000) {a p lv:Nat} (h0:a + 2≤b.data.toList.length) (hl:a + 2 < b.data.toList.length) (h:bt b.data.toList (a + 2)=35) {j:Nat} (hj:j≤b.data.toList.length) (hj0:a + 3≤j) (hJ:∀s,Pc ext 333 [.sc (.string b),iN (a + 2 + 1:Nat)] (iN j) s) (h2:j - (a + 2) - 1≤32) (h3:a + 2 + 1 < j) (h4:j < b.data.toList.length) (h5:bt b.data.toList j=125) (s:PS):Pc ext 326 [.sc (.string b),iN a,iN p,iN lv] (bS (.ok ([.mk 4 (sub b.data.toList (a + 2 + 1) j) 5 false []],j + 1))) s:=by
 have g0:(decide (a + 2 < b.data.toList.length))=true:=decide_eq_true hl;have g1:(bt b.data.toList (a + 2) == 35)=true:=by rw [h]; rfl
 have g2:(decide (32 < j - (a + 2) - 1))=false:=df;have g3:(decide (a + 2 + 1 < j))=true:=decide_eq_true h3;have g4:(decide (j < b.data.toList.length))=true:=decide_eq_true h4;have g5:(bt b.data.toList j == 125)=true:=by rw [h5]; rfl
 refine gD s.n (r:=8) (m:=3) DC (by simp) (by rfl) (by rfl) ?_;have n0:a + 2 < b.data.toList.length:=om;have n1:a + 2≤j:=om;have n2 : 1≤j - (a + 2):=om;have n3:j < b.data.toList.length:=om;have n4:a + 2 + 1≤j:=om;have n5:j≤b.data.toList.length:=om;exact AK @aY @aG @aF @aE @aI @aq @ax @aA @az @aP @aM g0 g1 g2 g3 g4 g5 n0 n1 n2 n3 n4 n5 hJ tv tv
theorem S9 (hb:b.data.toList.length < 1000000000) {a p lv:Nat} (h0:a + 2≤b.data.toList.length) (hl:a + 2 < b.data.toList.length) (h:bt b.data.toList (a + 2)=35) {j:Nat} (hj:j≤b.data.toList.length) (hj0:a + 3≤j) (hJ:∀s,Pc ext 333 [.sc (.string b),iN (a + 2 + 1:Nat)] (iN j) s) (h2:j - (a + 2) - 1≤32) (h3:a + 2 + 1 < j) (h4:j=b.data.toList.length) (s:PS):Pc ext 326 [.sc (.string b),iN a,iN p,iN lv] (bS (.error (a,7))) s:=by
 have g0:(decide (a + 2 < b.data.toList.length))=true:=decide_eq_true hl;have g1:(bt b.data.toList (a + 2) == 35)=true:=by rw [h]; rfl
 have g2:(decide (32 < j - (a + 2) - 1))=false:=df;have g3:(decide (a + 2 + 1 < j))=true:=decide_eq_true h3;have g4:(decide (j < b.data.toList.length))=false:=df;have g5:(j == b.data.toList.length)=true:=by rw [h4]; exact beq_self_eq_true _
 refine gD s.n (r:=8) (m:=3) DC (by simp) (by rfl) (by rfl) ?_;have n0:a + 2 < b.data.toList.length:=om;have n1:a + 2≤j:=om;have n2 : 1≤j - (a + 2):=om;exact qx @aY @aG @aF @aE @aI @aq @ax @aA @az @aP @aM g0 g1 g2 g3 g4 g5 n0 n1 n2 hJ tv
theorem GP (hb:b.data.toList.length < 1000000000) {a p lv:Nat} (h0:a + 2≤b.data.toList.length) (hl:a + 2 < b.data.toList.length) (h:bt b.data.toList (a + 2)=35) {j:Nat} (hj:j≤b.data.toList.length) (hj0:a + 3≤j) (hJ:∀s,Pc ext 333 [.sc (.string b),iN (a + 2 + 1:Nat)] (iN j) s) (h2:j - (a + 2) - 1≤32) (h3:a + 2 + 1 < j) (h4:j < b.data.toList.length) (h5:bt b.data.toList j≠125) (r:R) (hB:B2 ext b a p lv r) (s:PS):Pc ext 326 [.sc (.string b),iN a,iN p,iN lv] (bS (r)) s:=by
 have g0:(decide (a + 2 < b.data.toList.length))=true:=decide_eq_true hl;have g1:(bt b.data.toList (a + 2) == 35)=true:=by rw [h]; rfl
 have g2:(decide (32 < j - (a + 2) - 1))=false:=df;have g3:(decide (a + 2 + 1 < j))=true:=decide_eq_true h3;have g4:(decide (j < b.data.toList.length))=true:=decide_eq_true h4;have g5:(bt b.data.toList j == 125)=false:=beq_eq_false_iff_ne.2 (h5);have g6:(j == b.data.toList.length)=false:=bf;obtain⟨q,hq⟩ : ∃q,bS (r)=.agg q:=by
  cases r with
  | ok x=>obtain⟨l,j⟩:=x; exact⟨_,rfl⟩
  | error x=>obtain⟨i,e⟩:=x; exact⟨_,rfl⟩
 rw [hq];refine gD s.n (r:=8) (m:=3) DC (by simp) (by rfl) (by rfl) ?_;have n0:a + 2 < b.data.toList.length:=om;have n1:a + 2≤j:=om;have n2 : 1≤j - (a + 2):=om;have n3:j < b.data.toList.length:=om;refine VB @aY @aG @aF @aE @aI @aq @ax @aA @az @aP @aM g0 g1 g2 g3 g4 g5 g6 n0 n1 n2 n3 hJ tv tv tv ?_;exact hB s _ q hq bw bw bw bw bw bw
theorem GZ (hb:b.data.toList.length < 1000000000) {a p lv:Nat} (h0:a + 2≤b.data.toList.length) (hl:a + 2 < b.data.toList.length) (h:bt b.data.toList (a + 2)=35) {j:Nat} (hj:j≤b.data.toList.length) (hj0:a + 3≤j) (hJ:∀s,Pc ext 333 [.sc (.string b),iN (a + 2 + 1:Nat)] (iN j) s) (h2:j - (a + 2) - 1≤32) (h3:¬ a + 2 + 1 < j) (r:R) (hB:B2 ext b a p lv r) (s:PS):Pc ext 326 [.sc (.string b),iN a,iN p,iN lv] (bS (r)) s:=by
 have g0:(decide (a + 2 < b.data.toList.length))=true:=decide_eq_true hl;have g1:(bt b.data.toList (a + 2) == 35)=true:=by rw [h]; rfl
 have g2:(decide (32 < j - (a + 2) - 1))=false:=df;have g3:(decide (a + 2 + 1 < j))=false:=decide_eq_false h3;obtain⟨q,hq⟩ : ∃q,bS (r)=.agg q:=by
  cases r with
  | ok x=>obtain⟨l,j⟩:=x; exact⟨_,rfl⟩
  | error x=>obtain⟨i,e⟩:=x; exact⟨_,rfl⟩
 rw [hq];refine gD s.n (r:=8) (m:=3) DC (by simp) (by rfl) (by rfl) ?_;have n0:a + 2 < b.data.toList.length:=om;have n1:a + 2≤j:=om;have n2 : 1≤j - (a + 2):=om;refine rO @aY @aG @aF @aE @aI @aq @ax @aA @az @aP @aM g0 g1 g2 g3 n0 n1 n2 hJ ?_;exact hB s _ q hq bw bw bw bw bw bw
theorem ML (hb:b.data.toList.length < 1000000000) {a p lv:Nat} (h0:a + 2≤b.data.toList.length) (hl:a + 2 < b.data.toList.length) (h:bt b.data.toList (a + 2)≠35) (r:R) (hB:B2 ext b a p lv r) (s:PS):Pc ext 326 [.sc (.string b),iN a,iN p,iN lv] (bS (r)) s:=by
 have g0:(decide (a + 2 < b.data.toList.length))=true:=decide_eq_true hl;have g1:(bt b.data.toList (a + 2) == 35)=false:=beq_eq_false_iff_ne.2 (h);obtain⟨q,hq⟩ : ∃q,bS (r)=.agg q:=by
  cases r with
  | ok x=>obtain⟨l,j⟩:=x; exact⟨_,rfl⟩
  | error x=>obtain⟨i,e⟩:=x; exact⟨_,rfl⟩
 rw [hq];refine gD s.n (r:=8) (m:=3) DC (by simp) (by rfl) (by rfl) ?_;have n0:a + 2 < b.data.toList.length:=om;refine sa @aY @aG @aF @aE @aI @aq @ax @aA @az @aP @aM g0 g1 n0 ?_;exact hB s _ q hq bw bw bw bw bw bw
theorem Mr (hb:b.data.toList.length < 1000000000) {a p lv:Nat} (h0:a + 2≤b.data.toList.length) (hl:¬ a + 2 < b.data.toList.length) (r:R) (hB:B2 ext b a p lv r) (s:PS):Pc ext 326 [.sc (.string b),iN a,iN p,iN lv] (bS (r)) s:=by
 have g0:(decide (a + 2 < b.data.toList.length))=false:=decide_eq_false hl;obtain⟨q,hq⟩ : ∃q,bS (r)=.agg q:=by
  cases r with
  | ok x=>obtain⟨l,j⟩:=x; exact⟨_,rfl⟩
  | error x=>obtain⟨i,e⟩:=x; exact⟨_,rfl⟩
 rw [hq];refine gD s.n (r:=8) (m:=3) DC (by simp) (by rfl) (by rfl) ?_;refine jU @aY @aG @aF @aE @aI @aq @ax @aA @az @aP @aM g0 ?_;exact hB s _ q hq bw bw bw bw bw bw
def yh:bj:=(.seq (tO [mt 93 14,ob 94 (.faddr 0 (tp 13)),ob 95 (.load 100 false 1 (tp 94)),ob 96 (.len false (tp 95)),ob 97 (bn .lss 3 93 96)] 97
 .skip
 (.exit 2))
 (.seq (.block 3 (tO [ob 100 (.faddr 0 (tp 13)),ob 101 (.load 100 false 1 (tp 100)),mt 102 14,ob 103 (.iaddr 5 (tp 101) (tp 102)),ob 104 (.faddr 0 (tp 103)),ob 105 (.load 3 false 1 (tp 104)),ob 106 (bi .eql 105 1)] 106
 (.reg [mt 107 11,ob 108 (.faddr 0 (tp 13)),ob 109 (.load 100 false 1 (tp 108)),mt 110 14,ob 111 (.iaddr 5 (tp 109) (tp 110)),ob 112 (.faddr 1 (tp 111)),ob 113 (.load 9 false 1 (tp 112)),ob 114 (cl 281 [(tp 107),(tp 113)]),mt 11 114])
 (.reg [mt 115 11,ob 116 (.faddr 0 (tp 13)),ob 117 (.load 100 false 1 (tp 116)),mt 118 14,ob 119 (.iaddr 5 (tp 117) (tp 118)),ob 120 (.load 155 true 5 (tp 119)),ob 121 (.bslice 155 1 [(.int .i64 0),(.string ⟨#[]⟩),(.int .i64 0),(.bool false),(.slice none 0 0)] [(0,5,(tp 120))]),ob 122 (.app 155 5 64 (tp 115) (tp 121)),mt 11 122])))
 (.reg [mt 98 14,ob 99 (bi .add 98 1),mt 14 99])))
def FH:bj:=(.reg [ob 123 (.faddr 1 (tp 13)),ob 124 (.load 3 false 1 (tp 123)),mt 1 124])
theorem C3 (f:aX) (s:PS):aT Tryz.prog Γ ext rk f s=aT Tryz.prog Γ ext yh f s:=rfl
theorem J4 (f:aX) (s:PS):aT Tryz.prog Γ ext th f s=aT Tryz.prog Γ ext FH f s:=rfl
structure PI (b:ByteArray) (a p lv fr o:Nat) (acc:List aS) (v:PV) (s0:PS) (f:aX) (s:PS):Prop where
 f0:f 0=.sc (.string b)
 f1:f 1=iN a
 f2:f 2=iN p
 f3:f 3=iN lv
 f4:f 4=iN fr
 f10:f 10=.ptr s0.n 0 3
 f11:f 11=v
 f12:f 12=iN o
 acc:jX 155 5 dV (s0.n + 1) acc v s
 cell:s.h s0.n=⟨[.sc (.slice none 0 0),.sc (.int .i64 0),.sc (.int .i64 0)],0,275⟩
 n:s0.n + 1≤s.n
 w:s0.n≤s.w
theorem uu {b0:Nat}{l:List aS}{v:PV}{s:PS} (h:jX 155 5 dV b0 l v s) {k:Nat} (hk:k < b0) (B:Eq):jX 155 5 dV b0 l v (s.put k B):=by
 rcases h with h | ⟨hl,k',k1,k2,rfl,k3⟩
 ·exact .inl h
 ·exact .inr ⟨hl,k',k1,by rw [eU]; exact k2,rfl,by rw [eZ,if_neg om]; exact k3⟩
theorem jK {b0:Nat}{l:List aS}{v:PV}{s:PS} (h:jX 155 5 dV b0 l v s):gB false v=some (.sc (.int .i64 (l.length:Int))):=by
 rcases h with ⟨rfl,rfl⟩ | ⟨_,k,_,_,rfl,_⟩<;>rfl
theorem jI {b0:Nat}{l:List aS}{v:PV}{s:PS} (h:jX 155 5 dV b0 l v s):db v=true:=by
 rcases h with ⟨rfl,rfl⟩ | ⟨_,k,_,_,rfl,_⟩<;>rfl
theorem lN {b0:Nat}{l:List aS}{v:PV}{s:PS} (h:jX 155 5 dV b0 l v s):aC v=[v]:=by
 rcases h with ⟨rfl,rfl⟩ | ⟨_,k,_,_,rfl,_⟩<;>rfl
theorem zG {b0 n0:Nat}{l:List aS}{v:PV}{s:PS} (h:jX 155 5 dV b0 l v s) (hn:n0≤b0):cM n0 s v=some (dl l):=by
 rw [FM]; exact jX.frz gU h hn fun x _=>vG x
def LC (ext:ar) (b:ByteArray) (a p lv fr o:Nat) (acc:List aS) (r:R):Prop:=∀(s0:PS) (f:aX) (s:PS) (v:PV) (q:List PV),bS r=.agg q→PI b a p lv fr o acc v s0 f s→Er (VC q 10 s0) (LP Tryz.prog Γ ext 0 eG eK f s)
theorem S8 (hb:b.data.toList.length < 1000000000) {lv fr o:Nat}{acc:List aS}  : LC ext b b.data.toList.length 0 lv fr o acc (.ok (acc,b.data.toList.length)):=by
 intro s0 f s v q hq hI;have hA:=hI.acc;have hcell:=hI.cell;have hn:=hI.n;have hw:=hI.w;obtain⟨f0,f1,f2,f3,f4,f10,f11,f12,_,_,_,_⟩:=hI;have hlen:=jK hA;have h1v:=jI hA;have hcv:=lN hA;have hm:min s.w s0.n=s0.n:=Nat.min_eq_right hw;have hm2:min (min s.w s.n) s0.n=s0.n:=Nat.min_eq_right om;have hne:(s0.n=s.n)=False:=eq_false om;have hne2:(s.n=s0.n)=False:=eq_false om;rw [bS] at hq;injection hq with hq;subst hq;have g0:(decide (b.data.toList.length < b.data.toList.length))=false:=df;refine ad fun L hL=>?_;unfold VC;refine P3 @eG.eq_1 @eK.eq_1 f0 f1 f2 f3 f4 f10 f11 f12 @aY @aG @aF @aE @aI @aq @ax @aA @az hlen h1v hcv hcell hm hm2 hne hne2 g0 tv tv tv tv ?_;exact⟨_,_,_,rfl,rfl,Nat.le_refl _,bP (zG (uu hA om _) om)⟩
theorem Rk (hb:b.data.toList.length < 1000000000) {lv fr o:Nat}{acc:List aS}  : LC ext b b.data.toList.length 5 lv fr o acc (.ok (acc,b.data.toList.length)):=by
 intro s0 f s v q hq hI;have hA:=hI.acc;have hcell:=hI.cell;have hn:=hI.n;have hw:=hI.w;obtain⟨f0,f1,f2,f3,f4,f10,f11,f12,_,_,_,_⟩:=hI;have hlen:=jK hA;have h1v:=jI hA;have hcv:=lN hA;have hm:min s.w s0.n=s0.n:=Nat.min_eq_right hw;have hm2:min (min s.w s.n) s0.n=s0.n:=Nat.min_eq_right om;have hne:(s0.n=s.n)=False:=eq_false om;have hne2:(s.n=s0.n)=False:=eq_false om;rw [bS] at hq;injection hq with hq;subst hq;have g0:(decide (b.data.toList.length < b.data.toList.length))=false:=df;refine ad fun L hL=>?_;unfold VC;refine P3 @eG.eq_1 @eK.eq_1 f0 f1 f2 f3 f4 f10 f11 f12 @aY @aG @aF @aE @aI @aq @ax @aA @az hlen h1v hcv hcell hm hm2 hne hne2 g0 tv tv tv tv ?_;exact⟨_,_,_,rfl,rfl,Nat.le_refl _,bP (zG (uu hA om _) om)⟩
theorem l_open (hb:b.data.toList.length < 1000000000) {p lv fr o:Nat}{acc:List aS} (h:p≠0) (h2:p≠5):LC ext b b.data.toList.length p lv fr o acc (.error (fr,7)):=by
 intro s0 f s v q hq hI;have hA:=hI.acc;have hcell:=hI.cell;have hn:=hI.n;have hw:=hI.w;obtain⟨f0,f1,f2,f3,f4,f10,f11,f12,_,_,_,_⟩:=hI;have hlen:=jK hA;have h1v:=jI hA;have hcv:=lN hA;have hm:min s.w s0.n=s0.n:=Nat.min_eq_right hw;have hm2:min (min s.w s.n) s0.n=s0.n:=Nat.min_eq_right om;have hne:(s0.n=s.n)=False:=eq_false om;have hne2:(s.n=s0.n)=False:=eq_false om;rw [bS] at hq;injection hq with hq;subst hq;have g0:(decide (b.data.toList.length < b.data.toList.length))=false:=df;have g1:(p == 0)=false:=beq_eq_false_iff_ne.2 h;have g2:(p == 5)=false:=beq_eq_false_iff_ne.2 h2;refine ad fun L hL=>?_;unfold VC;refine P3 @eG.eq_1 @eK.eq_1 f0 f1 f2 f3 f4 f10 f11 f12 @aY @aG @aF @aE @aI @aq @ax @aA @az hlen h1v hcv hcell hm hm2 hne hne2 g0 g1 g2 tv tv ?_;exact⟨_,_,_,rfl,rfl,Nat.le_refl _,rfl⟩
theorem l_q (hb:b.data.toList.length < 1000000000) {a p lv fr o:Nat}{acc:List aS} (hp:p≤6) (hl:a < b.data.toList.length) (h:fy (bt b.data.toList a) p o=true) (h2:p≠4):LC ext b a p lv fr o acc (.ok (acc,a)):=by
 intro s0 f s v q hq hI;have hA:=hI.acc;have hcell:=hI.cell;have hn:=hI.n;have hw:=hI.w;obtain⟨f0,f1,f2,f3,f4,f10,f11,f12,_,_,_,_⟩:=hI;have hlen:=jK hA;have h1v:=jI hA;have hcv:=lN hA;have hm:min s.w s0.n=s0.n:=Nat.min_eq_right hw;have hm2:min (min s.w s.n) s0.n=s0.n:=Nat.min_eq_right om;have hne:(s0.n=s.n)=False:=eq_false om;have hne2:(s.n=s0.n)=False:=eq_false om;rw [bS] at hq;injection hq with hq;subst hq;have hE:=fun s=>qV (ext:=ext) (b:=b) (i:=a) (o:=o) hp hl s;have g0:(decide (a < b.data.toList.length))=true:=decide_eq_true hl;have g1:(fy (bt b.data.toList a) p o)=true:=h;have g2:(p == 4)=false:=beq_eq_false_iff_ne.2 h2;refine ad fun L hL=>?_;unfold VC;refine P3 @eG.eq_1 @eK.eq_1 f0 f1 f2 f3 f4 f10 f11 f12 @aY @aG @aF @aE @aI @aq @ax @aA @az hlen h1v hcv hcell hm hm2 hne hne2 hE g0 g1 g2 tv ?_;exact⟨_,_,_,rfl,rfl,Nat.le_refl _,bP (zG (uu hA om _) om)⟩
theorem l_a0 (hb:b.data.toList.length < 1000000000) {a lv fr o:Nat}{acc:List aS} (h:fy (bt b.data.toList a) 4 o=true) (h2:a + 1=b.data.toList.length):LC ext b a 4 lv fr o acc (.error (fr,7)):=by
 intro s0 f s v q hq hI;have hA:=hI.acc;have hcell:=hI.cell;have hn:=hI.n;have hw:=hI.w;obtain⟨f0,f1,f2,f3,f4,f10,f11,f12,_,_,_,_⟩:=hI;have hlen:=jK hA;have h1v:=jI hA;have hcv:=lN hA;have hm:min s.w s0.n=s0.n:=Nat.min_eq_right hw;have hm2:min (min s.w s.n) s0.n=s0.n:=Nat.min_eq_right om;have hne:(s0.n=s.n)=False:=eq_false om;have hne2:(s.n=s0.n)=False:=eq_false om;rw [bS] at hq;injection hq with hq;subst hq;have hp : 4≤6:=om;have hl:a < b.data.toList.length:=om;have hE:=fun s=>qV (ext:=ext) (b:=b) (i:=a) (o:=o) hp hl s;have g0:(decide (a < b.data.toList.length))=true:=decide_eq_true hl;have g1:(fy (bt b.data.toList a) 4 o)=true:=h;have g2:(a + 1 == b.data.toList.length)=true:=by rw [h2]; exact beq_self_eq_true _
 refine ad fun L hL=>?_;unfold VC;simp -implicitDefEqProofs (disch:=omega) only [ZA,Nat.reduceAdd,Nat.reduceEqDiff,↓reduceIte,Nat.reduceLeDiff,reduceCtorEq,Nat.reduceBEq,Nat.reduceLT,bE,cg,cI,aW,cP,b9,cV,bz,frz,cT,cM,er,eG,eK,f0,f1,f2,f3,f4,f10,f11,f12,fV,aY,List.all_cons,List.all_nil,Bool.and_self,aG,aF,aE,aI,List.drop_nil,List.take_nil,aq,ax,js,i6,aA,az,hlen,h1v,hcv,hcell,hm,hm2,hne,hne2,hE,g0,g1,g2];exact⟨_,_,_,rfl,rfl,Nat.le_refl _,rfl⟩
theorem l_a (hb:b.data.toList.length < 1000000000) {a lv fr o:Nat}{acc:List aS} (h:fy (bt b.data.toList a) 4 o=true) (h2:a + 1 < b.data.toList.length) (h3:bt b.data.toList (a + 1)=41):LC ext b a 4 lv fr o acc (.ok (acc,a)):=by
 intro s0 f s v q hq hI;have hA:=hI.acc;have hcell:=hI.cell;have hn:=hI.n;have hw:=hI.w;obtain⟨f0,f1,f2,f3,f4,f10,f11,f12,_,_,_,_⟩:=hI;have hlen:=jK hA;have h1v:=jI hA;have hcv:=lN hA;have hm:min s.w s0.n=s0.n:=Nat.min_eq_right hw;have hm2:min (min s.w s.n) s0.n=s0.n:=Nat.min_eq_right om;have hne:(s0.n=s.n)=False:=eq_false om;have hne2:(s.n=s0.n)=False:=eq_false om;rw [bS] at hq;injection hq with hq;subst hq;have hp : 4≤6:=om;have hl:a < b.data.toList.length:=om;have hE:=fun s=>qV (ext:=ext) (b:=b) (i:=a) (o:=o) hp hl s;have g0:(decide (a < b.data.toList.length))=true:=decide_eq_true hl;have g1:(fy (bt b.data.toList a) 4 o)=true:=h;have g2:(a + 1 == b.data.toList.length)=false:=bf;have g3:(bt b.data.toList (a + 1) == 41)=true:=by rw [h3]; rfl
 refine ad fun L hL=>?_;unfold VC;simp -implicitDefEqProofs (disch:=omega) only [ZA,Nat.reduceAdd,Nat.reduceEqDiff,↓reduceIte,Nat.reduceLeDiff,reduceCtorEq,Nat.reduceBEq,Nat.reduceLT,bE,cg,cI,aW,cP,b9,cV,bz,frz,cT,cM,er,eG,eK,f0,f1,f2,f3,f4,f10,f11,f12,fV,aY,List.all_cons,List.all_nil,Bool.and_self,aG,aF,aE,aI,List.drop_nil,List.take_nil,aq,ax,js,i6,aA,az,hlen,h1v,hcv,hcell,hm,hm2,hne,hne2,hE,h2,g0,g1,g2,g3];exact⟨_,_,_,rfl,rfl,Nat.le_refl _,bP (zG (uu hA om _) om)⟩
theorem l_a1 (hb:b.data.toList.length < 1000000000) {a lv fr o:Nat}{acc:List aS} (h:fy (bt b.data.toList a) 4 o=true) (h2:a + 1 < b.data.toList.length) (h3:bt b.data.toList (a + 1)≠41):LC ext b a 4 lv fr o acc (.error (a,6)):=by
 intro s0 f s v q hq hI;have hA:=hI.acc;have hcell:=hI.cell;have hn:=hI.n;have hw:=hI.w;obtain⟨f0,f1,f2,f3,f4,f10,f11,f12,_,_,_,_⟩:=hI;have hlen:=jK hA;have h1v:=jI hA;have hcv:=lN hA;have hm:min s.w s0.n=s0.n:=Nat.min_eq_right hw;have hm2:min (min s.w s.n) s0.n=s0.n:=Nat.min_eq_right om;have hne:(s0.n=s.n)=False:=eq_false om;have hne2:(s.n=s0.n)=False:=eq_false om;rw [bS] at hq;injection hq with hq;subst hq;have hp : 4≤6:=om;have hl:a < b.data.toList.length:=om;have hE:=fun s=>qV (ext:=ext) (b:=b) (i:=a) (o:=o) hp hl s;have g0:(decide (a < b.data.toList.length))=true:=decide_eq_true hl;have g1:(fy (bt b.data.toList a) 4 o)=true:=h;have g2:(a + 1 == b.data.toList.length)=false:=bf;have g3:(bt b.data.toList (a + 1) == 41)=false:=beq_eq_false_iff_ne.2 h3;refine ad fun L hL=>?_;unfold VC;simp -implicitDefEqProofs (disch:=omega) only [ZA,Nat.reduceAdd,Nat.reduceEqDiff,↓reduceIte,Nat.reduceLeDiff,reduceCtorEq,Nat.reduceBEq,Nat.reduceLT,bE,cg,cI,aW,cP,b9,cV,bz,frz,cT,cM,er,eG,eK,f0,f1,f2,f3,f4,f10,f11,f12,fV,aY,List.all_cons,List.all_nil,Bool.and_self,aG,aF,aE,aI,List.drop_nil,List.take_nil,aq,ax,js,i6,aA,az,hlen,h1v,hcv,hcell,hm,hm2,hne,hne2,hE,h2,g0,g1,g2,g3];exact⟨_,_,_,rfl,rfl,Nat.le_refl _,rfl⟩
theorem l_tilde (hb:b.data.toList.length < 1000000000) {a p lv fr o:Nat} (hp:p≤6) (hl:a < b.data.toList.length) (h:fy (bt b.data.toList a) p o=false) (h2:mc b.data.toList a p true) (r:R) (ih:LC ext b (a + 1) p lv fr o [qX] r):LC ext b a p lv fr o [] (r):=by
 intro s0 f s v q hq hI;have hA:=hI.acc;have hcell:=hI.cell;have hn:=hI.n;have hw:=hI.w;obtain⟨f0,f1,f2,f3,f4,f10,f11,f12,_,_,_,_⟩:=hI;have hlen:=jK hA;have h1v:=jI hA;have hcv:=lN hA;have hm:min s.w s0.n=s0.n:=Nat.min_eq_right hw;have hm2:min (min s.w s.n) s0.n=s0.n:=Nat.min_eq_right om;have hne:(s0.n=s.n)=False:=eq_false om;have hne2:(s.n=s0.n)=False:=eq_false om;have hE:=fun s=>qV (ext:=ext) (b:=b) (i:=a) (o:=o) hp hl s;have hT:=fun s=>zS (ext:=ext) (b:=b) om hp hl h2 s;have hel:=t6 (e:=155) s (dV qX);rw [gU] at hel;obtain⟨v1,s1,a1,a2⟩:=qb hA om (by simp) qX;have eP:dV qX=[.sc (.int .i64 7),.sc (.string ⟨#[]⟩),.sc (.int .i64 0),.sc (.bool false),.sc (.slice none 0 0)]:=by rw [qX,dV,dl]
 rw [eP] at hel a1;have g0:(decide (a < b.data.toList.length))=true:=decide_eq_true hl;have g1:(fy (bt b.data.toList a) p o)=false:=h;have g2:(([]:List aS).length == 0)=true:=rfl;refine ad fun L hL=>?_;unfold VC;refine nT @eG.eq_1 @eK.eq_1 f0 f1 f2 f3 f4 f10 f11 f12 @aY @aG @aF @aE @aI @aq @ax @aA @az hlen h1v hcv hcell hm hm2 hne hne2 hE hT hel a1 g0 g1 g2 tv tv tv tv tv tv ?_;subst hL;refine ih s0 _ s1 v1 q hq ⟨bm f0,bw,bm f2,bm f3,bm f4,bm f10,bw,bm f12,a2.acc,?_,by have:=a2.n; omega,a2.w _ om hw⟩;rw [a2.same _ om]; exact hcell
structure PP (b:ByteArray) (p lv fr o:Nat) (acc:List aS) (v:PV) (ps:List aS) (j:Nat) (s0:PS) (k:Nat) (f:aX) (s:PS):Prop where
 f0:f 0=.sc (.string b)
 f2:f 2=iN p
 f3:f 3=iN lv
 f4:f 4=iN fr
 f10:f 10=.ptr s0.n 0 3
 f11:f 11=v
 f12:f 12=iN o
 f13:f 13=.ptr k 0 3
 f14:f 14=.sc (.int .i64 0)
 acc:jX 155 5 dV (s0.n + 1) acc v s
 cell:s.h s0.n=⟨[.sc (.slice none 0 0),.sc (.int .i64 0),.sc (.int .i64 0)],0,275⟩
 x:s.h k=⟨[dl ps,iN j,.sc (.int .i64 0)],3,275⟩
 kn:k < s.n
 ne:∀a m c,v≠.own k a m c
 n:s0.n + 1≤s.n
 w:s0.n≤s.w
theorem Jc (p:aS):dl [p]=.lit 155 1 (dV p):=by
 rw [dl,oD,List.append_nil]; rfl
theorem J6 {p lv fr o:Nat}{acc:List aS}{v:PV}{ps:List aS}{j:Nat}{s0:PS}{k:Nat} (hps:ps.length≤1) (hacc:acc.length < 1000000000) (htx:∀q∈ps,q.kind=1→∀x,acc.getLast?=some x→x.kind=1→x.text.length + q.text.length < 4611686018427387904) {f:aX}{s:PS} (h:PP b p lv fr o acc v ps j s0 k f s) :
  ∃f' s' v',LP Tryz.prog Γ ext 2 rk th f s=some (.normal,f',s')∧PI b j p lv fr o (ps.foldl mV acc) v' s0 f' s':=by
 obtain⟨f0,f2,f3,f4,f10,f11,f12,f13,f14,hA,hcell,hx,hk,hne,hn,hw⟩:=h
 match ps,hps with
 | [],_=>
  rw [dl] at hx;have z0:decide ((0:Int) < 0)=false:=rfl;rw [pE,C3];refine rO @yh.eq_1 f0 f2 f3 f4 f10 f11 f12 f13 f14 hx z0 @Cf @C5 @BX @J4 @FH.eq_1 tv tv ?_;exact⟨_,_,v,rfl,⟨bm f0,bw,bm f2,bm f3,bm f4,bm f10,bm f11,bm f12,hA,hcell,hn,hw⟩⟩
 | [.mk kd t op c pp],_=>
  have eP:dV (.mk kd t op c pp)=[.sc (.int .i64 kd),.sc (.string ⟨⟨t⟩⟩),.sc (.int .i64 op),.sc (.bool c),dl pp]:=by rw [dV]
  rw [Jc] at hx;have z0:decide ((0:Int) < ((1:Nat):Int))=true:=rfl;have z1:decide ((1:Int) < ((1:Nat):Int))=false:=rfl;have wk:IntKind.i64.wrap (0 + 1)=1:=rfl;have l01 : 0 < 1:=om;have hfold:[aS.mk kd t op c pp].foldl mV acc=mV acc (.mk kd t op c pp):=rfl;rw [hfold];by_cases h1:kd=1
  ·subst h1;have ha1:mV acc (.mk 1 t op c pp)=me acc t:=if_pos rfl;rw [ha1];obtain⟨v1,s1,w1,w2⟩:=Q8 (ext:=ext) (t:=t) hA hn om (fun x hx hx1=>htx _ List.mem_cons_self rfl x hx hx1);have hx1:s1.h k=⟨[.lit 155 1 (dV (.mk 1 t op c pp)),iN j,.sc (.int .i64 0)],3,275⟩:=by rw [w2.keep k hk hne]; exact hx
   rw [eP] at hx hx1;rw [pE,C3];refine Pw @yh.eq_1 f0 f2 f3 f4 f10 f11 f12 f13 f14 hx @wv z0 l01 @Nat.one_mul @Nat.zero_mul w1 wk @Cf @C5 @BX @Ux ?_;rw [pE,C3];refine FY @yh.eq_1 f0 f2 f3 f4 f10 f11 f12 f13 hx1 @wv z1 @Cf @C5 @BX @J4 @FH.eq_1 tv tv ?_;exact⟨_,_,v1,rfl,⟨fP f0,fp,fP f2,fP f3,fP f4,fP f10,fp,fP f12,w2.acc,(w2.same _ om).trans hcell,by have:=w2.n; omega,w2.w _ om hw⟩⟩
  ·have ha1:mV acc (.mk kd t op c pp)=acc ++ [.mk kd t op c pp]:=if_neg h1;have hk1:(kd == 1)=false:=beq_eq_false_iff_ne.2 h1;rw [ha1];obtain⟨v1,s1,a1,w2⟩:=qb hA hn om (.mk kd t op c pp);have hel:=t6 (e:=155) s (dV (.mk kd t op c pp));rw [gU] at hel;have hx1:s1.h k=⟨[.lit 155 1 (dV (.mk kd t op c pp)),iN j,.sc (.int .i64 0)],3,275⟩:=by rw [w2.keep k hk hne]; exact hx
   rw [eP] at hx hx1 hel a1;rw [pE,C3];simp -implicitDefEqProofs (disch:=omega) only [ZA,Nat.reduceAdd,Nat.reduceEqDiff,↓reduceIte,Nat.reduceLeDiff,reduceCtorEq,Nat.reduceBEq,Nat.reduceLT,bE,cg,cI,aW,cP,b9,cV,bz,frz,cT,cM,er,yh,f0,f2,f3,f4,f10,f11,f12,f13,f14,hx,gB,z0,l01,Nat.one_mul,Nat.zero_mul,hk1,hel,a1,wk,Cf,C5,BX,xr,fV,ax,List.drop_nil,List.take_nil];rw [pE,C3];refine FY @yh.eq_1 f0 f2 f3 f4 f10 f11 f12 f13 hx1 @wv z1 @Cf @C5 @BX @J4 @FH.eq_1 tv tv ?_;exact⟨_,_,v1,rfl,⟨fP f0,fp,fP f2,fP f3,fP f4,fP f10,fp,fP f12,w2.acc,(w2.same _ om).trans hcell,by have:=w2.n; omega,w2.w _ om hw⟩⟩
theorem tU {p lv fr o:Nat}{acc:List aS}{v:PV}{ps:List aS}{j:Nat}{s0:PS}{k:Nat} (hps:ps.length≤1) (hacc:acc.length < 1000000000) (htx:∀q∈ps,q.kind=1→∀x,acc.getLast?=some x→x.kind=1→x.text.length + q.text.length < 4611686018427387904) {f:aX}{s:PS}{V:aX→PS→Prop}{L:aX→PS→kY}{id:Nat}{rest:bj} (h:PP b p lv fr o acc v ps j s0 k f s)
  (hk:∀f' s' v',PI b j p lv fr o (ps.foldl mV acc) v' s0 f' s'→Er V (L f' s')):Er V (RU Tryz.prog Γ ext L id rest (jC 1 (LP Tryz.prog Γ ext 2 rk th f s))):=by
 obtain⟨f',s',v',e,hI⟩:=J6 hps hacc htx h;rw [e,Kf,Py];exact hk f' s' v' hI
theorem l_err (hb:b.data.toList.length < 1000000000) {a p lv fr o:Nat}{acc:List aS} (hp:p≤6) (hl:a < b.data.toList.length) (ho:o≤a) (h:fy (bt b.data.toList a) p o=false) (h2:acc=[]→mc b.data.toList a p false) {x e:Nat} (he:e≠0) (hC:∀s,Pc ext 280 [.sc (.string b),iN a,iN p,iN lv] (.agg [.sc (.slice none 0 0),iN x,iN e]) s):LC ext b a p lv fr o acc (.error (x,e)):=by
 intro s0 f s v q hq hI;have hA:=hI.acc;have hcell:=hI.cell;have hn:=hI.n;have hw:=hI.w;obtain⟨f0,f1,f2,f3,f4,f10,f11,f12,_,_,_,_⟩:=hI;have hlen:=jK hA;have h1v:=jI hA;have hcv:=lN hA;have hm2:min (min s.w s.n) s0.n=s0.n:=Nat.min_eq_right om;have hne:(s0.n=s.n)=False:=eq_false om;have hne2:(s.n=s0.n)=False:=eq_false om;have hE:=fun s=>qV (ext:=ext) (b:=b) (i:=a) (o:=o) hp hl s;have e1:decide (a < b.data.toList.length)=true:=decide_eq_true hl;rw [bS] at hq;injection hq with hq;subst hq;have ge:(e == 0)=false:=beq_eq_false_iff_ne.2 he;have hT:(acc.length == 0)=true→∀s,Pc ext 279 [.sc (.string b),iN a,iN p] (.sc (.bool false)) s:=fun hz s=>zS (ext:=ext) (b:=b) om hp hl (h2 (List.eq_nil_of_length_eq_zero (eq_of_beq hz))) s;cases hz:acc.length == 0 with
 | true=>
  have hT0:=hT hz;cases g4:p == 4 with
  | false=>
   refine ad fun L hL=>?_;unfold VC;refine nT @eG.eq_1 @eK.eq_1 f0 f1 f2 f3 f4 f10 f11 f12 @aY @aG @aF @aE @aI @aq @ax @aA @az hlen h1v hcv hcell hm2 hne hne2 hE h e1 hl hC ge hz hT0 g4 tv tv tv tv tv ?_;exact⟨_,_,_,rfl,rfl,Nat.le_refl _,rfl⟩
  | true=>
   have p4:=eq_of_beq g4;cases q40:bt b.data.toList a == 40 with
   | true=>
    have q41:(bt b.data.toList a == 41)=false:=by rw [eq_of_beq q40]; rfl
    refine ad fun L hL=>?_;unfold VC;refine nT @eG.eq_1 @eK.eq_1 f0 f1 f2 f3 f4 f10 f11 f12 @aY @aG @aF @aE @aI @aq @ax @aA @az hlen h1v hcv hcell hm2 hne hne2 hE h e1 hl hC ge hz hT0 g4 q40 q41 tv tv tv ?_;exact⟨_,_,_,rfl,rfl,Nat.le_refl _,rfl⟩
   | false=>
    cases q41:bt b.data.toList a == 41 with
    | true=>
     have ho1 : 1≤o:=by
      cases o with
      | zero=>rw [p4,eq_of_beq q41] at h; cases h
      | succ o=>omega
     refine ad fun L hL=>?_;unfold VC;refine nT @eG.eq_1 @eK.eq_1 f0 f1 f2 f3 f4 f10 f11 f12 @aY @aG @aF @aE @aI @aq @ax @aA @az hlen h1v hcv hcell hm2 hne hne2 hE h e1 hl hC ge hz hT0 g4 q40 q41 tv tv tv ?_;exact⟨_,_,_,rfl,rfl,Nat.le_refl _,rfl⟩
    | false=>
     refine ad fun L hL=>?_;unfold VC;refine nT @eG.eq_1 @eK.eq_1 f0 f1 f2 f3 f4 f10 f11 f12 @aY @aG @aF @aE @aI @aq @ax @aA @az hlen h1v hcv hcell hm2 hne hne2 hE h e1 hl hC ge hz hT0 g4 q40 q41 tv tv tv ?_;exact⟨_,_,_,rfl,rfl,Nat.le_refl _,rfl⟩
 | false=>
  cases g4:p == 4 with
  | false=>
   refine ad fun L hL=>?_;unfold VC;refine nT @eG.eq_1 @eK.eq_1 f0 f1 f2 f3 f4 f10 f11 f12 @aY @aG @aF @aE @aI @aq @ax @aA @az hlen h1v hcv hcell hm2 hne hne2 hE h e1 hl hC ge hz g4 tv tv tv tv tv tv ?_;exact⟨_,_,_,rfl,rfl,Nat.le_refl _,rfl⟩
  | true=>
   have p4:=eq_of_beq g4;cases q40:bt b.data.toList a == 40 with
   | true=>
    have q41:(bt b.data.toList a == 41)=false:=by rw [eq_of_beq q40]; rfl
    refine ad fun L hL=>?_;unfold VC;refine nT @eG.eq_1 @eK.eq_1 f0 f1 f2 f3 f4 f10 f11 f12 @aY @aG @aF @aE @aI @aq @ax @aA @az hlen h1v hcv hcell hm2 hne hne2 hE h e1 hl hC ge hz g4 q40 q41 tv tv tv tv ?_;exact⟨_,_,_,rfl,rfl,Nat.le_refl _,rfl⟩
   | false=>
    cases q41:bt b.data.toList a == 41 with
    | true=>
     have ho1 : 1≤o:=by
      cases o with
      | zero=>rw [p4,eq_of_beq q41] at h; cases h
      | succ o=>omega
     refine ad fun L hL=>?_;unfold VC;refine nT @eG.eq_1 @eK.eq_1 f0 f1 f2 f3 f4 f10 f11 f12 @aY @aG @aF @aE @aI @aq @ax @aA @az hlen h1v hcv hcell hm2 hne hne2 hE h e1 hl hC ge hz g4 q40 q41 tv tv tv tv ?_;exact⟨_,_,_,rfl,rfl,Nat.le_refl _,rfl⟩
    | false=>
     refine ad fun L hL=>?_;unfold VC;refine nT @eG.eq_1 @eK.eq_1 f0 f1 f2 f3 f4 f10 f11 f12 @aY @aG @aF @aE @aI @aq @ax @aA @az hlen h1v hcv hcell hm2 hne hne2 hE h e1 hl hC ge hz g4 q40 q41 tv tv tv tv ?_;exact⟨_,_,_,rfl,rfl,Nat.le_refl _,rfl⟩
theorem l_on (hb:b.data.toList.length < 1000000000) {a p lv fr o:Nat}{acc:List aS} (hp:p≤6) (hl:a < b.data.toList.length) (ho:o≤a) (h:fy (bt b.data.toList a) p o=false) (h2:acc=[]→mc b.data.toList a p false) {ps:List aS}{j:Nat} (hC:∀s,Pc ext 280 [.sc (.string b),iN a,iN p,iN lv] (.agg [dl ps,iN j,.sc (.int .i64 0)]) s) (hps:ps.length≤1) (hal:acc.length≤a) (htx:∀q∈ps,q.kind=1→∀x,acc.getLast?=some x→x.kind=1→x.text.length + q.text.length < 4611686018427387904) (r:R) (ih2:LC ext b j p lv fr (if p=4 then di (bt b.data.toList a) o else o) (ps.foldl mV acc) r):LC ext b a p lv fr o acc (r):=by
 intro s0 f s v q hq hI;have hA:=hI.acc;have hcell:=hI.cell;have hn:=hI.n;have hw:=hI.w;obtain⟨f0,f1,f2,f3,f4,f10,f11,f12,_,_,_,_⟩:=hI;have hlen:=jK hA;have h1v:=jI hA;have hcv:=lN hA;have hm2:min (min s.w s.n) s0.n=s0.n:=Nat.min_eq_right om;have hne:(s0.n=s.n)=False:=eq_false om;have hne2:(s.n=s0.n)=False:=eq_false om;have hE:=fun s=>qV (ext:=ext) (b:=b) (i:=a) (o:=o) hp hl s;have e1:decide (a < b.data.toList.length)=true:=decide_eq_true hl;have hT:(acc.length == 0)=true→∀s,Pc ext 279 [.sc (.string b),iN a,iN p] (.sc (.bool false)) s:=fun hz s=>zS (ext:=ext) (b:=b) om hp hl (h2 (List.eq_nil_of_length_eq_zero (eq_of_beq hz))) s;cases hz:acc.length == 0 with
 | true=>
  have hT0:=hT hz;cases g4:p == 4 with
  | false=>
   refine ad fun L hL=>?_;refine nT @eG.eq_1 @eK.eq_1 f0 f1 f2 f3 f4 f10 f11 f12 @aY @aG @aF @aE @aI @aq @ax @aA @az hlen h1v hcv hcell hm2 hne hne2 hE h e1 hl hC hz hT0 g4 tv tv tv tv tv tv ?_;subst hL;have hov:(if p=4 then di (bt b.data.toList a) o else o)=o:=if_neg (aj g4);rw [hov] at ih2;refine tU (k:=s.n) (s0:=s0) (acc:=acc) (v:=v) (ps:=ps) (j:=j) hps om htx ⟨bm f0,bm f2,bm f3,bm f4,bm f10,bm f11,bm f12,bw,bw,?_,?_,?_,?_,kr hA s.n (.inr (Nat.le_refl _)),?_,?_⟩ fun f' s' v' hI'=>ih2 s0 f' s' v' q hq hI'
   ·exact jX.frame hA (by rw [eU,dN]; omega) fun i hi=>by rw [eZ,if_neg om,eY,if_neg om]
   ·rw [eZ,if_neg om,eY,if_neg om]; exact hcell
   ·rw [eZ,if_pos rfl]
   ·rw [eU,dN]; omega
   ·rw [eU,dN]; omega
   ·rw [mo,kq]; omega
  | true=>
   have p4:=eq_of_beq g4;cases q40:bt b.data.toList a == 40 with
   | true=>
    have q41:(bt b.data.toList a == 41)=false:=by rw [eq_of_beq q40]; rfl
    refine ad fun L hL=>?_;refine nT @eG.eq_1 @eK.eq_1 f0 f1 f2 f3 f4 f10 f11 f12 @aY @aG @aF @aE @aI @aq @ax @aA @az hlen h1v hcv hcell hm2 hne hne2 hE h e1 hl hC hz hT0 g4 q40 q41 tv tv tv tv ?_;subst hL;have hov:(if p=4 then di (bt b.data.toList a) o else o)=o + 1:=by rw [if_pos p4]; unfold di; rw [if_pos (eq_of_beq q40)]
    rw [hov] at ih2;refine tU (k:=s.n) (s0:=s0) (acc:=acc) (v:=v) (ps:=ps) (j:=j) hps om htx ⟨bm f0,bm f2,bm f3,bm f4,bm f10,bm f11,bm f12,bw,bw,?_,?_,?_,?_,kr hA s.n (.inr (Nat.le_refl _)),?_,?_⟩ fun f' s' v' hI'=>ih2 s0 f' s' v' q hq hI'
    ·exact jX.frame hA (by rw [eU,dN]; omega) fun i hi=>by rw [eZ,if_neg om,eY,if_neg om]
    ·rw [eZ,if_neg om,eY,if_neg om]; exact hcell
    ·rw [eZ,if_pos rfl]
    ·rw [eU,dN]; omega
    ·rw [eU,dN]; omega
    ·rw [mo,kq]; omega
   | false=>
    cases q41:bt b.data.toList a == 41 with
    | true=>
     have ho1 : 1≤o:=by
      cases o with
      | zero=>rw [p4,eq_of_beq q41] at h; cases h
      | succ o=>omega
     refine ad fun L hL=>?_;refine nT @eG.eq_1 @eK.eq_1 f0 f1 f2 f3 f4 f10 f11 f12 @aY @aG @aF @aE @aI @aq @ax @aA @az hlen h1v hcv hcell hm2 hne hne2 hE h e1 hl hC hz hT0 g4 q40 q41 tv tv tv tv ?_;subst hL;have hov:(if p=4 then di (bt b.data.toList a) o else o)=o - 1:=by rw [if_pos p4]; unfold di; rw [if_neg (aj q40),if_pos (eq_of_beq q41)]
     rw [hov] at ih2;refine tU (k:=s.n) (s0:=s0) (acc:=acc) (v:=v) (ps:=ps) (j:=j) hps om htx ⟨bm f0,bm f2,bm f3,bm f4,bm f10,bm f11,bm f12,bw,bw,?_,?_,?_,?_,kr hA s.n (.inr (Nat.le_refl _)),?_,?_⟩ fun f' s' v' hI'=>ih2 s0 f' s' v' q hq hI'
     ·exact jX.frame hA (by rw [eU,dN]; omega) fun i hi=>by rw [eZ,if_neg om,eY,if_neg om]
     ·rw [eZ,if_neg om,eY,if_neg om]; exact hcell
     ·rw [eZ,if_pos rfl]
     ·rw [eU,dN]; omega
     ·rw [eU,dN]; omega
     ·rw [mo,kq]; omega
    | false=>
     refine ad fun L hL=>?_;refine nT @eG.eq_1 @eK.eq_1 f0 f1 f2 f3 f4 f10 f11 f12 @aY @aG @aF @aE @aI @aq @ax @aA @az hlen h1v hcv hcell hm2 hne hne2 hE h e1 hl hC hz hT0 g4 q40 q41 tv tv tv tv ?_;subst hL;have hov:(if p=4 then di (bt b.data.toList a) o else o)=o:=by rw [if_pos p4]; unfold di; rw [if_neg (aj q40),if_neg (aj q41)]
     rw [hov] at ih2;refine tU (k:=s.n) (s0:=s0) (acc:=acc) (v:=v) (ps:=ps) (j:=j) hps om htx ⟨bm f0,bm f2,bm f3,bm f4,bm f10,bm f11,bm f12,bw,bw,?_,?_,?_,?_,kr hA s.n (.inr (Nat.le_refl _)),?_,?_⟩ fun f' s' v' hI'=>ih2 s0 f' s' v' q hq hI'
     ·exact jX.frame hA (by rw [eU,dN]; omega) fun i hi=>by rw [eZ,if_neg om,eY,if_neg om]
     ·rw [eZ,if_neg om,eY,if_neg om]; exact hcell
     ·rw [eZ,if_pos rfl]
     ·rw [eU,dN]; omega
     ·rw [eU,dN]; omega
     ·rw [mo,kq]; omega
 | false=>
  cases g4:p == 4 with
  | false=>
   refine ad fun L hL=>?_;refine nT @eG.eq_1 @eK.eq_1 f0 f1 f2 f3 f4 f10 f11 f12 @aY @aG @aF @aE @aI @aq @ax @aA @az hlen h1v hcv hcell hm2 hne hne2 hE h e1 hl hC hz g4 tv tv tv tv tv tv tv ?_;subst hL;have hov:(if p=4 then di (bt b.data.toList a) o else o)=o:=if_neg (aj g4);rw [hov] at ih2;refine tU (k:=s.n) (s0:=s0) (acc:=acc) (v:=v) (ps:=ps) (j:=j) hps om htx ⟨bm f0,bm f2,bm f3,bm f4,bm f10,bm f11,bm f12,bw,bw,?_,?_,?_,?_,kr hA s.n (.inr (Nat.le_refl _)),?_,?_⟩ fun f' s' v' hI'=>ih2 s0 f' s' v' q hq hI'
   ·exact jX.frame hA (by rw [eU,dN]; omega) fun i hi=>by rw [eZ,if_neg om,eY,if_neg om]
   ·rw [eZ,if_neg om,eY,if_neg om]; exact hcell
   ·rw [eZ,if_pos rfl]
   ·rw [eU,dN]; omega
   ·rw [eU,dN]; omega
   ·rw [mo,kq]; omega
  | true=>
   have p4:=eq_of_beq g4;cases q40:bt b.data.toList a == 40 with
   | true=>
    have q41:(bt b.data.toList a == 41)=false:=by rw [eq_of_beq q40]; rfl
    refine ad fun L hL=>?_;refine nT @eG.eq_1 @eK.eq_1 f0 f1 f2 f3 f4 f10 f11 f12 @aY @aG @aF @aE @aI @aq @ax @aA @az hlen h1v hcv hcell hm2 hne hne2 hE h e1 hl hC hz g4 q40 q41 tv tv tv tv tv ?_;subst hL;have hov:(if p=4 then di (bt b.data.toList a) o else o)=o + 1:=by rw [if_pos p4]; unfold di; rw [if_pos (eq_of_beq q40)]
    rw [hov] at ih2;refine tU (k:=s.n) (s0:=s0) (acc:=acc) (v:=v) (ps:=ps) (j:=j) hps om htx ⟨bm f0,bm f2,bm f3,bm f4,bm f10,bm f11,bm f12,bw,bw,?_,?_,?_,?_,kr hA s.n (.inr (Nat.le_refl _)),?_,?_⟩ fun f' s' v' hI'=>ih2 s0 f' s' v' q hq hI'
    ·exact jX.frame hA (by rw [eU,dN]; omega) fun i hi=>by rw [eZ,if_neg om,eY,if_neg om]
    ·rw [eZ,if_neg om,eY,if_neg om]; exact hcell
    ·rw [eZ,if_pos rfl]
    ·rw [eU,dN]; omega
    ·rw [eU,dN]; omega
    ·rw [mo,kq]; omega
   | false=>
    cases q41:bt b.data.toList a == 41 with
    | true=>
     have ho1 : 1≤o:=by
      cases o with
      | zero=>rw [p4,eq_of_beq q41] at h; cases h
      | succ o=>omega
     refine ad fun L hL=>?_;refine nT @eG.eq_1 @eK.eq_1 f0 f1 f2 f3 f4 f10 f11 f12 @aY @aG @aF @aE @aI @aq @ax @aA @az hlen h1v hcv hcell hm2 hne hne2 hE h e1 hl hC hz g4 q40 q41 tv tv tv tv tv ?_;subst hL;have hov:(if p=4 then di (bt b.data.toList a) o else o)=o - 1:=by rw [if_pos p4]; unfold di; rw [if_neg (aj q40),if_pos (eq_of_beq q41)]
     rw [hov] at ih2;refine tU (k:=s.n) (s0:=s0) (acc:=acc) (v:=v) (ps:=ps) (j:=j) hps om htx ⟨bm f0,bm f2,bm f3,bm f4,bm f10,bm f11,bm f12,bw,bw,?_,?_,?_,?_,kr hA s.n (.inr (Nat.le_refl _)),?_,?_⟩ fun f' s' v' hI'=>ih2 s0 f' s' v' q hq hI'
     ·exact jX.frame hA (by rw [eU,dN]; omega) fun i hi=>by rw [eZ,if_neg om,eY,if_neg om]
     ·rw [eZ,if_neg om,eY,if_neg om]; exact hcell
     ·rw [eZ,if_pos rfl]
     ·rw [eU,dN]; omega
     ·rw [eU,dN]; omega
     ·rw [mo,kq]; omega
    | false=>
     refine ad fun L hL=>?_;refine nT @eG.eq_1 @eK.eq_1 f0 f1 f2 f3 f4 f10 f11 f12 @aY @aG @aF @aE @aI @aq @ax @aA @az hlen h1v hcv hcell hm2 hne hne2 hE h e1 hl hC hz g4 q40 q41 tv tv tv tv tv ?_;subst hL;have hov:(if p=4 then di (bt b.data.toList a) o else o)=o:=by rw [if_pos p4]; unfold di; rw [if_neg (aj q40),if_neg (aj q41)]
     rw [hov] at ih2;refine tU (k:=s.n) (s0:=s0) (acc:=acc) (v:=v) (ps:=ps) (j:=j) hps om htx ⟨bm f0,bm f2,bm f3,bm f4,bm f10,bm f11,bm f12,bw,bw,?_,?_,?_,?_,kr hA s.n (.inr (Nat.le_refl _)),?_,?_⟩ fun f' s' v' hI'=>ih2 s0 f' s' v' q hq hI'
     ·exact jX.frame hA (by rw [eU,dN]; omega) fun i hi=>by rw [eZ,if_neg om,eY,if_neg om]
     ·rw [eZ,if_neg om,eY,if_neg om]; exact hcell
     ·rw [eZ,if_pos rfl]
     ·rw [eU,dN]; omega
     ·rw [eU,dN]; omega
     ·rw [mo,kq]; omega
end Go.Proofs.YtokdflgpbfjpcaaGreatDoor
namespace Go.Mir
theorem Wx.err {l:List UInt8}{t:ew}{r:R} (h:Wx l t r):∀x,r=.error x→x.2≠0:=by
 induction h with
 | l_err hl h h2 k ih=>intro x hx; injection hx with hx; subst hx; exact ih _ rfl
 | l_tilde hl h h2 k ih=>exact ih
 | l_on hl h h2 k k2 ih ih2=>exact ih2
 | x_brc h h2 k ih=>exact ih
 | x_ari0 h h2 hl h3 h4 k ih=>intro x hx; injection hx with hx; subst hx; exact ih _ rfl
 | t_dq0 hl h h2 h3 k ih=>intro x hx; injection hx with hx; subst hx; exact ih _ rfl
 | w_err k h h2 h3 h4 h5 h6 h7 k2 ih=>intro x hx; injection hx with hx; subst hx; exact ih _ rfl
 | r_sharp hl h k h2 h3 k2 ih=>exact ih
 | r_two h k2 ih=>exact ih
 | q_err hl h k he=>intro x hx; injection hx with hx; subst hx; exact he
 | x_cmd0 h h2 h3 k he=>intro x hx; injection hx with hx; subst hx; exact he
 | _=>intro x hx; first | (injection hx with hx; subst hx; simp only; omega) | cases hx
theorem IM (acc:List aS) (q:aS):(mV acc q).length≤acc.length + 1:=by
 unfold mV;split
 ·unfold me;split
  ·rename_i p hp;split
   ·rw [List.length_append,List.length_dropLast];simp only [List.length_cons,List.length_nil];omega
   ·simp
  ·simp
 ·simp
theorem GG {acc:List aS}{q:aS}{a j:Nat} (h:∀x∈acc,x.kind=1→x.text.length≤a) (hq:q.kind=1→q.text.length≤j - a) (haj:a≤j):∀x∈mV acc q,x.kind=1→x.text.length≤j:=by
 intro x hx hk;have old:∀x∈acc,x.kind=1→x.text.length≤j:=fun x hx hk=>Nat.le_trans (h x hx hk) haj;unfold mV at hx;split at hx
 ·rename_i hqk;have hq1:=hq hqk;unfold me at hx;split at hx
  ·rename_i p hp;have hpm:p∈acc:=List.mem_of_getLast? hp;split at hx
   ·rename_i hpk;rcases List.mem_append.1 hx with hx | hx
    ·exact old x ((List.dropLast_sublist acc).subset hx) hk
    ·cases hx with
     | head=>
      have h1:=h p hpm hpk;show (p.text ++ q.text).length≤j;rw [List.length_append]; omega
     | tail _ hx=>cases hx
   ·rcases List.mem_append.1 hx with hx | hx
    ·exact old x hx hk
    ·cases hx with
     | head=>show q.text.length≤j; omega
     | tail _ hx=>cases hx
  ·cases hx with
   | head=>show q.text.length≤j; omega
   | tail _ hx=>cases hx
 ·rename_i hqk;rcases List.mem_append.1 hx with hx | hx
  ·exact old x hx hk
  ·cases hx with
   | head=>exact absurd hk hqk
   | tail _ hx=>cases hx
end Go.Mir
namespace Go.Proofs.YtokdflgpbfjpcaaGreatDoor
open Go Go.EvL Go.PE Go.Mir
variable {ext:ar}{b:ByteArray}
theorem i7 {a p lv fr:Nat}{r:R} (h:LC ext b a p lv fr 0 [] r) (s:PS):Pc ext 264 [.sc (.string b),iN a,iN p,iN lv,iN fr] (bS r) s:=by
 obtain⟨q,hq⟩ : ∃q,bS r=.agg q:=by
  cases r with
  | ok x=>obtain⟨l,j⟩:=x; exact⟨_,rfl⟩
  | error x=>obtain⟨i,e⟩:=x; exact⟨_,rfl⟩
 rw [hq];refine gD s.n (fn:=N4) (r:=10) (m:=3) (by rfl) (by simp [N4]) (by rfl) (by rfl) ?_;unfold N4;refine LD ?_;exact h s _ _ (.sc (.slice none 0 0)) q hq ⟨fp,fp,fp,fp,fp,fp,fp,by simp -implicitDefEqProofs (disch:=omega) only [ZA,Nat.reduceAdd,Nat.reduceEqDiff,↓reduceIte,Nat.reduceLeDiff,reduceCtorEq,Nat.reduceBEq,Nat.reduceLT,bE,cg,cI,aW,cP,b9,cV,bz,frz,cT,cM,er]; rfl,jX.nil _ _ _ _ _,fp,fp,fp⟩
def WC (ext:ar) (b:ByteArray):ew→R→Prop
 | .loop a p lv fr o acc,r=>p≤6→o≤a→acc.length≤a→(∀x∈acc,x.kind=1→x.text.length≤a)→LC ext b a p lv fr o acc r
 | .part a p lv,r=>p≤6→∀s,Pc ext 280 [.sc (.string b),iN a,iN p,iN lv] (bS r) s
 | .brc a p lv,r=>p≤6→∀s,Pc ext 326 [.sc (.string b),iN a,iN p,iN lv] (bS r) s
 | .brc2 a p lv,r=>p≤6→B2 ext b a p lv r
theorem uV {g:Nat}{A C:List PV} (hok:∀(ps:List aS) (j:Nat),(∀s,aH Tryz.prog Γ ext g A s=some (.agg [dl ps,iN j,.sc (.int .i64 0)],s))→∀s,aH Tryz.prog Γ ext 280 C s=some (bS (.ok (ps,j)),s))
  (her:∀(x e:Nat),(∀s,aH Tryz.prog Γ ext g A s=some (.agg [.sc (.slice none 0 0),iN x,iN e],s))→∀s,aH Tryz.prog Γ ext 280 C s=some (bS (.error (x,e)),s)) (r:R) (h:∀s,aH Tryz.prog Γ ext g A s=some (bS r,s)):∀s,aH Tryz.prog Γ ext 280 C s=some (bS r,s):=by
 cases r with
 | ok x=>obtain⟨ps,j⟩:=x; exact hok ps j h
 | error x=>obtain⟨x,e⟩:=x; exact her x e h
theorem QE (hb:b.data.toList.length < 1000000000) {a p lv:Nat} (hp:p≤6) (hl:a < b.data.toList.length) (hx:cG b.data.toList a=true) (r:R) (h:∀s,Pc ext 316 [.sc (.string b),iN a,iN p,iN lv] (bS r) s) (s:PS):Pc ext 299 [.sc (.string b),iN a,iN p,iN lv] (bS r) s:=by
 cases r with
 | ok x=>obtain⟨ps,j⟩:=x; exact GR hb hp hl hx ps j h s
 | error x=>obtain⟨x,e⟩:=x; exact Ge hb hp hl hx x e h s
theorem Fb (hb:b.data.toList.length < 1000000000) {a p lv:Nat} (hp:p≤6) (hl:a < b.data.toList.length) (hd:bt b.data.toList a=36) (r:R) (h:∀s,Pc ext 299 [.sc (.string b),iN a,iN p,iN lv] (bS r) s):∀s,Pc ext 280 [.sc (.string b),iN a,iN p,iN lv] (bS r) s:=
 uV (fun ps j hC=>Lf hb hp hl hd ps j hC) (fun x e hC=>Ix hb hp hl hd x e hC) r h
theorem s7 (hb:b.data.toList.length < 1000000000) {a p lv:Nat} (hp:p≤6) (hl:a < b.data.toList.length) (hx:cG b.data.toList a=true) (r:R) (h:∀s,Pc ext 316 [.sc (.string b),iN a,iN p,iN lv] (bS r) s):∀s,Pc ext 280 [.sc (.string b),iN a,iN p,iN lv] (bS r) s:=
 Fb hb hp hl (yN hx) r fun s=>QE hb hp hl hx r h s
theorem sx (hb:b.data.toList.length < 1000000000) {a p lv:Nat} (hp:p≤6) (hl:a < b.data.toList.length) (hd:bt b.data.toList a=92) (r:R) (h:∀s,Pc ext 297 [.sc (.string b),iN a,iN p] (bS r) s):∀s,Pc ext 280 [.sc (.string b),iN a,iN p,iN lv] (bS r) s:=
 uV (fun ps j hC=>Kr hb hp hl hd ps j hC) (fun x e hC=>JK hb hp hl hd x e hC) r h
theorem EM (hb:b.data.toList.length < 1000000000) {a p lv:Nat} (hp:p≤6) (hl:a < b.data.toList.length) (hd:bt b.data.toList a=96) (r:R) (h:∀s,Pc ext 298 [.sc (.string b),iN a] (bS r) s):∀s,Pc ext 280 [.sc (.string b),iN a,iN p,iN lv] (bS r) s:=
 uV (fun ps j hC=>L0 hb hp hl hd ps j hC) (fun x e hC=>LF hb hp hl hd x e hC) r h
theorem C0 (hb:b.data.toList.length < 1000000000) {a p lv:Nat} (hp:p≤6) (hl:a < b.data.toList.length) (hd:bt b.data.toList a=39∨bt b.data.toList a=34) (ho:dh p=true) (r:R) (h:∀s,Pc ext 300 [.sc (.string b),iN a,iN lv] (bS r) s):∀s,Pc ext 280 [.sc (.string b),iN a,iN p,iN lv] (bS r) s:=by
 rcases hd with hd | hd
 ·exact uV (fun ps j hC=>H9 hb hp hl hd ho ps j hC) (fun x e hC=>Gl hb hp hl hd ho x e hC) r h
 ·exact uV (fun ps j hC=>I5 hb hp hl hd ho ps j hC) (fun x e hC=>GH hb hp hl hd ho x e hC) r h
theorem RG (hb:b.data.toList.length < 1000000000) {a p lv:Nat} (hp:p≤6) (hx:cG b.data.toList a=true) (h:bt b.data.toList (a + 1)=123) (r:R) (hC:∀s,Pc ext 326 [.sc (.string b),iN a,iN p,iN lv] (bS r) s) (s:PS):Pc ext 316 [.sc (.string b),iN a,iN p,iN lv] (bS r) s:=by
 cases r with
 | ok x=>obtain⟨ps,j⟩:=x; exact G9 hb hp hx h ps j hC s
 | error x=>obtain⟨x,e⟩:=x; exact H4 hb hp hx h x e hC s
theorem pB {x:aS}{a:Nat} (h:x∈([]:List aS)):x.kind=1→x.text.length≤a:=by cases h
theorem JH (hb:b.data.toList.length < 1000000000) {t:ew}{r:R} (h:Wx b.data.toList t r):t.ok b.data.toList→WC ext b t r:=by
 have hb2:b.data.toList.length < 4611686018427387904:=om;have hPar:∀{i j:Nat},iK b.data.toList i j→i≤b.data.toList.length→∀s,Pc ext 333 [.sc (.string b),iN i] (iN j) s:=fun k hi s=>AL hb2 hi k s
 induction h with
 | @l_end p lv fr o acc h=>
  intro ok hp ho hal htl;rcases h with rfl | rfl
  ·exact S8 hb
  ·exact Rk hb
 | l_open h h2=>intro ok hp ho hal htl; exact l_open hb h h2
 | l_q hl h h2=>intro ok hp ho hal htl; exact l_q hb hp hl h h2
 | l_a0 h h2=>intro ok hp ho hal htl; exact l_a0 hb h h2
 | l_a h h2 h3=>intro ok hp ho hal htl; exact l_a hb h h2 h3
 | l_a1 h h2 h3=>intro ok hp ho hal htl; exact l_a1 hb h h2 h3
 | l_tilde hl h h2 k ih=>
  intro ok hp ho hal htl;refine l_tilde hb hp hl h h2 _ (ih (by simp only [ew.ok]; omega) hp om (by simp) fun x hx hk=>?_);cases hx with
  | head=>cases hk
  | tail _ hx=>cases hx
 | @l_err a p lv fr o acc x hl h h2 k ih=>
  intro ok hp ho hal htl;obtain⟨x,e⟩:=x;exact l_err hb hp hl ho h h2 (k.err _ rfl) (ih hl hp)
 | @l_on a p lv fr o acc ps j r hl h h2 k k2 ih ih2=>
  intro ok hp ho hal htl;have hB:=k.bound hl;obtain⟨b1,b2,b3,b4⟩:=hB;simp only at b1 b2 b3 b4;refine l_on hb hp hl ho h h2 (ih hl hp) b3 hal (fun q hq hk x hx hxk=>?_) r (ih2 b2 hp ?_ ?_ ?_)
  ·have h1:=b4 q hq hk;have h3:=htl x (List.mem_of_getLast? hx) hxk;omega
  ·split
   ·unfold di; split
    ·omega
    ·split<;>omega
   ·omega
  ·match ps,b3 with
   | [],_=>show acc.length≤j; omega
   | [q],_=>have:=IM acc q; show (mV acc q).length≤j; omega
  ·match ps,b3,b4 with
   | [],_,_=>exact fun x hx hk=>Nat.le_trans (htl x hx hk) om
   | [q],_,b4=>exact GG htl (fun hk=>b4 q List.mem_cons_self hk) om
 | s_end5 h h2=>intro ok hp; exact sx hb hp ok h _ fun s=>O1 hb h2 s
 | s_end h h2 h3=>intro ok hp; exact sx hb hp ok h _ fun s=>T0 hb h2 h3 s
 | s_nl h h2 h3=>intro ok hp; exact sx hb hp ok h _ fun s=>Ue hb h2 h3 s
 | s_out h h2 h3 h4=>intro ok hp; exact sx hb hp ok h _ fun s=>Rl hb hp h2 h3 h4 s
 | s_esc h h2 h3 h4 h5=>intro ok hp; exact sx hb hp ok h _ fun s=>Sf hb hp h2 h3 h4 h5 s
 | s_par h h2 h3=>
  intro ok hp;rcases h3 with h3 | h3
  ·exact sx hb hp ok h _ fun s=>KT hb h2 h3 s
  ·exact sx hb hp ok h _ fun s=>Lt hb h2 h3 s
 | @s_two a p lv h h2 h3 h4 h5 h6=>
  intro ok hp;by_cases h7:p=4
  ·subst h7;exact sx hb hp ok h _ fun s=>P6 hb h2 h3 h5 (h6 rfl).1 (h6 rfl).2 s
  ·exact sx hb hp ok h _ fun s=>QJ hb hp h2 h3 h4 h5 h7 s
 | q_err hl h k he=>intro ok hp; exact EM hb hp ok h _ fun s=>QI hb hl h k he s
 | q_ok hl h k c=>intro ok hp; exact EM hb hp ok h _ fun s=>J3 hb hl h k _ (fun s q f hq hI h7=>DR rfl (Ev hb hl h k) c hq f hI h7) s
 | q_nl hl h k c c2=>intro ok hp; exact EM hb hp ok h _ fun s=>J3 hb hl h k _ (fun s q f hq hI h7=>Eb rfl (Ev hb hl h k) c c2 hq f hI h7) s
 | q_no hl h k c c2=>intro ok hp; exact EM hb hp ok h _ fun s=>J3 hb hl h k _ (fun s q f hq hI h7=>CL rfl (Ev hb hl h k) c c2 hq f hI h7) s
 | x_brc h h2 k ih=>intro ok hp; have hl:=ce h; exact s7 hb hp ok h _ fun s=>RG hb hp h h2 _ (ih (by simp only [ew.ok]; omega) hp) s
 | x_deep h h2 hl h3 h4=>intro ok hp; exact s7 hb hp ok h _ fun s=>Nf hb hp h h2 hl h3 h4 s
 | @x_ari a p lv ps j h h2 hl h3 h4 k ih=>
  intro ok hp;have hB:=k.bound (by simp only [ew.ok]; omega);exact s7 hb hp ok h _ fun s=>Su hb hp h h2 hl h3 h4 ps j hB.2.1 (i7 (ih (by simp only [ew.ok]; omega) om om (by simp) fun x hx=>pB hx)) s
 | @x_ari0 a p lv x h h2 hl h3 h4 k ih=>
  intro ok hp;obtain⟨x,e⟩:=x;exact s7 hb hp ok h _ fun s=>NE hb hp h h2 hl h3 h4 x e (k.err _ rfl) (i7 (ih (by simp only [ew.ok]; omega) om om (by simp) fun x hx=>pB hx)) s
 | @x_cmd a p lv r h h2 h3 k=>
  intro ok hp;have hl:=ce h;have hB:=k.bound ⟨om,om⟩;have hB2:=hB.2 rfl;simp only [gH.at] at hB2;exact s7 hb hp ok h _ fun s=>Sy hb hp h h2 h3 r om hB.1 (qW hb2 (.p_exp (p:=rT p) h (.e_cmd h2 h3 k)) ok) s
 | @x_cmd0 a p lv r e h h2 h3 k he=>intro ok hp; exact s7 hb hp ok h _ fun s=>NB hb hp h h2 h3 r e he (qW hb2 (.p_exp (p:=rT p) h (.e_cmd h2 h3 k)) ok) s
 | x_sp h h2=>intro ok hp; exact s7 hb hp ok h _ fun s=>TV hb hp h h2 s
 | x_long h h2 h3 h4 h5=>intro ok hp; exact s7 hb hp ok h _ fun s=>MG hb hp h h2 h3 h4 om s
 | x_nm h h2 h3 h4 h5=>intro ok hp; exact s7 hb hp ok h _ fun s=>U6 hb hp h h2 h3 h4 om s
 | x_bad hl h h2 h3 h4=>
  intro ok hp;rcases h4 with h4 | h4
  ·exact Fb hb hp hl h _ fun s=>Mo hb hp hl h2 h3 h4.1 h4.2 s
  ·exact Fb hb hp hl h _ fun s=>Ob hb hp hl h2 h3 h4 s
 | x_lit hl h h2 h3=>intro ok hp; exact Fb hb hp hl h _ fun s=>QX hb hp hl h2 h3 s
 | t_sq0 hl h h2 h3=>intro ok hp; exact C0 hb hp hl (.inl h) h2 _ fun s=>Rc hb hl h om (qW hb2 (.p_sq0 hl h h3) ok) s
 | @t_sq a p lv hl h h2 h3=>intro ok hp; have hg:=oJ (fun x=>x != 39) b.data.toList (a + 1); exact C0 hb hp hl (.inl h) h2 _ fun s=>V9 hb hl h (by unfold cQ at *; omega) om (qW hb2 (.p_sq hl h h3) ok) s
 | t_deep hl h h2 h3=>intro ok hp; exact C0 hb hp hl (.inr h) h2 _ fun s=>OO hb hl h h3 s
 | @t_dq a p lv ps j hl h h2 h3 k ih=>
  intro ok hp;have hB:=k.bound (by simp only [ew.ok]; omega);exact C0 hb hp hl (.inr h) h2 _ fun s=>Va hb hl h h3 ps j hB.2.1 (i7 (ih (by simp only [ew.ok]; omega) om om (by simp) fun x hx=>pB hx)) s
 | @t_dq0 a p lv x hl h h2 h3 k ih=>
  intro ok hp;obtain⟨x,e⟩:=x;exact C0 hb hp hl (.inr h) h2 _ fun s=>Qa hb hl h h3 x e (k.err _ rfl) (i7 (ih (by simp only [ew.ok]; omega) om om (by simp) fun x hx=>pB hx)) s
 | o_op hl h=>intro ok hp; exact fun s=>Uj hb hl h s
 | o_dq hl h=>intro ok hp; exact fun s=>QZ hb hl h s
 | @o_lit a p lv hl h1 h2 h3 h4 h5 h6=>
  intro ok hp;by_cases h0:p=0
  ·subst h0;have h7:=h5 rfl;unfold cu at h7;rw [Bool.or_eq_false_iff,Bool.or_eq_false_iff] at h7;exact fun s=>N5 hb hl h1 h2 h3 (h4 rfl).1 (h4 rfl).2 h7.1.1 h7.1.2 h7.2 s
  ·exact fun s=>SS hb hp hl h1 h2 h3 h4 h0 h6 s
 | r_long hl h k h2=>intro ok hp; have hd:=k.bd hl; exact fun s=>Mh hb ok hl h hd.2 hd.1 (hPar k hl) om s
 | r_len hl h k h2 h3 h4 h5=>intro ok hp; have hd:=k.bd hl; exact fun s=>SJ hb ok hl h hd.2 hd.1 (hPar k hl) om h3 h4 h5 s
 | r_end hl h k h2 h3 h4=>intro ok hp; have hd:=k.bd hl; exact fun s=>S9 hb ok hl h hd.2 hd.1 (hPar k hl) om h3 h4 s
 | @r_sharp a p lv j r hl h k h2 h3 k2 ih=>
  intro ok hp;have hd:=k.bd hl;by_cases h4:a + 3 < j
  ·exact fun s=>GP hb ok hl h hd.2 hd.1 (hPar k hl) om h4 (h3 h4).1 (h3 h4).2 r (ih ok hp) s
  ·exact fun s=>GZ hb ok hl h hd.2 hd.1 (hPar k hl) om h4 r (ih ok hp) s
 | @r_two a p lv r h k2 ih=>
  intro ok hp;by_cases h4:a + 2 < b.data.toList.length
  ·exact fun s=>ML hb ok h4 (h h4) r (ih ok hp) s
  ·exact fun s=>Mr hb ok h4 r (ih ok hp) s
 | w_long k h=>intro ok hp; have hd:=k.bd ok; exact LV hb hd.2 (hPar k ok) hd.1 h
 | w_end k h h2=>intro ok hp; have hd:=k.bd ok; exact Qr hb hd.2 (hPar k ok) hd.1 h h2
 | w_none k h2=>intro ok hp; exact NC hb ok (hPar k ok) rfl h2
 | w_plain k h h2 h3 h4=>intro ok hp; exact Jz hb om (hPar k ok) h h2 h3 h4
 | w_colon0 k h h2 h3 h4 h5 h6 h7=>intro ok hp; exact I0 hb om (hPar k ok) h h2 h3 (i9 hb2 h2) h4 h5 h6 h7
 | w_colon k h h2 h3 h4 h5 h6 h7=>intro ok hp; exact Lm hb om (hPar k ok) h h2 h3 (i9 hb2 h2) h4 h5 h6 h7
 | w_sharp k h h2 h3 h4 h5 h6 h7 k2=>intro ok hp; exact Lj hb om (hPar k ok) h h2 h3 (i9 hb2 h2) h4 h5 h6 h7 (hPar k2 om)
 | w_bad k h h2 h3 h4 h5 h6 h7=>intro ok hp; exact QP hb om (hPar k ok) h h2 h3 (i9 hb2 h2) h4 h5 h6 h7
 | w_deep k h h2 h3 h4 h5 h6=>intro ok hp; exact Pn hb om (hPar k ok) h h2 h3 (i9 hb2 h2) h4 h5 h6
 | w_join k h h2 h3 h4 h5 h6 h7=>intro ok hp; exact OJ hb om (hPar k ok) h h2 h3 (i9 hb2 h2) h4 h5 h6 (mZ _ _ h2 h5).1 h7
 | @w_err a p lv j x k h h2 h3 h4 h5 h6 h7 k2 ih=>
  intro ok hp;obtain⟨x,e⟩:=x;have hw:=vn p;exact SA hb om (hPar k ok) h h2 h3 (i9 hb2 h2) h4 h5 h6 hp (mZ _ _ h2 h5).1 h7 (k2.err _ rfl) (i7 (ih (mZ _ _ h2 h5).1 hw.2.2.2 om (by simp) fun x hx=>pB hx))
 | @w_ok a p lv j ps i k h h2 h3 h4 h5 h6 h7 k2 ih=>
  intro ok hp;have hw:=vn p;have hB:=k2.bound (mZ _ _ h2 h5).1;exact U8 hb om (hPar k ok) h h2 h3 (i9 hb2 h2) h4 h5 h6 hp (mZ _ _ h2 h5).1 h7 (hB.2.2.1 hw.1 hw.2.1) (i7 (ih (mZ _ _ h2 h5).1 hw.2.2.2 om (by simp) fun x hx=>pB hx))
end Go.Proofs.YtokdflgpbfjpcaaGreatDoor
