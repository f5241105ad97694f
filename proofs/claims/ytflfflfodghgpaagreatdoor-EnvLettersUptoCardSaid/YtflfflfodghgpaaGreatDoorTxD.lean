/- What functions of the program and of the reference compute, on values. No statement is proved here. -/
import Derived.Test.YtflfflfodghgpaaGreatDoorTxC
import Derived.Laws.Strings
set_option linter.unusedSimpArgs false
set_option linter.unusedVariables false
namespace Go.Mir
inductive aT where
 | mk (kind:Int) (text:List UInt8) (op:Int) (colon:Bool) (parts:List aT)
def aT.kind:aT→Int | .mk k _ _ _ _=>k
def aT.text:aT→List UInt8 | .mk _ t _ _ _=>t
def aT.op:aT→Int | .mk _ _ o _ _=>o
def aT.colon:aT→Bool | .mk _ _ _ c _=>c
def aT.parts:aT→List aT | .mk _ _ _ _ p=>p
def fG (t:List UInt8):aT:=.mk 1 t 0 false []
def tP (t:List UInt8):aT:=.mk 2 t 0 false []
def FP (t:List UInt8):aT:=.mk 5 t 0 false []
def pF:aT:=.mk 7 [] 0 false []
def sg (t:List UInt8):aT:=.mk 4 t 0 false []
def cL (p:Nat):Bool:=p == 0 || p == 1
def ql (p:Nat):Nat:=if p=0∨p=1 then 0 else if p=2∨p=3 then 1 else 2
def dQ (p:Nat):Nat:=if p=0∨p=1 then 1 else if p=2∨p=3 then 3 else 6
def sub (l:List UInt8) (a b:Nat):List UInt8:=(l.drop a).take (b - a)
def lz (l:List aT) (t:List UInt8):List aT:=match l.getLast? with
 | some p=>if p.kind=1 then l.dropLast ++ [fG (p.text ++ t)] else l ++ [fG t]
 | none=>[fG t]
def lZ (l:List aT) (p:aT):List aT:=if p.kind=1 then lz l p.text else l ++ [p]
inductive sL (l:List UInt8):Nat→Nat→Prop where
 | stop {i} (h:cF l i=false):sL l i i
 | step {i j} (h:cF l i=true) (k:sL l (i + 2) j):sL l i j
inductive lu (l:List UInt8) (a p:Nat):Bool→Prop where
 | no (h:(cL p && bt l a == 126)=false):lu l a p false
 | yes {j} (h:cL p=true) (h2:bt l a=126) (k:sL l (a + 1) j):lu l a p (decide (l.length≤j) || bt l j == 47 || (p == 1 && bt l j == 125))
def fe (c p o:Nat):Bool:=((p == 1 || p == 3 || p == 6) && c == 125) || (p == 2 && c == 34) || (p == 4 && c == 41 && o == 0)
def bP (c p:Nat):Bool:=(c == 36 || c == 96 || c == 92) || (c == 34 && (p == 2 || p == 3)) || (c == 125 && (p == 3 || p == 6))
def wrap (t:List UInt8):List UInt8:=36 :: 40 :: (t ++ [41])
inductive Closed (t:List UInt8):Bool→Prop where
 | mk {r e} (k:Lx (wrap t) (.pass 0 0) r e):Closed t (e == 0 && r == t.length + 3 && (t.isEmpty || t.head? != some 40))
def oO:List UInt8→List UInt8
 | []=>[]
 | [c]=>[c]
 | c :: d :: l=>if c=92∧(d=96∨d=92∨d=36) then d :: oO l else c :: oO (d :: l)
def fm (t:List UInt8):List UInt8:=if t.head?=some 40 then 32 :: t else t
inductive yM (l:List UInt8):Nat→Nat→Nat→Prop where
 | stop {v i} (h:l.length≤i∨bC (bt l i)=false∨2147483647 < 10 * v + (bt l i - 48)):yM l v i i
 | step {v i j} (h:i < l.length) (h2:bC (bt l i)=true) (h3 : 10 * v + (bt l i - 48)≤2147483647) (k:yM l (10 * v + (bt l i - 48)) (i + 1) j):yM l v i j
inductive i7 (l:List UInt8):Nat→Nat→Prop where
 | none0 {i} (h:l.length≤i):i7 l i i
 | zero {i} (hl:i < l.length) (h:bt l i=48):i7 l i (i + 1)
 | num {i j} (hl:i < l.length) (h:bC (bt l i)=true) (h2:bt l i≠48) (k:yM l 0 i j):i7 l i j
 | name {i} (hl:i < l.length) (h:bC (bt l i)=false) (h2:dV (bt l i)=true):i7 l i (dP l i)
 | spec {i} (hl:i < l.length) (h:bC (bt l i)=false) (h2:cd (bt l i)=true):i7 l i (i + 1)
 | none {i} (hl:i < l.length) (h:dV (bt l i)=false) (h2:cd (bt l i)=false):i7 l i i
def lU (l:List UInt8) (a:Nat):Int × Bool × Nat:=
 if decide (l.length≤a + 1) then (0,false,0) else
 if bt l (a + 1) == 45 then (1,true,a + 1 - a + 1) else
 if bt l (a + 1) == 61 then (2,true,a + 1 - a + 1) else
 if bt l (a + 1) == 63 then (3,true,a + 1 - a + 1) else
 if bt l (a + 1) == 43 then (4,true,a + 1 - a + 1) else (0,false,0)
def mj (l:List UInt8) (a:Nat):Int × Bool × Nat:=
 if bt l a == 45 then (1,false,a - a + 1) else
 if bt l a == 61 then (2,false,a - a + 1) else
 if bt l a == 63 then (3,false,a - a + 1) else
 if bt l a == 43 then (4,false,a - a + 1) else
 if bt l a == 37 && (decide (a + 1 < l.length) && bt l (a + 1) == 37) then (7,false,2) else
 if bt l a == 37 then (6,false,1) else
 if bt l a == 35 && (decide (a + 1 < l.length) && bt l (a + 1) == 35) then (9,false,2) else
 if bt l a == 35 then (8,false,1) else (0,false,0)
def kO (l:List UInt8) (a:Nat):Int × Bool × Nat:=if bt l a == 58 then lU l a else mj l a
def iR (o:Int):List UInt8:=
 if o == 1 then [45] else if o == 2 then [61] else if o == 3 then [63] else if o == 4 then [43] else
 if o == 6 then [37] else if o == 7 then [37,37] else if o == 8 then [35] else if o == 9 then [35,35] else []
def dZ (l:List UInt8):Nat:=l.foldl (fun v c=>10 * v + (c.toNat - 48)) 0
def vz (l:List UInt8):Bool:=decide (l.length≤10) && !(bt l 0 == 48 && decide (1 < l.length)) && decide (dZ l≤2147483647)
abbrev R:=Except (Nat × Nat) (List aT × Nat)
inductive dO where
 | loop (a p lv fr o:Nat) (acc:List aT)
 | part (a p lv:Nat)
 | brc (a p lv:Nat)
 | brc2 (a p lv:Nat)
inductive Wx (l:List UInt8):dO→R→Prop where
 | l_end {p lv fr o acc} (h:p=0∨p=5):Wx l (.loop l.length p lv fr o acc) (.ok (acc,l.length))
 | l_open {p lv fr o acc} (h:p≠0) (h2:p≠5):Wx l (.loop l.length p lv fr o acc) (.error (fr,7))
 | l_q {a p lv fr o acc} (hl:a < l.length) (h:fe (bt l a) p o=true) (h2:p≠4):Wx l (.loop a p lv fr o acc) (.ok (acc,a))
 | l_a0 {a lv fr o acc} (h:fe (bt l a) 4 o=true) (h2:a + 1=l.length):Wx l (.loop a 4 lv fr o acc) (.error (fr,7))
 | l_a {a lv fr o acc} (h:fe (bt l a) 4 o=true) (h2:a + 1 < l.length) (h3:bt l (a + 1)=41):Wx l (.loop a 4 lv fr o acc) (.ok (acc,a))
 | l_a1 {a lv fr o acc} (h:fe (bt l a) 4 o=true) (h2:a + 1 < l.length) (h3:bt l (a + 1)≠41):Wx l (.loop a 4 lv fr o acc) (.error (a,6))
 | l_tilde {a p lv fr o r} (hl:a < l.length) (h:fe (bt l a) p o=false) (h2:lu l a p true) (k:Wx l (.loop (a + 1) p lv fr o [pF]) r):Wx l (.loop a p lv fr o []) r
 | l_err {a p lv fr o acc x} (hl:a < l.length) (h:fe (bt l a) p o=false) (h2:acc=[]→lu l a p false) (k:Wx l (.part a p lv) (.error x)):Wx l (.loop a p lv fr o acc) (.error x)
 | l_on {a p lv fr o acc ps j r} (hl:a < l.length) (h:fe (bt l a) p o=false) (h2:acc=[]→lu l a p false) (k:Wx l (.part a p lv) (.ok (ps,j))) (k2:Wx l (.loop j p lv fr (if p=4 then cI (bt l a) o else o) (ps.foldl lZ acc)) r):Wx l (.loop a p lv fr o acc) r
 | s_end5 {a lv} (h:bt l a=92) (h2:a + 1=l.length):Wx l (.part a 5 lv) (.ok ([fG [92]],a + 1))
 | s_end {a p lv} (h:bt l a=92) (h2:a + 1=l.length) (h3:p≠5):Wx l (.part a p lv) (.error (a,7))
 | s_nl {a p lv} (h:bt l a=92) (h2:a + 1 < l.length) (h3:bt l (a + 1)=10):Wx l (.part a p lv) (.ok ([],a + 2))
 | s_out {a p lv} (h:bt l a=92) (h2:a + 1 < l.length) (h3:bt l (a + 1)≠10) (h4:cL p=true):Wx l (.part a p lv) (.ok ([tP (sub l (a + 1) (a + 2))],a + 2))
 | s_esc {a p lv} (h:bt l a=92) (h2:a + 1 < l.length) (h3:bt l (a + 1)≠10) (h4:cL p=false) (h5:bP (bt l (a + 1)) p=true):Wx l (.part a p lv) (.ok ([fG (sub l (a + 1) (a + 2))],a + 2))
 | s_par {a lv} (h:bt l a=92) (h2:a + 1 < l.length) (h3:bt l (a + 1)=40∨bt l (a + 1)=41):Wx l (.part a 4 lv) (.error (a,6))
 | s_two {a p lv} (h:bt l a=92) (h2:a + 1 < l.length) (h3:bt l (a + 1)≠10) (h4:cL p=false) (h5:bP (bt l (a + 1)) p=false) (h6:p=4→bt l (a + 1)≠40∧bt l (a + 1)≠41):Wx l (.part a p lv) (.ok ([fG (sub l a (a + 2))],a + 2))
 | q_err {a p lv r e} (hl:a < l.length) (h:bt l a=96) (k:Lx l (.bq (a + 1) a) r e) (he:e≠0):Wx l (.part a p lv) (.error (r,e))
 | q_ok {a p lv r} (hl:a < l.length) (h:bt l a=96) (k:Lx l (.bq (a + 1) a) r 0) (c:Closed (fm (oO (sub l (a + 1) (r - 1)))) true):Wx l (.part a p lv) (.ok ([FP (fm (oO (sub l (a + 1) (r - 1))))],r))
 | q_nl {a p lv r} (hl:a < l.length) (h:bt l a=96) (k:Lx l (.bq (a + 1) a) r 0) (c:Closed (fm (oO (sub l (a + 1) (r - 1)))) false) (c2:Closed (fm (oO (sub l (a + 1) (r - 1))) ++ [10]) true):Wx l (.part a p lv) (.ok ([FP (fm (oO (sub l (a + 1) (r - 1))) ++ [10])],r))
 | q_no {a p lv r} (hl:a < l.length) (h:bt l a=96) (k:Lx l (.bq (a + 1) a) r 0) (c:Closed (fm (oO (sub l (a + 1) (r - 1)))) false) (c2:Closed (fm (oO (sub l (a + 1) (r - 1))) ++ [10]) false):Wx l (.part a p lv) (.error (a,6))
 | x_brc {a p lv r} (h:bZ l a=true) (h2:bt l (a + 1)=123) (k:Wx l (.brc a p lv) r):Wx l (.part a p lv) r
 | x_deep {a p lv} (h:bZ l a=true) (h2:bt l (a + 1)=40) (hl:a + 2 < l.length) (h3:bt l (a + 2)=40) (h4 : 32≤lv):Wx l (.part a p lv) (.error (a,5))
 | x_ari {a p lv ps j} (h:bZ l a=true) (h2:bt l (a + 1)=40) (hl:a + 2 < l.length) (h3:bt l (a + 2)=40) (h4:lv < 32) (k:Wx l (.loop (a + 3) 4 (lv + 1) a 0 []) (.ok (ps,j))):Wx l (.part a p lv) (.ok ([.mk 6 [] 0 false ps],j + 2))
 | x_ari0 {a p lv x} (h:bZ l a=true) (h2:bt l (a + 1)=40) (hl:a + 2 < l.length) (h3:bt l (a + 2)=40) (h4:lv < 32) (k:Wx l (.loop (a + 3) 4 (lv + 1) a 0 []) (.error x)):Wx l (.part a p lv) (.error x)
 | x_cmd {a p lv r} (h:bZ l a=true) (h2:bt l (a + 1)=40) (h3:a + 2 < l.length→bt l (a + 2)≠40) (k:Lx l (.cmd (a + 2) a 1 true) r 0):Wx l (.part a p lv) (.ok ([FP (sub l (a + 2) (r - 1))],r))
 | x_cmd0 {a p lv r e} (h:bZ l a=true) (h2:bt l (a + 1)=40) (h3:a + 2 < l.length→bt l (a + 2)≠40) (k:Lx l (.cmd (a + 2) a 1 true) r e) (he:e≠0):Wx l (.part a p lv) (.error (r,e))
 | x_sp {a p lv} (h:bZ l a=true) (h2:cd (bt l (a + 1))=true):Wx l (.part a p lv) (.ok ([sg (sub l (a + 1) (a + 2))],a + 2))
 | x_long {a p lv} (h:bZ l a=true) (h2:cd (bt l (a + 1))=false) (h3:bt l (a + 1)≠123) (h4:bt l (a + 1)≠40) (h5 : 32 < dP l (a + 1) - (a + 1)):Wx l (.part a p lv) (.error (a,3))
 | x_nm {a p lv} (h:bZ l a=true) (h2:cd (bt l (a + 1))=false) (h3:bt l (a + 1)≠123) (h4:bt l (a + 1)≠40) (h5:dP l (a + 1) - (a + 1)≤32):Wx l (.part a p lv) (.ok ([sg (sub l (a + 1) (dP l (a + 1)))],dP l (a + 1)))
 | x_bad {a p lv} (hl:a < l.length) (h:bt l a=36) (h2:bZ l a=false) (h3:cL p=true) (h4:(a + 1 < l.length∧bt l (a + 1)=96)∨cF l (a + 1)=true):Wx l (.part a p lv) (.error (a,6))
 | x_lit {a p lv} (hl:a < l.length) (h:bt l a=36) (h2:bZ l a=false) (h3:cL p=true→¬ (a + 1 < l.length∧bt l (a + 1)=96)∧cF l (a + 1)=false):Wx l (.part a p lv) (.ok ([fG [36]],a + 1))
 | t_sq0 {a p lv} (hl:a < l.length) (h:bt l a=39) (h2:cL p=true) (h3:cu l 39 (a + 1)=l.length):Wx l (.part a p lv) (.error (a,7))
 | t_sq {a p lv} (hl:a < l.length) (h:bt l a=39) (h2:cL p=true) (h3:cu l 39 (a + 1) < l.length):Wx l (.part a p lv) (.ok ([tP (sub l (a + 1) (cu l 39 (a + 1)))],cu l 39 (a + 1) + 1))
 | t_deep {a p lv} (hl:a < l.length) (h:bt l a=34) (h2:cL p=true) (h3 : 32≤lv):Wx l (.part a p lv) (.error (a,5))
 | t_dq {a p lv ps j} (hl:a < l.length) (h:bt l a=34) (h2:cL p=true) (h3:lv < 32) (k:Wx l (.loop (a + 1) 2 (lv + 1) a 0 []) (.ok (ps,j))):Wx l (.part a p lv) (.ok ([.mk 3 [] 0 false ps],j + 1))
 | t_dq0 {a p lv x} (hl:a < l.length) (h:bt l a=34) (h2:cL p=true) (h3:lv < 32) (k:Wx l (.loop (a + 1) 2 (lv + 1) a 0 []) (.error x)):Wx l (.part a p lv) (.error x)
 | o_op {a lv} (hl:a < l.length) (h:bR (bt l a)=true):Wx l (.part a 0 lv) (.error (a,6))
 | o_dq {a lv} (hl:a < l.length) (h:bt l a=34):Wx l (.part a 3 lv) (.error (a,6))
 | o_lit {a p lv} (hl:a < l.length) (h1:bt l a≠92) (h2:bt l a≠96) (h3:bt l a≠36) (h4:cL p=true→bt l a≠39∧bt l a≠34) (h5:p=0→bR (bt l a)=false) (h6:p=3→bt l a≠34):Wx l (.part a p lv) (.ok ([fG (sub l a (a + 1))],a + 1))
 | r_long {a p lv j} (hl:a + 2 < l.length) (h:bt l (a + 2)=35) (k:i7 l (a + 3) j) (h2 : 32 < j - (a + 3)):Wx l (.brc a p lv) (.error (a + 3,3))
 | r_len {a p lv j} (hl:a + 2 < l.length) (h:bt l (a + 2)=35) (k:i7 l (a + 3) j) (h2:j - (a + 3)≤32) (h3:a + 3 < j) (h4:j < l.length) (h5:bt l j=125):Wx l (.brc a p lv) (.ok ([.mk 4 (sub l (a + 3) j) 5 false []],j + 1))
 | r_end {a p lv j} (hl:a + 2 < l.length) (h:bt l (a + 2)=35) (k:i7 l (a + 3) j) (h2:j - (a + 3)≤32) (h3:a + 3 < j) (h4:j=l.length):Wx l (.brc a p lv) (.error (a,7))
 | r_sharp {a p lv j r} (hl:a + 2 < l.length) (h:bt l (a + 2)=35) (k:i7 l (a + 3) j) (h2:j - (a + 3)≤32) (h3:a + 3 < j→j < l.length∧bt l j≠125) (k2:Wx l (.brc2 a p lv) r):Wx l (.brc a p lv) r
 | r_two {a p lv r} (h:a + 2 < l.length→bt l (a + 2)≠35) (k2:Wx l (.brc2 a p lv) r):Wx l (.brc a p lv) r
 | w_long {a p lv j} (k:i7 l (a + 2) j) (h : 32 < j - (a + 2)):Wx l (.brc2 a p lv) (.error (a + 2,3))
 | w_end {a p lv j} (k:i7 l (a + 2) j) (h:j - (a + 2)≤32) (h2:j=l.length):Wx l (.brc2 a p lv) (.error (a,7))
 | w_none {a p lv} (k:i7 l (a + 2) (a + 2)) (h2:a + 2 < l.length):Wx l (.brc2 a p lv) (.error (a + 2,6))
 | w_plain {a p lv j} (k:i7 l (a + 2) j) (h:j - (a + 2)≤32) (h2:j < l.length) (h3:a + 2 < j) (h4:bt l j=125):Wx l (.brc2 a p lv) (.ok ([sg (sub l (a + 2) j)],j + 1))
 | w_colon0 {a p lv j} (k:i7 l (a + 2) j) (h:j - (a + 2)≤32) (h2:j < l.length) (h3:a + 2 < j) (h4:bt l j≠125) (h5:(kO l j).1=0) (h6:bt l j=58) (h7:j + 1=l.length):Wx l (.brc2 a p lv) (.error (a,7))
 | w_colon {a p lv j} (k:i7 l (a + 2) j) (h:j - (a + 2)≤32) (h2:j < l.length) (h3:a + 2 < j) (h4:bt l j≠125) (h5:(kO l j).1=0) (h6:bt l j=58) (h7:j + 1 < l.length):Wx l (.brc2 a p lv) (.error (j + 1,6))
 | w_sharp {a p lv j i} (k:i7 l (a + 2) j) (h:j - (a + 2)≤32) (h2:j < l.length) (h3:a + 2 < j) (h4:bt l j≠125) (h5:(kO l j).1=0) (h6:bt l j≠58) (h7:bt l (a + 2)=35) (k2:i7 l (a + 3) i):Wx l (.brc2 a p lv) (.error (i,6))
 | w_bad {a p lv j} (k:i7 l (a + 2) j) (h:j - (a + 2)≤32) (h2:j < l.length) (h3:a + 2 < j) (h4:bt l j≠125) (h5:(kO l j).1=0) (h6:bt l j≠58) (h7:bt l (a + 2)≠35):Wx l (.brc2 a p lv) (.error (j,6))
 | w_deep {a p lv j} (k:i7 l (a + 2) j) (h:j - (a + 2)≤32) (h2:j < l.length) (h3:a + 2 < j) (h4:bt l j≠125) (h5:(kO l j).1≠0) (h6 : 32≤lv):Wx l (.brc2 a p lv) (.error (j,5))
 | w_join {a p lv j} (k:i7 l (a + 2) j) (h:j - (a + 2)≤32) (h2:j < l.length) (h3:a + 2 < j) (h4:bt l j≠125) (h5:(kO l j).1≠0) (h6:lv < 32) (h7:cF l (j + (kO l j).2.2)=true):Wx l (.brc2 a p lv) (.error (j + (kO l j).2.2,6))
 | w_err {a p lv j x} (k:i7 l (a + 2) j) (h:j - (a + 2)≤32) (h2:j < l.length) (h3:a + 2 < j) (h4:bt l j≠125) (h5:(kO l j).1≠0) (h6:lv < 32) (h7:cF l (j + (kO l j).2.2)=false) (k2:Wx l (.loop (j + (kO l j).2.2) (dQ p) (lv + 1) a 0 []) (.error x)):Wx l (.brc2 a p lv) (.error x)
 | w_ok {a p lv j ps i} (k:i7 l (a + 2) j) (h:j - (a + 2)≤32) (h2:j < l.length) (h3:a + 2 < j) (h4:bt l j≠125) (h5:(kO l j).1≠0) (h6:lv < 32) (h7:cF l (j + (kO l j).2.2)=false) (k2:Wx l (.loop (j + (kO l j).2.2) (dQ p) (lv + 1) a 0 []) (.ok (ps,i))):Wx l (.brc2 a p lv) (.ok ([.mk 4 (sub l (a + 2) j) (kO l j).1 (kO l j).2.1 ps],i + 1))
end Go.Mir
set_option linter.unusedSimpArgs false
namespace Go.Proofs.YtflfflfodghgpaaGreatDoor
open Go Go.EvL Go.PE Go.Mir
variable {ext:ai}{b:ByteArray}
theorem ad {a c:Nat} (h:(a == c)=false):a≠c:=beq_eq_false_iff_ne.1 h
theorem aZ {p:Nat} (hp:p≤6) (s:PS):Pc ext 329 [iN p] (.sc (.bool (cL p))) s:=by
 have hc:p=0∨p=1∨p=2∨p=3∨p=4∨p=5∨p=6:=om;refine q1 Og 2 ?_;unfold Og;rcases hc with rfl | rfl | rfl | rfl | rfl | rfl | rfl
 ·exact bh
 ·exact bh
 ·exact bh
 ·exact bh
 ·exact bh
 ·exact bh
 ·exact bh
theorem qL {p:Nat} (hp:p≤6) (s:PS):Pc ext 397 [iN p] (.sc (.int .i64 (ql p))) s:=by
 have hc:p=0∨p=1∨p=2∨p=3∨p=4∨p=5∨p=6:=om;refine q1 P6 2 ?_;unfold P6;rcases hc with rfl | rfl | rfl | rfl | rfl | rfl | rfl
 ·exact bh
 ·exact bh
 ·exact bh
 ·exact bh
 ·exact bh
 ·exact bh
 ·exact bh
theorem qA {p:Nat} (hp:p≤6) (s:PS):Pc ext 354 [iN p] (.sc (.int .i64 (dQ p))) s:=by
 have hc:p=0∨p=1∨p=2∨p=3∨p=4∨p=5∨p=6:=om;refine q1 Pb 2 ?_;unfold Pb;rcases hc with rfl | rfl | rfl | rfl | rfl | rfl | rfl
 ·exact bh
 ·exact bh
 ·exact bh
 ·exact bh
 ·exact bh
 ·exact bh
 ·exact bh
theorem j5 {c p:Nat} (hp:p≤6) (s:PS):Pc ext 352 [.sc (.int .u8 (c:Int)),iN p] (.sc (.bool (bP c p))) s:=by
 have hc:p=0∨p=1∨p=2∨p=3∨p=4∨p=5∨p=6:=om;refine q1 Qt 4 ?_;unfold Qt;rcases hc with rfl | rfl | rfl | rfl | rfl | rfl | rfl
 ·cases c1:(c == 36) with
  | false=>
   have c1p:=ad c1;cases c2:(c == 96) with
   | false=>
    have c2p:=ad c2;cases c3:(c == 92) with
    | false=>
     have c3p:=ad c3;cases c4:(c == 34) with
     | false=>
      have c4p:=ad c4;cases c5:(c == 125) with
      | false=>
       have c5p:=ad c5;exact kU @bP.eq_1 c1 c2 c3 c4 c5
      | true=>
       have c5p:=eq_of_beq c5;exact kU @bP.eq_1 c1 c2 c3 c4 c5
     | true=>
      have c4p:=eq_of_beq c4;cases c6:(c == 125) with
      | false=>
       have c6p:=ad c6;exact kU @bP.eq_1 c1 c2 c3 c4 c6
      | true=>
       have c6p:=eq_of_beq c6;exact kU @bP.eq_1 c1 c2 c3 c4 c6
    | true=>
     have c3p:=eq_of_beq c3;exact qs @bP.eq_1 c1 c2 c3
   | true=>
    have c2p:=eq_of_beq c2;exact jC @bP.eq_1 c1 c2
  | true=>
   have c1p:=eq_of_beq c1;exact qf @bP.eq_1 c1
 ·cases c1:(c == 36) with
  | false=>
   have c1p:=ad c1;cases c2:(c == 96) with
   | false=>
    have c2p:=ad c2;cases c3:(c == 92) with
    | false=>
     have c3p:=ad c3;cases c4:(c == 34) with
     | false=>
      have c4p:=ad c4;cases c5:(c == 125) with
      | false=>
       have c5p:=ad c5;exact kU @bP.eq_1 c1 c2 c3 c4 c5
      | true=>
       have c5p:=eq_of_beq c5;exact kU @bP.eq_1 c1 c2 c3 c4 c5
     | true=>
      have c4p:=eq_of_beq c4;cases c6:(c == 125) with
      | false=>
       have c6p:=ad c6;exact kU @bP.eq_1 c1 c2 c3 c4 c6
      | true=>
       have c6p:=eq_of_beq c6;exact kU @bP.eq_1 c1 c2 c3 c4 c6
    | true=>
     have c3p:=eq_of_beq c3;exact qs @bP.eq_1 c1 c2 c3
   | true=>
    have c2p:=eq_of_beq c2;exact jC @bP.eq_1 c1 c2
  | true=>
   have c1p:=eq_of_beq c1;exact qf @bP.eq_1 c1
 ·cases c1:(c == 36) with
  | false=>
   have c1p:=ad c1;cases c2:(c == 96) with
   | false=>
    have c2p:=ad c2;cases c3:(c == 92) with
    | false=>
     have c3p:=ad c3;cases c4:(c == 34) with
     | false=>
      have c4p:=ad c4;cases c5:(c == 125) with
      | false=>
       have c5p:=ad c5;exact kU @bP.eq_1 c1 c2 c3 c4 c5
      | true=>
       have c5p:=eq_of_beq c5;exact kU @bP.eq_1 c1 c2 c3 c4 c5
     | true=>
      have c4p:=eq_of_beq c4;exact tI @bP.eq_1 c1 c2 c3 c4
    | true=>
     have c3p:=eq_of_beq c3;exact qs @bP.eq_1 c1 c2 c3
   | true=>
    have c2p:=eq_of_beq c2;exact jC @bP.eq_1 c1 c2
  | true=>
   have c1p:=eq_of_beq c1;exact qf @bP.eq_1 c1
 ·cases c1:(c == 36) with
  | false=>
   have c1p:=ad c1;cases c2:(c == 96) with
   | false=>
    have c2p:=ad c2;cases c3:(c == 92) with
    | false=>
     have c3p:=ad c3;cases c4:(c == 34) with
     | false=>
      have c4p:=ad c4;cases c5:(c == 125) with
      | false=>
       have c5p:=ad c5;exact kU @bP.eq_1 c1 c2 c3 c4 c5
      | true=>
       have c5p:=eq_of_beq c5;exact kU @bP.eq_1 c1 c2 c3 c4 c5
     | true=>
      have c4p:=eq_of_beq c4;exact tI @bP.eq_1 c1 c2 c3 c4
    | true=>
     have c3p:=eq_of_beq c3;exact qs @bP.eq_1 c1 c2 c3
   | true=>
    have c2p:=eq_of_beq c2;exact jC @bP.eq_1 c1 c2
  | true=>
   have c1p:=eq_of_beq c1;exact qf @bP.eq_1 c1
 ·cases c1:(c == 36) with
  | false=>
   have c1p:=ad c1;cases c2:(c == 96) with
   | false=>
    have c2p:=ad c2;cases c3:(c == 92) with
    | false=>
     have c3p:=ad c3;cases c4:(c == 34) with
     | false=>
      have c4p:=ad c4;cases c5:(c == 125) with
      | false=>
       have c5p:=ad c5;exact kU @bP.eq_1 c1 c2 c3 c4 c5
      | true=>
       have c5p:=eq_of_beq c5;exact kU @bP.eq_1 c1 c2 c3 c4 c5
     | true=>
      have c4p:=eq_of_beq c4;cases c6:(c == 125) with
      | false=>
       have c6p:=ad c6;exact kU @bP.eq_1 c1 c2 c3 c4 c6
      | true=>
       have c6p:=eq_of_beq c6;exact kU @bP.eq_1 c1 c2 c3 c4 c6
    | true=>
     have c3p:=eq_of_beq c3;exact qs @bP.eq_1 c1 c2 c3
   | true=>
    have c2p:=eq_of_beq c2;exact jC @bP.eq_1 c1 c2
  | true=>
   have c1p:=eq_of_beq c1;exact qf @bP.eq_1 c1
 ·cases c1:(c == 36) with
  | false=>
   have c1p:=ad c1;cases c2:(c == 96) with
   | false=>
    have c2p:=ad c2;cases c3:(c == 92) with
    | false=>
     have c3p:=ad c3;cases c4:(c == 34) with
     | false=>
      have c4p:=ad c4;cases c5:(c == 125) with
      | false=>
       have c5p:=ad c5;exact kU @bP.eq_1 c1 c2 c3 c4 c5
      | true=>
       have c5p:=eq_of_beq c5;exact kU @bP.eq_1 c1 c2 c3 c4 c5
     | true=>
      have c4p:=eq_of_beq c4;cases c6:(c == 125) with
      | false=>
       have c6p:=ad c6;exact kU @bP.eq_1 c1 c2 c3 c4 c6
      | true=>
       have c6p:=eq_of_beq c6;exact kU @bP.eq_1 c1 c2 c3 c4 c6
    | true=>
     have c3p:=eq_of_beq c3;exact qs @bP.eq_1 c1 c2 c3
   | true=>
    have c2p:=eq_of_beq c2;exact jC @bP.eq_1 c1 c2
  | true=>
   have c1p:=eq_of_beq c1;exact qf @bP.eq_1 c1
 ·cases c1:(c == 36) with
  | false=>
   have c1p:=ad c1;cases c2:(c == 96) with
   | false=>
    have c2p:=ad c2;cases c3:(c == 92) with
    | false=>
     have c3p:=ad c3;cases c4:(c == 34) with
     | false=>
      have c4p:=ad c4;cases c5:(c == 125) with
      | false=>
       have c5p:=ad c5;exact kU @bP.eq_1 c1 c2 c3 c4 c5
      | true=>
       have c5p:=eq_of_beq c5;exact kU @bP.eq_1 c1 c2 c3 c4 c5
     | true=>
      have c4p:=eq_of_beq c4;cases c6:(c == 125) with
      | false=>
       have c6p:=ad c6;exact kU @bP.eq_1 c1 c2 c3 c4 c6
      | true=>
       have c6p:=eq_of_beq c6;exact kU @bP.eq_1 c1 c2 c3 c4 c6
    | true=>
     have c3p:=eq_of_beq c3;exact qs @bP.eq_1 c1 c2 c3
   | true=>
    have c2p:=eq_of_beq c2;exact jC @bP.eq_1 c1 c2
  | true=>
   have c1p:=eq_of_beq c1;exact qf @bP.eq_1 c1
theorem pR {i o p:Nat} (hp:p≤6) (hl:i < b.data.toList.length) (s:PS):Pc ext 347 [.sc (.string b),iN i,iN p,iN o] (.sc (.bool (fe (bt b.data.toList i) p o))) s:=by
 have hc:p=0∨p=1∨p=2∨p=3∨p=4∨p=5∨p=6:=om;refine q1 OM 8 ?_;unfold OM;rcases hc with rfl | rfl | rfl | rfl | rfl | rfl | rfl
 ·exact aL @fe.eq_1
 ·have n0:i < b.data.toList.length:=om;exact qf @fe.eq_1 n0
 ·have n0:i < b.data.toList.length:=om;exact qf @fe.eq_1 n0
 ·have n0:i < b.data.toList.length:=om;exact qf @fe.eq_1 n0
 ·cases c1:(bt b.data.toList i == 41) with
  | false=>
   have c1p:=ad c1;have n0:i < b.data.toList.length:=om;exact jC @fe.eq_1 c1 n0
  | true=>
   have c1p:=eq_of_beq c1;have n0:i < b.data.toList.length:=om;exact jC @fe.eq_1 c1 n0
 ·exact aL @fe.eq_1
 ·have n0:i < b.data.toList.length:=om;exact qf @fe.eq_1 n0
end Go.Proofs.YtflfflfodghgpaaGreatDoor
set_option linter.unusedSimpArgs false
namespace Go.PE
open Go Go.EvL
section
variable {P:Program}{Γ:Nat→Option fN}{ext:ai}
theorem HK {g r r2 r3:Nat}{fn:fN}{args:List PV}{s:PS}{u v w:Value} (hg:Γ g=some fn) (hl:args.length≤fn.nt) (hr:fn.res=[.tmp r,.tmp r2,.tmp r3]) (hk:fn.keep=false) (h:Er (fun f' s'=>s'=⟨s.h,s.n,s.n⟩∧f' r=.sc u∧f' r2=.sc v∧f' r3=.sc w) (aS P Γ ext fn.body (cK args 0) ⟨s.h,s.n,s.n⟩)):aU P Γ ext g args s=some (.tup [.sc u,.sc v,.sc w],s):=by
 refine ij hg hl h ?_;rintro f s' ⟨rfl,h,h2,h3⟩;exact fJ (vs:=[.sc u,.sc v,.sc w]) hk (by rw [hr]; simp only [ck,Option.map_some,h,h2,h3]) (Nat.le_refl _) rfl
end
end Go.PE
namespace Go.Proofs.YtflfflfodghgpaaGreatDoor
open Go Go.EvL Go.PE Go.Mir
variable {ext:ai}{b:ByteArray}
theorem gB (hb:b.data.toList.length < 4611686018427387904) {a:Nat} (hl:a < b.data.toList.length) (s:PS):Pc ext 404 [.sc (.string b),iN a] (.tup [.sc (.int .i64 (kO b.data.toList a).1),.sc (.bool (kO b.data.toList a).2.1),.sc (.int .i64 ((kO b.data.toList a).2.2:Int))]) s:=by
 refine HK (fn:=MY) (r:=4) (r2:=5) (r3:=6) (by rfl) (by simp [MY]) (by rfl) (by rfl) ?_;unfold MY;have e0:decide (b.data.toList.length≤a)=false:=df;cases c1:(bt b.data.toList a == 58) with
 | false=>
  have c1p:=ad c1;cases c2:(bt b.data.toList a == 45) with
  | false=>
   have c2p:=ad c2;cases c3:(bt b.data.toList a == 61) with
   | false=>
    have c3p:=ad c3;cases c4:(bt b.data.toList a == 63) with
    | false=>
     have c4p:=ad c4;cases c5:(bt b.data.toList a == 43) with
     | false=>
      have c5p:=ad c5;cases c6:(bt b.data.toList a == 37) with
      | false=>
       have c6p:=ad c6;cases c7:(bt b.data.toList a == 35) with
       | false=>
        have c7p:=ad c7;have n0:a < b.data.toList.length:=om;have n1:a≤a:=om;simp -implicitDefEqProofs (disch:=omega) only [ZS,seval,ZX,kO,lU,mj,e0,c1,c2,c3,c4,c5,c6,c7,n0,n1]
        all_goals first | rfl | exact⟨rfl,rfl,rfl⟩
       | true=>
        have c7p:=eq_of_beq c7;cases c8:decide (a + 1 < b.data.toList.length) with
        | false=>
         have c8p:=of_decide_eq_false c8;have n0:a < b.data.toList.length:=om;have n1:a≤a:=om;simp -implicitDefEqProofs (disch:=omega) only [ZS,seval,ZX,kO,lU,mj,e0,c1,c2,c3,c4,c5,c6,c7,c8,n0,n1]
         all_goals first | rfl | exact⟨rfl,rfl,rfl⟩
        | true=>
         have c8p:=of_decide_eq_true c8;cases c9:(bt b.data.toList (a + 1) == 35) with
         | false=>
          have c9p:=ad c9;have n0:a < b.data.toList.length:=om;have n1:a≤a:=om;have n2:a + 1 < b.data.toList.length:=om;simp -implicitDefEqProofs (disch:=omega) only [ZS,seval,ZX,kO,lU,mj,e0,c1,c2,c3,c4,c5,c6,c7,c8,c9,n0,n1,n2]
          all_goals first | rfl | exact⟨rfl,rfl,rfl⟩
         | true=>
          have c9p:=eq_of_beq c9;have n0:a < b.data.toList.length:=om;have n1:a≤a:=om;have n2:a + 1 < b.data.toList.length:=om;simp -implicitDefEqProofs (disch:=omega) only [ZS,seval,ZX,kO,lU,mj,e0,c1,c2,c3,c4,c5,c6,c7,c8,c9,n0,n1,n2]
          all_goals first | rfl | exact⟨rfl,rfl,rfl⟩
      | true=>
       have c6p:=eq_of_beq c6;cases c10:decide (a + 1 < b.data.toList.length) with
       | false=>
        have c10p:=of_decide_eq_false c10;have n0:a < b.data.toList.length:=om;have n1:a≤a:=om;simp -implicitDefEqProofs (disch:=omega) only [ZS,seval,ZX,kO,lU,mj,e0,c1,c2,c3,c4,c5,c6,c10,n0,n1]
        all_goals first | rfl | exact⟨rfl,rfl,rfl⟩
       | true=>
        have c10p:=of_decide_eq_true c10;cases c11:(bt b.data.toList (a + 1) == 37) with
        | false=>
         have c11p:=ad c11;have n0:a < b.data.toList.length:=om;have n1:a≤a:=om;have n2:a + 1 < b.data.toList.length:=om;simp -implicitDefEqProofs (disch:=omega) only [ZS,seval,ZX,kO,lU,mj,e0,c1,c2,c3,c4,c5,c6,c10,c11,n0,n1,n2]
         all_goals first | rfl | exact⟨rfl,rfl,rfl⟩
        | true=>
         have c11p:=eq_of_beq c11;have n0:a < b.data.toList.length:=om;have n1:a≤a:=om;have n2:a + 1 < b.data.toList.length:=om;simp -implicitDefEqProofs (disch:=omega) only [ZS,seval,ZX,kO,lU,mj,e0,c1,c2,c3,c4,c5,c6,c10,c11,n0,n1,n2]
         all_goals first | rfl | exact⟨rfl,rfl,rfl⟩
     | true=>
      have c5p:=eq_of_beq c5;have n0:a < b.data.toList.length:=om;have n1:a≤a:=om;simp -implicitDefEqProofs (disch:=omega) only [ZS,seval,ZX,kO,lU,mj,e0,c1,c2,c3,c4,c5,n0,n1]
      all_goals first | rfl | exact⟨rfl,rfl,rfl⟩
    | true=>
     have c4p:=eq_of_beq c4;have n0:a < b.data.toList.length:=om;have n1:a≤a:=om;simp -implicitDefEqProofs (disch:=omega) only [ZS,seval,ZX,kO,lU,mj,e0,c1,c2,c3,c4,n0,n1]
     all_goals first | rfl | exact⟨rfl,rfl,rfl⟩
   | true=>
    have c3p:=eq_of_beq c3;have n0:a < b.data.toList.length:=om;have n1:a≤a:=om;simp -implicitDefEqProofs (disch:=omega) only [ZS,seval,ZX,kO,lU,mj,e0,c1,c2,c3,n0,n1]
    all_goals first | rfl | exact⟨rfl,rfl,rfl⟩
  | true=>
   have c2p:=eq_of_beq c2;have n0:a < b.data.toList.length:=om;have n1:a≤a:=om;simp -implicitDefEqProofs (disch:=omega) only [ZS,seval,ZX,kO,lU,mj,e0,c1,c2,n0,n1]
   all_goals first | rfl | exact⟨rfl,rfl,rfl⟩
 | true=>
  have c1p:=eq_of_beq c1;cases c12:decide (b.data.toList.length≤a + 1) with
  | false=>
   have c12p:=of_decide_eq_false c12;cases c13:(bt b.data.toList (a + 1) == 45) with
   | false=>
    have c13p:=ad c13;cases c14:(bt b.data.toList (a + 1) == 61) with
    | false=>
     have c14p:=ad c14;cases c15:(bt b.data.toList (a + 1) == 63) with
     | false=>
      have c15p:=ad c15;cases c16:(bt b.data.toList (a + 1) == 43) with
      | false=>
       have c16p:=ad c16;have n0:a < b.data.toList.length:=om;have n1:a≤a + 1:=om;have n2:a + 1 < b.data.toList.length:=om;simp -implicitDefEqProofs (disch:=omega) only [ZS,seval,ZX,kO,lU,mj,e0,c1,c12,c13,c14,c15,c16,n0,n1,n2]
       all_goals first | rfl | exact⟨rfl,rfl,rfl⟩
      | true=>
       have c16p:=eq_of_beq c16;have n0:a < b.data.toList.length:=om;have n1:a≤a + 1:=om;have n2:a + 1 < b.data.toList.length:=om;simp -implicitDefEqProofs (disch:=omega) only [ZS,seval,ZX,kO,lU,mj,e0,c1,c12,c13,c14,c15,c16,n0,n1,n2]
       all_goals first | rfl | exact⟨rfl,rfl,rfl⟩
     | true=>
      have c15p:=eq_of_beq c15;have n0:a < b.data.toList.length:=om;have n1:a≤a + 1:=om;have n2:a + 1 < b.data.toList.length:=om;simp -implicitDefEqProofs (disch:=omega) only [ZS,seval,ZX,kO,lU,mj,e0,c1,c12,c13,c14,c15,n0,n1,n2]
      all_goals first | rfl | exact⟨rfl,rfl,rfl⟩
    | true=>
     have c14p:=eq_of_beq c14;have n0:a < b.data.toList.length:=om;have n1:a≤a + 1:=om;have n2:a + 1 < b.data.toList.length:=om;simp -implicitDefEqProofs (disch:=omega) only [ZS,seval,ZX,kO,lU,mj,e0,c1,c12,c13,c14,n0,n1,n2]
     all_goals first | rfl | exact⟨rfl,rfl,rfl⟩
   | true=>
    have c13p:=eq_of_beq c13;have n0:a < b.data.toList.length:=om;have n1:a≤a + 1:=om;have n2:a + 1 < b.data.toList.length:=om;simp -implicitDefEqProofs (disch:=omega) only [ZS,seval,ZX,kO,lU,mj,e0,c1,c12,c13,n0,n1,n2]
    all_goals first | rfl | exact⟨rfl,rfl,rfl⟩
  | true=>
   have c12p:=of_decide_eq_true c12;have n0:a < b.data.toList.length:=om;simp -implicitDefEqProofs (disch:=omega) only [ZS,seval,ZX,kO,lU,mj,e0,c1,c12,n0]
   all_goals first | rfl | exact⟨rfl,rfl,rfl⟩
theorem Iz (o:Int) (s:PS):Pc ext 353 [.sc (.int .i64 o)] (.sc (.string ⟨⟨iR o⟩⟩)) s:=by
 refine q1 OR 2 ?_;unfold OR;cases c1:(o == 1) with
 | false=>
  cases c2:(o == 2) with
  | false=>
   cases c3:(o == 3) with
   | false=>
    cases c4:(o == 4) with
    | false=>
     cases c5:(o == 6) with
     | false=>
      cases c6:(o == 7) with
      | false=>
       cases c7:(o == 8) with
       | false=>
        cases c8:(o == 9) with
        | false=>
         exact tf @iR.eq_1 c1 c2 c3 c4 c5 c6 c7 c8
        | true=>
         exact tf @iR.eq_1 c1 c2 c3 c4 c5 c6 c7 c8
       | true=>
        exact A9 @iR.eq_1 c1 c2 c3 c4 c5 c6 c7
      | true=>
       exact wn @iR.eq_1 c1 c2 c3 c4 c5 c6
     | true=>
      exact kU @iR.eq_1 c1 c2 c3 c4 c5
    | true=>
     exact tI @iR.eq_1 c1 c2 c3 c4
   | true=>
    exact qs @iR.eq_1 c1 c2 c3
  | true=>
   exact jC @iR.eq_1 c1 c2
 | true=>
  exact qf @iR.eq_1 c1
theorem ND (hb:b.data.toList.length < 4611686018427387904) {p:Nat} (s:PS) {i j:Nat} (h:sL b.data.toList i j):i≤b.data.toList.length→∀f,f 0=.sc (.string b)→f 2=iN p→f 7=iN i→Er (fun f' s'=>s'=s∧f' 6=.sc (.bool (decide (b.data.toList.length≤j) || bt b.data.toList j == 47 || (p == 1 && bt b.data.toList j == 125)))) (LP Tryz.prog Γ ext 0 mF s9 f s):=by
 induction h with
 | @stop i h=>
  intro hi f h0 h2 h7;have hj:=fun s=>fY (ext:=ext) hb (i:=i) om s;refine ac fun L hL=>?_;cases c1:decide (b.data.toList.length≤i) with
  | true=>exact A9 @mF.eq_1 @s9.eq_1 h0 h2 h7 hj h c1
  | false=>
   have hl:i < b.data.toList.length:=by have:=of_decide_eq_false c1; omega
   cases c2:bt b.data.toList i == 47 with
   | true=>exact tj @mF.eq_1 @s9.eq_1 h0 h2 h7 hj h c1 hl c2
   | false=>
    cases c3:p == 1 with
    | true=>exact oQ @mF.eq_1 @s9.eq_1 h0 h2 h7 hj h c1 hl c2 c3 tv
    | false=>exact oQ @mF.eq_1 @s9.eq_1 h0 h2 h7 hj h c1 hl c2 c3 tv
 | @step i j h k ih=>
  intro hi f h0 h2 h7;have hl:=iG h;have hj:=fun s=>fY (ext:=ext) hb (i:=i) om s;refine ac fun L hL=>?_;refine BD @mF.eq_1 h0 h2 h7 hj h ?_;subst hL;exact ih om _ (aL h0) (aL h2) bh
theorem yn (hb:b.data.toList.length < 4611686018427387904) {a p:Nat} (hp:p≤6) (hl:a < b.data.toList.length) {r:Bool} (h:lu b.data.toList a p r) (s:PS):Pc ext 349 [.sc (.string b),iN a,iN p] (.sc (.bool r)) s:=by
 refine q1 QQ 6 ?_;have ho:=fun s=>aZ (ext:=ext) hp s;have e0:decide (b.data.toList.length≤a)=false:=df;unfold QQ;cases h with
 | no h=>
  cases c1:cL p with
  | false=>exact qf ho c1
  | true=>
   have c2:(bt b.data.toList a == 126)=false:=by rw [c1,Bool.true_and] at h; exact h
   exact tI ho c1 e0 hl c2
 | @yes j h h2 k=>
  have c2:(bt b.data.toList a == 126)=true:=by rw [h2]; rfl
  refine FX ho h e0 hl c2 ?_;exact ND hb _ k om _ bh bh bh
end Go.Proofs.YtflfflfodghgpaaGreatDoor
set_option linter.unusedSimpArgs false
namespace Go.Proofs.YtflfflfodghgpaaGreatDoor
open Go Go.EvL Go.PE Go.Mir
variable {ext:ai}{b:ByteArray}
theorem sW (l:List UInt8) (c:UInt8):dZ (l ++ [c])=10 * dZ l + (c.toNat - 48):=by
 unfold dZ; rw [List.foldl_append]; rfl
theorem take_succ {l:List UInt8}{i:Nat} (h:i < l.length):l.take (i + 1)=l.take i ++ [l[i]]:=by
 rw [List.take_add_one,List.getElem?_eq_getElem h]; rfl
theorem kF {l:List UInt8}{i:Nat} (h:i < l.length):dZ (l.take (i + 1))=10 * dZ (l.take i) + (bt l i - 48):=by
 rw [take_succ h,sW,nL h]
theorem yD {c:Nat} (h:bC c=true) : 48≤c∧c≤57:=by
 unfold bC at h; simp at h; exact h
theorem G4 {l:List UInt8} (hd:∀i,i < l.length→bC (bt l i)=true):∀n,n≤l.length→dZ (l.take n) < 10 ^ n:=by
 intro n
 induction n with
 | zero=>intro _; simp [dZ]
 | succ n ih=>
  intro h;have h1:=ih om;have h2:=yD (hd n om);rw [kF om,Nat.pow_succ];omega
theorem wT {l:List UInt8} (hd:∀i,i < l.length→bC (bt l i)=true) (h0:bt l 0≠48):∀n,n < l.length→10 ^ n≤dZ (l.take (n + 1)):=by
 intro n
 induction n with
 | zero=>
  intro h;have h2:=yD (hd 0 h);rw [kF h];simp [dZ];omega
 | succ n ih=>
  intro h;have h1:=ih om;rw [kF h,Nat.pow_succ];omega
theorem bin_mul {P:Program} (t:Nat) (x y:Operand) (a b:Int):gP P .mul t x y (.sc (.int .i64 a)) (.sc (.int .i64 b))=some (.sc (.int .i64 (IntKind.i64.wrap (a * b)))):=(rfl)
theorem JS {P:Program} (t:Nat) (x y:Operand) (a b:Int):gP P .sub t x y (.sc (.int .u8 a)) (.sc (.int .u8 b))=some (.sc (.int .u8 (IntKind.u8.wrap (a - b)))):=(rfl)
theorem Ol (z:Int) (k:IntKind):II .i64 (.sc (.int k z))=some (.sc (.int .i64 (IntKind.i64.wrap z))):=(rfl)
theorem SL {n:Nat} (h:n < 256):IntKind.u8.wrap (n:Int)=(n:Int):=by
 unfold IntKind.wrap;simp [IntKind.bits,IntKind.signed];omega
theorem DI {t:ByteArray} (hlen:t.data.toList.length≤10) (hd:∀i,i < t.data.toList.length→bC (bt t.data.toList i)=true) (s:PS):∀(k i:Nat) (f:aO),i + k=t.data.toList.length→f 0=.sc (.string t)→f 4=iN (dZ (t.data.toList.take i))→f 5=iN i→
  Er (fun f' s'=>s'=s∧f' 2=iN (if decide (dZ t.data.toList≤2147483647) then dZ t.data.toList else 0:Nat)∧f' 3=.sc (.bool (decide (dZ t.data.toList≤2147483647)))) (LP Tryz.prog Γ ext 0 rT y8 f s):=by
 intro k
 induction k with
 | zero=>
  intro i f hk h0 h4 h5;have e1:decide (i < t.data.toList.length)=false:=df;have e2:t.data.toList.take i=t.data.toList:=List.take_of_length_le om;rw [e2] at h4;refine ac fun L hL=>?_;cases c1:decide (2147483647 < dZ t.data.toList) with
  | true=>
   have c2:decide (dZ t.data.toList≤2147483647)=false:=decide_eq_false (by have:=of_decide_eq_true c1; omega);simp -implicitDefEqProofs (disch:=omega) only [ZS,seval,rT,y8,h0,h4,h5,e1,c1,c2]
   all_goals first | done | rfl | exact⟨rfl,rfl⟩
  | false=>
   have c2:decide (dZ t.data.toList≤2147483647)=true:=decide_eq_true (by have:=of_decide_eq_false c1; omega);exact A9 @rT.eq_1 @y8.eq_1 h0 h4 h5 e1 c1 c2
 | succ k ih=>
  intro i f hk h0 h4 h5;have hl:i < t.data.toList.length:=om;have e1:decide (i < t.data.toList.length)=true:=dt;have hdi:=hd i hl;have hr:=yD hdi;have hv:=G4 hd i om;have hp : 10 ^ i≤10 ^ 10:=Nat.pow_le_pow_right om om;have hp2:(10:Nat) ^ 10=10000000000:=rfl;have ev:=kF hl;generalize hw:dZ (t.data.toList.take i)=v at h4 hv ev;have w1:IntKind.i64.wrap (10 * (v:Int))=((10 * v:Nat):Int):=by rw [B8 om om]; omega
  have w2:IntKind.u8.wrap ((bt t.data.toList i:Int) - 48)=((bt t.data.toList i - 48:Nat):Int):=by
   rw [show ((bt t.data.toList i:Int) - 48)=((bt t.data.toList i - 48:Nat):Int) by omega];exact SL om
  have w3:IntKind.i64.wrap ((bt t.data.toList i - 48:Nat):Int)=((bt t.data.toList i - 48:Nat):Int):=vJ om;refine ac fun L hL=>?_;refine qJ @rT.eq_1 h0 h4 h5 e1 hl @cg hdi @bin_mul @JS @Ol w1 w2 w3 ?_;subst hL;exact ih (i + 1) _ om (aL h0) (by rw [ev]; simp -implicitDefEqProofs (disch:=omega) only [ZS,seval]) bh
theorem A8 {t:ByteArray} (hne : 0 < t.data.toList.length) (hs:t.data.toList.length < 4611686018427387904) (hd:∀i,i < t.data.toList.length→bC (bt t.data.toList i)=true) (s:PS):∃z,Pc ext 415 [.sc (.string t)] (.tup [.sc (.int .i64 z),.sc (.bool (vz t.data.toList))]) s:=by
 refine⟨if vz t.data.toList then ((if decide (dZ t.data.toList≤2147483647) then dZ t.data.toList else 0:Nat):Int) else 0,?_⟩;refine da (fn:=Ns) (r:=2) (r2:=3) (by rfl) (by simp [Ns]) (by rfl) (by rfl) ?_;unfold Ns;have e0:(t.toList == (⟨#[]⟩ : ByteArray).toList)=false:=by
  rw [ByteArray.toList_eq,ByteArray.toList_eq];refine beq_eq_false_iff_ne.2 fun hh=>?_;rw [hh] at hne;exact absurd hne (by decide)
 unfold vz;cases c1:decide (10 < t.data.toList.length) with
 | true=>
  have c2:decide (t.data.toList.length≤10)=false:=decide_eq_false (by have:=of_decide_eq_true c1; omega);simp -implicitDefEqProofs (disch:=omega) only [ZS,seval,ZX,e0,c1,c2]
  all_goals first | done | rfl | exact⟨rfl,rfl⟩
 | false=>
  have hle:=of_decide_eq_false c1;have c2:decide (t.data.toList.length≤10)=true:=dt;cases c3:bt t.data.toList 0 == 48 with
  | true=>
   cases c4:decide (1 < t.data.toList.length) with
   | true=>
    simp -implicitDefEqProofs (disch:=omega) only [ZS,seval,ZX,e0,c1,c2,c3,c4,hne]
    all_goals first | done | rfl | exact⟨rfl,rfl⟩
   | false=>
    refine BD e0 c1 c2 c3 c4 hne ?_;refine Er.mono (DI om hd _ t.data.toList.length 0 _ om ?_ ?_ ?_) ?_
    ·exact bh
    ·simp -implicitDefEqProofs (disch:=omega) only [ZA,Nat.reduceAdd,Nat.reduceEqDiff,↓reduceIte,Nat.reduceLeDiff,reduceCtorEq,Nat.reduceBEq,Nat.reduceLT,aN,bm,bH,au,bS,aP,ck,br,frz,cx,bQ,dK]; rfl
    ·simp -implicitDefEqProofs (disch:=omega) only [ZA,Nat.reduceAdd,Nat.reduceEqDiff,↓reduceIte,Nat.reduceLeDiff,reduceCtorEq,Nat.reduceBEq,Nat.reduceLT,aN,bm,bH,au,bS,aP,ck,br,frz,cx,bQ,dK]; rfl
    ·rintro f s' ⟨h1,h2,h3⟩;refine⟨h1,?_,h3⟩;rw [h2];congr 2;cases decide (dZ t.data.toList≤2147483647)<;>rfl
  | false=>
   refine FX e0 c1 c2 c3 hne ?_;refine Er.mono (DI om hd _ t.data.toList.length 0 _ om ?_ ?_ ?_) ?_
   ·exact bh
   ·simp -implicitDefEqProofs (disch:=omega) only [ZA,Nat.reduceAdd,Nat.reduceEqDiff,↓reduceIte,Nat.reduceLeDiff,reduceCtorEq,Nat.reduceBEq,Nat.reduceLT,aN,bm,bH,au,bS,aP,ck,br,frz,cx,bQ,dK]; rfl
   ·simp -implicitDefEqProofs (disch:=omega) only [ZA,Nat.reduceAdd,Nat.reduceEqDiff,↓reduceIte,Nat.reduceLeDiff,reduceCtorEq,Nat.reduceBEq,Nat.reduceLT,aN,bm,bH,au,bS,aP,ck,br,frz,cx,bQ,dK]; rfl
   ·rintro f s' ⟨h1,h2,h3⟩;refine⟨h1,?_,h3⟩;rw [h2];congr 2;cases decide (dZ t.data.toList≤2147483647)<;>rfl
end Go.Proofs.YtflfflfodghgpaaGreatDoor
set_option linter.unusedSimpArgs false
namespace Go.Proofs.YtflfflfodghgpaaGreatDoor
open Go Go.EvL Go.PE Go.Mir
variable {ext:ai}{b:ByteArray}
theorem HC {V:aO→PS→Prop}{r:jI}{k:aO→PS→jI} (h:Er V r):Er V (gR r k):=by
 obtain⟨f,s,rfl,hv⟩:=h;exact⟨f,s,rfl,hv⟩
theorem rm {l:List UInt8}{a e:Nat} (h:e≤l.length):(sub l a e).length=e - a:=by
 unfold sub; rw [List.length_take,List.length_drop]; omega
theorem zg {l:List UInt8}{a e k:Nat} (h:e≤l.length) (hk:k < e - a):bt (sub l a e) k=bt l (a + k):=by
 unfold bt sub;rw [List.getD_eq_getElem?_getD,List.getD_eq_getElem?_getD,List.getElem?_take,if_pos hk,List.getElem?_drop]
theorem Hr {l:List UInt8}{a e:Nat} (h:a≤e) (hl:e < l.length):sub l a (e + 1)=sub l a e ++ [l[e]]:=by
 unfold sub;have h1:e + 1 - a=(e - a) + 1:=om;rw [h1,take_succ (l:=l.drop a) (i:=e - a) (by rw [List.length_drop]; omega),List.getElem_drop];congr 2;congr 1;omega
theorem yK {l:List UInt8}{a e:Nat} (h:a≤e) (hl:e < l.length):dZ (sub l a (e + 1))=10 * dZ (sub l a e) + (bt l e - 48):=by
 rw [Hr h hl,sW,nL hl]
theorem Q3 {t:List UInt8} (hne : 0 < t.length) (hd:∀i,i < t.length→bC (bt t i)=true) (h0:bt t 0≠48):vz t=decide (dZ t≤2147483647):=by
 unfold vz;have e0:(bt t 0 == 48)=false:=beq_eq_false_iff_ne.2 h0;rw [e0,Bool.false_and,Bool.not_false,Bool.and_true];cases c:decide (t.length≤10) with
 | true=>rw [Bool.true_and]
 | false=>
  have hl:=of_decide_eq_false c;have h1:=wT hd h0 10 om;have h2:=wT hd h0 (t.length - 1) om;have h3 : 10 ^ 10≤10 ^ (t.length - 1):=Nat.pow_le_pow_right om om;rw [show t.length - 1 + 1=t.length by omega,List.take_length] at h2;have hp2:(10:Nat) ^ 10=10000000000:=rfl;rw [Bool.false_and];exact (df).symm
theorem KG (hb:b.data.toList.length < 4611686018427387904) (s:PS) {a v e j:Nat} (h:yM b.data.toList v e j):e≤b.data.toList.length→a < e→(∀k,a≤k→k < e→bC (bt b.data.toList k)=true)→bt b.data.toList a≠48→v=dZ (sub b.data.toList a e)→∀f,f 0=.sc (.string b)→f 1=iN a→f 5=iN e→Er (fun f' s'=>s'=s∧f' 4=iN j) (LP Tryz.prog Γ ext 0 kL mG f s):=by
 have key:∀(v e:Nat),e < b.data.toList.length→bC (bt b.data.toList e)=true→a < e→(∀k,a≤k→k < e→bC (bt b.data.toList k)=true)→bt b.data.toList a≠48→v=dZ (sub b.data.toList a e)→∀s:PS,∃z,Pc ext 415 [.sc (.string ⟨⟨(b.data.toList.drop a).take (e + 1 - a)⟩⟩)] (.tup [.sc (.int .i64 z),.sc (.bool (decide (10 * v + (bt b.data.toList e - 48)≤2147483647)))]) s:=by
  intro v e hl hde hae hd h0 hv s;have hlen:(sub b.data.toList a (e + 1)).length=e + 1 - a:=rm om;have hdd:∀i,i < (sub b.data.toList a (e + 1)).length→bC (bt (sub b.data.toList a (e + 1)) i)=true:=by
   intro i hi;rw [hlen] at hi;rw [zg om hi];by_cases he:a + i=e
   ·rw [he]; exact hde
   ·exact hd _ om om
  obtain⟨z,hz⟩:=A8 (ext:=ext) (t:=⟨⟨sub b.data.toList a (e + 1)⟩⟩) (by show 0 < (sub b.data.toList a (e + 1)).length; omega) (by show (sub b.data.toList a (e + 1)).length < _; omega) hdd s;refine⟨z,?_⟩;have ho:=Q3 (t:=sub b.data.toList a (e + 1)) om hdd (by rw [zg om om]; exact h0);rw [yK om hl,← hv] at ho;rw [← ho];exact hz
 induction h with
 | @stop v e h=>
  intro hle hae hd h0 hv f f0 f1 f5;by_cases hl:e < b.data.toList.length
  ·have e1:decide (e < b.data.toList.length)=true:=decide_eq_true hl;cases c1:bC (bt b.data.toList e) with
   | false=>
    refine ac fun L hL=>?_;exact tf @kL.eq_1 @mG.eq_1 f0 f1 f5 e1 hl @cg c1
   | true=>
    have hbig : 2147483647 < 10 * v + (bt b.data.toList e - 48):=by
     rcases h with h | h | h
     ·omega
     ·rw [c1] at h; cases h
     ·exact h
    have e2:decide (10 * v + (bt b.data.toList e - 48)≤2147483647)=false:=df;obtain⟨z,hz⟩:=Classical.axiomOfChoice (key v e hl c1 hae hd h0 hv);have n1:a≤e + 1:=om;have n2:e + 1≤b.data.toList.length:=om;refine ac fun L hL=>?_;exact zT @kL.eq_1 @mG.eq_1 f0 f1 f5 e1 hl @cg c1 n1 n2 hz e2 tv
  ·have e1:decide (e < b.data.toList.length)=false:=decide_eq_false hl;refine ac fun L hL=>?_;exact kU @kL.eq_1 @mG.eq_1 f0 f1 f5 e1
 | @step v e j hl h2 h3 k ih=>
  intro hle hae hd h0 hv f f0 f1 f5;have e1:decide (e < b.data.toList.length)=true:=decide_eq_true hl;have e2:decide (10 * v + (bt b.data.toList e - 48)≤2147483647)=true:=decide_eq_true h3;obtain⟨z,hz⟩:=Classical.axiomOfChoice (key v e hl h2 hae hd h0 hv);have n1:a≤e + 1:=om;have n2:e + 1≤b.data.toList.length:=om;refine ac fun L hL=>?_;refine jp @kL.eq_1 f0 f1 f5 e1 hl @cg h2 n1 n2 hz e2 ?_;subst hL;refine ih om om (fun k h1 h4=>?_) h0 (by rw [yK om hl,hv]) _ (aL f0) (aL f1) bh;by_cases he:k=e
  ·rw [he]; exact h2
  ·exact hd _ h1 om
theorem IK {c:Nat} (h:bC c=true):dV c=true:=by
 unfold dV; rw [h]; simp
theorem Ax (hb:b.data.toList.length < 4611686018427387904) {a j:Nat} (ha:a≤b.data.toList.length) (h:i7 b.data.toList a j) (s:PS):Pc ext 403 [.sc (.string b),iN a] (iN j) s:=by
 refine q1 OU 4 ?_;have hn:=fun s=>vn (ext:=ext) hb (i:=a) ha s;unfold OU;cases h with
 | none0 h=>
  have e1:decide (b.data.toList.length≤a)=true:=decide_eq_true h;exact aL e1
 | zero hl h=>
  have e1:decide (b.data.toList.length≤a)=false:=df;have c1:bC (bt b.data.toList a)=true:=by rw [h]; rfl
  refine R9 e1 hl @cg c1 ?_;refine HC (ac fun L hL=>?_);by_cases hl2:a + 1 < b.data.toList.length
  ·have e2:decide (a + 1 < b.data.toList.length)=true:=decide_eq_true hl2;cases c2:bC (bt b.data.toList (a + 1)) with
   | false=>exact kU @kL.eq_1 @mG.eq_1 e2 hl2 @cg c2
   | true=>
    have hlen:(sub b.data.toList a (a + 2)).length=2:=by rw [rm om]; omega
    have hz:∀s:PS,∃z,Pc ext 415 [.sc (.string ⟨⟨(b.data.toList.drop a).take (a + 1 + 1 - a)⟩⟩)] (.tup [.sc (.int .i64 z),.sc (.bool false)]) s:=by
     intro s;have hdd:∀i,i < (sub b.data.toList a (a + 2)).length→bC (bt (sub b.data.toList a (a + 2)) i)=true:=by
      intro i hi;rw [hlen] at hi;rw [zg om om];have:i=0∨i=1:=om;rcases this with rfl | rfl
      ·exact c1
      ·exact c2
     obtain⟨z,hz⟩:=A8 (ext:=ext) (t:=⟨⟨sub b.data.toList a (a + 2)⟩⟩) (by show 0 < (sub b.data.toList a (a + 2)).length; omega) (by show (sub b.data.toList a (a + 2)).length < _; omega) hdd s;have hok:vz (sub b.data.toList a (a + 2))=false:=by
      unfold vz;rw [hlen,zg om om,Nat.add_zero,h];simp
     exact⟨z,by rw [← hok]; exact hz⟩
    obtain⟨z,hz⟩:=Classical.axiomOfChoice hz;have n1:a≤a + 1 + 1:=om;have n2:a + 1 + 1≤b.data.toList.length:=om;exact tf @kL.eq_1 @mG.eq_1 e2 hl2 @cg c2 n1 n2 hz
  ·have e2:decide (a + 1 < b.data.toList.length)=false:=decide_eq_false hl2;exact jC @kL.eq_1 @mG.eq_1 e2
 | num hl h h2 k=>
  have e1:decide (b.data.toList.length≤a)=false:=df;have hdl:=yD h;cases k with
  | stop hs=>
   exfalso;rcases hs with hs | hs | hs
   ·omega
   ·rw [h] at hs; cases hs
   ·omega
  | step _ _ _ k=>
   refine R9 e1 hl @cg h ?_;refine HC (KG hb _ k om om (fun k h1 h4=>?_) h2 ?_ _ bh bh bh)
   ·rw [show k=a by omega]; exact h
   ·rw [yK (Nat.le_refl _) hl];have:sub b.data.toList a a=[]:=List.eq_nil_of_length_eq_zero (by rw [rm om]; omega);rw [this];rfl
 | name hl h h2=>
  have e1:decide (b.data.toList.length≤a)=false:=df;exact wn e1 hl @cg h @eI h2 hn
 | spec hl h h2=>
  have e1:decide (b.data.toList.length≤a)=false:=df;have h3:dV (bt b.data.toList a)=false:=by
   unfold cd at h2;rw [h,Bool.false_or] at h2;simp only [Bool.or_eq_true,beq_iff_eq] at h2;rcases h2 with ((((((h2 | h2) | h2) | h2) | h2) | h2) | h2)<;>(rw [h2]; rfl)
  exact A9 e1 hl @cg h @eI h3 @gg h2
 | none hl h h2=>
  have e1:decide (b.data.toList.length≤a)=false:=df;have h3:bC (bt b.data.toList a)=false:=by
   cases c:bC (bt b.data.toList a) with
   | false=>rfl
   | true=>rw [IK c] at h; cases h
  exact A9 e1 hl @cg h3 @eI h @gg h2
end Go.Proofs.YtflfflfodghgpaaGreatDoor
set_option linter.unusedSimpArgs false
namespace Go.Mir
open Go Go.PE
mutual
def dL:aT→List PV
 | .mk k t o c ps=>[.sc (.int .i64 k),.sc (.string ⟨⟨t⟩⟩),.sc (.int .i64 o),.sc (.bool c),dm ps]
def dm:List aT→PV
 | []=>.sc (.slice none 0 0)
 | p :: ps=>.lit 90 (ps.length + 1) (dL p ++ t8 ps)
def t8:List aT→List PV
 | []=>[]
 | p :: ps=>dL p ++ t8 ps
end
theorem Ks:∀l:List aT,t8 l=l.flatMap dL:=by
 intro l
 induction l with
 | nil=>rw [t8]; rfl
 | cons p l ih=>rw [t8,ih,List.flatMap_cons]
theorem DO (l:List aT):dm l=b9 90 dL (eH l):=by
 cases l with
 | nil=>rw [dm]; rfl
 | cons p l=>rw [dm,Ks]; rfl
def bJ:R→PV
 | .ok (l,j)=>.agg [dm l,iN j,.sc (.int .i64 0)]
 | .error (a,e)=>.agg [.sc (.slice none 0 0),iN a,iN e]
theorem gG (p:aT):(dL p).length=5:=by cases p; rw [dL]; rfl
theorem Ad (p:aT):(dL p).all cX=true:=by
 cases p with
 | mk k t o c ps=>
  rw [dL];have:cX (dm ps)=true:=by cases ps<;>(rw [dm]; rfl)
  simp only [List.all_cons,List.all_nil,this,Bool.and_true];rfl
theorem uJ (p:aT):(dL p).all cM=true:=by
 cases p with
 | mk k t o c ps=>
  rw [dL];have:cM (dm ps)=true:=by cases ps<;>(rw [dm]; rfl)
  simp only [List.all_cons,List.all_nil,this,Bool.and_true];rfl
end Go.Mir
namespace Go.PE
open Go Go.EvL
section
variable {P:Program}{Γ:Nat→Option fN}{ext:ai}
theorem aR (s:PS) (k off fin:Nat) (ys:List PV):G6 s (.ptr k off fin) ys=if off + ys.length≤fin∧fin=(s.h k).cells.length∧ys.all cX=true then some (s.put k ⟨(s.h k).cells.take off ++ (ys ++ (s.h k).cells.drop (off + ys.length)),fin,(s.h k).e⟩) else none:=(rfl)
theorem fS {g r m:Nat} (k:Nat) {fn:fN}{args q:List PV}{s:PS} (hg:Γ g=some fn) (hl:args.length≤fn.nt) (hr:fn.res=[.cell r true m]) (hk:fn.keep=false)
  (h:Er (fun f' s'=>s.n≤s'.w∧f' r=.ptr k 0 m∧∃cs low e,s'.h k=⟨cs,low,e⟩∧cs.length=m∧low≤m∧j7 s.n s' cs=some q) (aS P Γ ext fn.body (cK args 0) ⟨s.h,s.n,s.n⟩)):aU P Γ ext g args s=some (.agg q,s):=by
 refine ij hg hl h ?_;rintro f s' ⟨hw,h1,cs,low,e,h2,h3,h4,h5⟩;refine fJ (vs:=[.agg cs]) hk ?_ hw ?_
 ·rw [hr];simp only [ck,h1,AB,h2];rw [if_pos ⟨om,h4,om⟩,List.drop_zero,List.take_of_length_le om];rfl
 ·show (j7 s.n s' cs).map PV.agg=_;rw [h5]; rfl
theorem qC (k:Nat) (fn:fN) (r m:Nat) {P:Program}{Γ:Nat→Option fN}{ext:ai}{g:Nat}{args q:List PV}{s:PS} (h:Er (fun f' s'=>s.n≤s'.w∧f' r=.ptr k 0 m∧∃cs low e,s'.h k=⟨cs,low,e⟩∧cs.length=m∧low≤m∧j7 s.n s' cs=some q) (aS P Γ ext fn.body (cK args 0) ⟨s.h,s.n,s.n⟩)) (hg:Γ g=some fn:=by rfl) (hl:args.length≤fn.nt:=by exact Nat.le_of_ble_eq_true rfl) (hr:fn.res=[.cell r true m]:=by rfl) (hk:fn.keep=false:=by rfl):aU P Γ ext g args s=some (.agg q,s):=fS k hg hl hr hk h
end
end Go.PE
namespace Go.Proofs.YtflfflfodghgpaaGreatDoor
open Go Go.EvL Go.PE Go.Mir
variable {ext:ai}{b:ByteArray}
theorem bE {n:Nat}{s:PS}{v:PV}{l:List aT}{x y:Value} (h:bQ n s v=some (dm l)):j7 n s [v,.sc x,.sc y]=some [dm l,.sc x,.sc y]:=by
 simp only [j7,h,Option.bind_some,Option.map_some];rfl
theorem IB (a e:Nat) (s:PS):Pc ext 348 [iN a,iN e] (bJ (.error (a,e))) s:=by
 refine fS s.n (fn:=Nl) (r:=4) (m:=3) (by rfl) (by simp [Nl]) (by rfl) (by rfl) ?_;unfold Nl;simp -implicitDefEqProofs (disch:=omega) only [ZS,seval,ZX,aR,cX,mV];exact⟨_,_,_,rfl,rfl,Nat.le_refl _,rfl⟩
theorem SY (p:aT) (j:Nat) (s:PS):Pc ext 373 [.agg (dL p),iN j] (bJ (.ok ([p],j))) s:=by
 refine qC (s.n + 1) Pa 4 3 ?_;unfold Pa;have h5:=gG p;have h6:(dL p).take 5=dL p:=List.take_of_length_le om;simp -implicitDefEqProofs (disch:=omega) only [ZS,seval,ZX,aR,cX,mV,h5,h6];refine⟨_,_,_,rfl,rfl,Nat.le_refl _,bE (l:=[p]) ?_⟩;rw [DO];have h7:[p].flatMap dL=dL p:=by rw [List.flatMap_cons,List.flatMap_nil,List.append_nil]
 exact jv.frz gG (b:=s.n) (.inr ⟨by simp,s.n + 1 + 1,om,by simp -implicitDefEqProofs (disch:=omega) only [ZS,seval]; omega,rfl,aL h7⟩) (Nat.le_refl _) (fun x _=>uJ x)
theorem TY {p0 p1 p2 p3 p4 p5 p6 p7 p8 p9 p10 fk P:Prop} (h0:p0)(h1:p1)(h2:p2)(h3:p3)(h4:p4)(h5:p5)(h6:p6)(h7:p7)(h8:p8)(h9:p9)(h10:p10)(h11:fk) (h:p0→p1→p2→p3→p4→p5→p6→p7→p8→p9→p10→fk→P:=by intro h0 h1 h2 h3 h4 h5 h6 h7 h8 h9 h10 h11; simp -implicitDefEqProofs (disch:=omega) only [ZS,seval,ZX,h0,h1,h2,h3,h4,h5,h6,h7,h8,h9,h10,h11]<;>first | exact⟨_,_,_,rfl,rfl,Nat.le_refl _,rfl⟩ | exact⟨_,_,_,rfl,rfl,Nat.le_refl _,bE (ba _ _ _)⟩):P:=h h0 h1 h2 h3 h4 h5 h6 h7 h8 h9 h10 h11
theorem Ru {p0 p1 p2 p3 p4 p5 p6 p7 p8 p9 p10 fk p12 p13 P:Prop} (h0:p0)(h1:p1)(h2:p2)(h3:p3)(h4:p4)(h5:p5)(h6:p6)(h7:p7)(h8:p8)(h9:p9)(h10:p10)(h11:fk)(h12:p12)(h13:p13) (h:p0→p1→p2→p3→p4→p5→p6→p7→p8→p9→p10→fk→p12→p13→P:=by intro h0 h1 h2 h3 h4 h5 h6 h7 h8 h9 h10 h11 h12 h13; simp -implicitDefEqProofs (disch:=omega) only [ZS,seval,ZX,h0,h1,h2,h3,h4,h5,h6,h7,h8,h9,h10,h11,h12,h13]<;>first | exact⟨_,_,_,rfl,rfl,Nat.le_refl _,rfl⟩ | exact⟨_,_,_,rfl,rfl,Nat.le_refl _,bE (ba _ _ _)⟩):P:=h h0 h1 h2 h3 h4 h5 h6 h7 h8 h9 h10 h11 h12 h13
theorem Co {p0 p1 p2 p3 p4 p5 p6 p7 p8 p9 p10 fk p12 p13 p14 iw P:Prop} (h0:p0)(h1:p1)(h2:p2)(h3:p3)(h4:p4)(h5:p5)(h6:p6)(h7:p7)(h8:p8)(h9:p9)(h10:p10)(h11:fk)(h12:p12)(h13:p13)(h14:p14)(h15:iw) (h:p0→p1→p2→p3→p4→p5→p6→p7→p8→p9→p10→fk→p12→p13→p14→iw→P:=by intro h0 h1 h2 h3 h4 h5 h6 h7 h8 h9 h10 h11 h12 h13 h14 h15; simp -implicitDefEqProofs (disch:=omega) only [ZS,seval,ZX,h0,h1,h2,h3,h4,h5,h6,h7,h8,h9,h10,h11,h12,h13,h14,h15]<;>first | exact⟨_,_,_,rfl,rfl,Nat.le_refl _,rfl⟩ | exact⟨_,_,_,rfl,rfl,Nat.le_refl _,bE (ba _ _ _)⟩):P:=h h0 h1 h2 h3 h4 h5 h6 h7 h8 h9 h10 h11 h12 h13 h14 h15
theorem tc {p0 p1 p2 p3 p4 p5 p6 p7 p8 p9 p10 fk p12 p13 p14 iw p16 p17 jw P:Prop} (h0:p0)(h1:p1)(h2:p2)(h3:p3)(h4:p4)(h5:p5)(h6:p6)(h7:p7)(h8:p8)(h9:p9)(h10:p10)(h11:fk)(h12:p12)(h13:p13)(h14:p14)(h15:iw)(h16:p16)(h17:p17)(h18:jw) (h:p0→p1→p2→p3→p4→p5→p6→p7→p8→p9→p10→fk→p12→p13→p14→iw→p16→p17→jw→P:=by intro h0 h1 h2 h3 h4 h5 h6 h7 h8 h9 h10 h11 h12 h13 h14 h15 h16 h17 h18; simp -implicitDefEqProofs (disch:=omega) only [ZS,seval,ZX,h0,h1,h2,h3,h4,h5,h6,h7,h8,h9,h10,h11,h12,h13,h14,h15,h16,h17,h18]<;>first | exact⟨_,_,_,rfl,rfl,Nat.le_refl _,rfl⟩ | exact⟨_,_,_,rfl,rfl,Nat.le_refl _,bE (ba _ _ _)⟩):P:=h h0 h1 h2 h3 h4 h5 h6 h7 h8 h9 h10 h11 h12 h13 h14 h15 h16 h17 h18
theorem oP {p0 p1 p2 p3 p4 p5 p6 p7 p8 p9 p10 fk p12 p13 p14 iw p16 p17 jw p19 lW p21 P:Prop} (h0:p0)(h1:p1)(h2:p2)(h3:p3)(h4:p4)(h5:p5)(h6:p6)(h7:p7)(h8:p8)(h9:p9)(h10:p10)(h11:fk)(h12:p12)(h13:p13)(h14:p14)(h15:iw)(h16:p16)(h17:p17)(h18:jw)(h19:p19)(h20:lW)(h21:p21) (h:p0→p1→p2→p3→p4→p5→p6→p7→p8→p9→p10→fk→p12→p13→p14→iw→p16→p17→jw→p19→lW→p21→P:=by intro h0 h1 h2 h3 h4 h5 h6 h7 h8 h9 h10 h11 h12 h13 h14 h15 h16 h17 h18 h19 h20 h21; simp -implicitDefEqProofs (disch:=omega) only [ZS,seval,ZX,h0,h1,h2,h3,h4,h5,h6,h7,h8,h9,h10,h11,h12,h13,h14,h15,h16,h17,h18,h19,h20,h21]<;>first | exact⟨_,_,_,rfl,rfl,Nat.le_refl _,rfl⟩ | exact⟨_,_,_,rfl,rfl,Nat.le_refl _,bE (ba _ _ _)⟩):P:=h h0 h1 h2 h3 h4 h5 h6 h7 h8 h9 h10 h11 h12 h13 h14 h15 h16 h17 h18 h19 h20 h21
theorem Bh {p0 p1 p2 p3 p4 p5 p6 p7 p8 p9 p10 fk p12 p13 p14 iw p16 p17 jw p19 lW p21 rB p23 p24 p25 P:Prop} (h0:p0)(h1:p1)(h2:p2)(h3:p3)(h4:p4)(h5:p5)(h6:p6)(h7:p7)(h8:p8)(h9:p9)(h10:p10)(h11:fk)(h12:p12)(h13:p13)(h14:p14)(h15:iw)(h16:p16)(h17:p17)(h18:jw)(h19:p19)(h20:lW)(h21:p21)(h22:rB)(h23:p23)(h24:p24)(h25:p25) (h:p0→p1→p2→p3→p4→p5→p6→p7→p8→p9→p10→fk→p12→p13→p14→iw→p16→p17→jw→p19→lW→p21→rB→p23→p24→p25→P:=by intro h0 h1 h2 h3 h4 h5 h6 h7 h8 h9 h10 h11 h12 h13 h14 h15 h16 h17 h18 h19 h20 h21 h22 h23 h24 h25; simp -implicitDefEqProofs (disch:=omega) only [ZS,seval,ZX,h0,h1,h2,h3,h4,h5,h6,h7,h8,h9,h10,h11,h12,h13,h14,h15,h16,h17,h18,h19,h20,h21,h22,h23,h24,h25]<;>first | exact⟨_,_,_,rfl,rfl,Nat.le_refl _,rfl⟩ | exact⟨_,_,_,rfl,rfl,Nat.le_refl _,bE (ba _ _ _)⟩):P:=h h0 h1 h2 h3 h4 h5 h6 h7 h8 h9 h10 h11 h12 h13 h14 h15 h16 h17 h18 h19 h20 h21 h22 h23 h24 h25
theorem G0 {p0 p1 p2 p3 p4 p5 p6 p7 p8 p9 p10 fk p12 p13 p14 iw p16 p17 jw p19 lW p21 rB p23 p24 p25 p26 p27 p28 p29 yY p31 P:Prop} (h0:p0)(h1:p1)(h2:p2)(h3:p3)(h4:p4)(h5:p5)(h6:p6)(h7:p7)(h8:p8)(h9:p9)(h10:p10)(h11:fk)(h12:p12)(h13:p13)(h14:p14)(h15:iw)(h16:p16)(h17:p17)(h18:jw)(h19:p19)(h20:lW)(h21:p21)(h22:rB)(h23:p23)(h24:p24)(h25:p25)(h26:p26)(h27:p27)(h28:p28)(h29:p29)(h30:yY)(h31:p31) (h:p0→p1→p2→p3→p4→p5→p6→p7→p8→p9→p10→fk→p12→p13→p14→iw→p16→p17→jw→p19→lW→p21→rB→p23→p24→p25→p26→p27→p28→p29→yY→p31→P:=by intro h0 h1 h2 h3 h4 h5 h6 h7 h8 h9 h10 h11 h12 h13 h14 h15 h16 h17 h18 h19 h20 h21 h22 h23 h24 h25 h26 h27 h28 h29 h30 h31; simp -implicitDefEqProofs (disch:=omega) only [ZS,seval,ZX,h0,h1,h2,h3,h4,h5,h6,h7,h8,h9,h10,h11,h12,h13,h14,h15,h16,h17,h18,h19,h20,h21,h22,h23,h24,h25,h26,h27,h28,h29,h30,h31]<;>first | exact⟨_,_,_,rfl,rfl,Nat.le_refl _,rfl⟩ | exact⟨_,_,_,rfl,rfl,Nat.le_refl _,bE (ba _ _ _)⟩):P:=h h0 h1 h2 h3 h4 h5 h6 h7 h8 h9 h10 h11 h12 h13 h14 h15 h16 h17 h18 h19 h20 h21 h22 h23 h24 h25 h26 h27 h28 h29 h30 h31
end Go.Proofs.YtflfflfodghgpaaGreatDoor
set_option linter.unusedSimpArgs false
namespace Go.PE
open Go Go.EvL
section
variable {P:Program}{Γ:Nat→Option fN}{ext:ai}
theorem Jq {g r:Nat}{fn:fN}{args:List PV}{s:PS}{R:PV→PS→Prop} (hg:Γ g=some fn) (hl:args.length≤fn.nt) (hr:fn.res=[.tmp r]) (hk:fn.keep=true) (h:Er (fun f' s'=>R (f' r) ⟨s'.h,s'.n,min s.w s'.w⟩) (aS P Γ ext fn.body (cK args 0) ⟨s.h,s.n,s.n⟩)):∃v s',aU P Γ ext g args s=some (v,s')∧R v s':=by
 obtain⟨f,s',e,hv⟩:=h;refine⟨f r,⟨s'.h,s'.n,min s.w s'.w⟩,?_,hv⟩;rw [gv hg _ _ hl,e];show aP fn s f s'=_;unfold aP;rw [hr];simp only [ck,Option.map_some,Option.bind_some,hk,if_true];rfl
theorem jv.weaken {α:Type}{e es b b':Nat}{c:α→List PV}{l:List α}{v:PV}{s:PS} (h:jv e es c b l v s) (hb:b'≤b):jv e es c b' l v s:=by
 rcases h with h | ⟨hl,k,k1,k2,k3,k4⟩
 ·exact .inl h
 ·exact .inr ⟨hl,k,om,k2,k3,k4⟩
end
end Go.PE
namespace Go.Proofs.YtflfflfodghgpaaGreatDoor
open Go Go.EvL Go.PE Go.Mir
variable {ext:ai}
theorem uC (t:List UInt8):dL (fG t)=[.sc (.int .i64 1),.sc (.string ⟨⟨t⟩⟩),.sc (.int .i64 0),.sc (.bool false),.sc (.slice none 0 0)]:=by
 rw [fG,dL,dm]
theorem O4 (p:aT):[p].flatMap dL=dL p:=by rw [List.flatMap_cons,List.flatMap_nil,List.append_nil]
theorem wX (x y:List UInt8):(⟨⟨x⟩⟩ : ByteArray) ++ (⟨⟨y⟩⟩ : ByteArray)=⟨⟨x ++ y⟩⟩:=by
 apply ByteArray.ext;simp
theorem AK {s:PS}{e es bytes n:Nat}{v v':PV}{xs:List PV}{s':PS} (h:sZ s e es bytes v xs n=some (v',s')) (j:Nat) (hj:j < s.n) (hne:∀a m c,v≠.own j a m c):s'.h j=s.h j:=by
 unfold sZ at h;split at h
 ·split at h
  ·injection h with h; injection h with _ h; rw [← h]
  ·cases h
 ·split at h
  ·split at h
   ·injection h with h; injection h with _ h; rw [← h,dw,if_neg om]
   ·cases h
  ·rename_i k off m fin;split at h
   ·injection h with h; injection h with _ h; rw [← h,dD,if_neg fun hh=>hne off m fin (by rw [hh])]
   ·cases h
  ·split at h
   ·injection h with h; injection h with _ h; rw [← h,dw,if_neg om]
   ·cases h
  ·cases h
theorem jE {α:Type}{e es b:Nat}{c:α→List PV}{l:List α}{v:PV}{s:PS} (h:jv e es c b l v s) (j:Nat) (hj:j < b∨s.n≤j):∀a m c,v≠.own j a m c:=by
 intro a m cc hv;rcases h with ⟨_,h⟩ | ⟨_,k,k1,k2,h,_⟩
 ·rw [h] at hv; cases hv
 ·rw [h] at hv; injection hv with hk; omega
structure EA (bd:Nat) (s:PS) (v0:PV) (l:List aT) (v:PV) (s':PS):Prop where
 acc:jv 90 5 dL bd l v s'
 keep:∀j,j < s.n→(∀a m c,v0≠.own j a m c)→s'.h j=s.h j
 same:∀j,j < bd→s'.h j=s.h j
 n:s.n≤s'.n
 w:∀n0,n0≤bd→n0≤s.w→n0≤s'.w
theorem nW {bd:Nat}{l:List aT}{v:PV}{s:PS} (h:jv 90 5 dL bd l v s) (hbd:bd≤s.n) (hn:l.length < 1000000000) (p:aT) :
  ∃v' s',sZ (s.new ⟨dL p,0,90⟩) 90 5 64 v (dL p) 1=some (v',s')∧EA bd s v (l ++ [p]) v' s':=by
 obtain⟨v',s',a1,a2,a3,a4,a5⟩:=(h.new ⟨dL p,0,90⟩).app (bytes:=64) gG [p] om (by simp only [List.length_cons,List.length_nil]; omega) (by simp only [List.length_cons,List.length_nil]; omega) (fun x _=>Ad x) (by rw [cR]; omega);rw [O4] at a1;refine⟨v',s',a1,a2,fun j hj hne=>?_,fun j hj=>?_,by rw [cR] at a4; omega,fun n0 h1 h2=>a5 n0 h1 (by rw [gV]; exact h2)⟩
 ·rw [AK a1 j (by rw [cR]; omega) hne,dw,if_neg om]
 ·rw [a3 j hj,dw,if_neg om]
theorem QH {bd:Nat}{l:List aT}{v:PV}{t:List UInt8}{s:PS} (h:jv 90 5 dL bd l v s) (hbd:bd≤s.n) (hn:l.length < 1000000000) (ht:∀p,l.getLast?=some p→p.kind=1→p.text.length + t.length < 4611686018427387904) :
  ∃v' s',aU Tryz.prog Γ ext 351 [v,.sc (.string ⟨⟨t⟩⟩)] s=some (v',s')∧EA bd s v (lz l t) v' s':=by
 refine Jq (fn:=KN) (r:=4) (by rfl) (by simp [KN]) (by rfl) (by rfl) ?_;have hel:=rV (e:=90) (⟨s.h,s.n,s.n⟩ : PS) (dL (fG t));rw [gG] at hel;obtain⟨v1,s1,a1,a2⟩:=nW (s:=⟨s.h,s.n,s.n⟩) (h.frame (s':=⟨s.h,s.n,s.n⟩) (Nat.le_refl _) fun _ _=>rfl) hbd hn (fG t);rw [uC] at hel a1;have fin:∀{v0:PV}{l':List aT}{v':PV}{s':PS},EA bd ⟨s.h,s.n,s.n⟩ v0 l' v' s'→EA bd s v0 l' v' ⟨s'.h,s'.n,min s.w s'.w⟩:=fun g=>⟨g.acc.frame (Nat.le_refl _) fun _ _=>rfl,g.keep,g.same,g.n,fun n0 h1 h2=>by
  have:=g.w n0 h1 (by show n0≤s.n; omega);show n0≤min _ _;omega⟩
 unfold KN;rcases h with ⟨rfl,rfl⟩ | ⟨hl,k,k1,k2,rfl,k3⟩
 ·have hz:decide ((0:Int) > 0)=false:=rfl;have hw:lz [] t=[] ++ [fG t]:=rfl;refine OX hz hel a1 ?_;rw [hw];exact fin a2
 ·obtain⟨l',p,rfl⟩ : ∃l' p,l=l' ++ [p]:=⟨l.dropLast,l.getLast hl,(List.dropLast_concat_getLast hl).symm⟩
  have hlen:(l' ++ [p]).length=l'.length + 1:=by simp
  rw [hlen] at a1 a2;rw [hlen];have hfm:(l' ++ [p]).flatMap dL=l'.flatMap dL ++ dL p:=by rw [List.flatMap_append,O4]
  have hfl:(l'.flatMap dL).length=l'.length * 5:=aQ gG l';rw [hfm] at k3;have c0:decide (0 < l'.length + 1)=true:=dt;have c1:l'.length + 1 - 1 < l'.length + 1:=om;have c2:l'.length + 1 - 1=l'.length:=om;have hld:∀(s':PS) (off:Nat),s'.h k=⟨l'.flatMap dL ++ dL p,0,90⟩→off < 5→AB s' (.ptr k (l'.length * 5 + off) ((l'.length + 1) * 5)) 1=some (((dL p).drop off).take 1):=by
   intro s' off h1 h2;rw [dl,h1];have:=gG p;rw [if_pos ⟨om,Nat.zero_le _,by rw [List.length_append,hfl]; omega⟩,List.drop_append,List.drop_of_length_le (by rw [hfl]; omega),List.nil_append,hfl];rw [show l'.length * 5 + off - l'.length * 5=off by omega]
  have hgl:(l' ++ [p]).getLast?=some p:=by simp
  have hwt:lz (l' ++ [p]) t=if p.kind=1 then l' ++ [fG (p.text ++ t)] else (l' ++ [p]) ++ [fG t]:=by
   unfold lz;rw [hgl];simp only [List.dropLast_concat]
  obtain⟨kd,tx,o,c,ps⟩:=p;have hl0:=fun (s':PS) h1=>hld s' 0 h1 om;have hl1:=fun (s':PS) h1=>hld s' 1 h1 om;rw [dL] at hl0 hl1;simp only [List.drop_zero,List.drop_succ_cons,List.take_succ_cons,List.take_zero,Nat.add_zero] at hl0 hl1;have hl0':=hl0 ⟨s.h,s.n,s.n⟩ k3;have hlt:l'.length < l'.length + 1:=om;have hz5 : 0 + (l'.length + 1) * 5=(l'.length + 1) * 5:=om;have hwk:IntKind.i64.wrap (((l'.length + 1:Nat):Int) - 1)=(l'.length:Int):=by rw [Qy om]; rfl
  by_cases hk:kd=1
  ·subst hk;have hw1:lz (l' ++ [aT.mk 1 tx o c ps]) t=l' ++ [fG (tx ++ t)]:=hwt.trans (if_pos rfl);rw [hw1];have hs:IT ⟨s.h,s.n,s.n⟩ 90 5 (.own k 0 (l'.length + 1) ((l'.length + 1) * 5)) 0 l'.length=some (.own k 0 l'.length (l'.length * 5)):=by
    unfold IT;simp only [k3];rw [if_pos ⟨Nat.zero_le _,om,om,Nat.zero_le _,trivial⟩];simp
   have he:eU ⟨s.h,s.n,s.n⟩ 5 (.own k 0 l'.length (l'.length * 5))=some (l'.flatMap dL,l'.length):=by
    unfold eU;simp only [k3];rw [if_pos ⟨om,Nat.zero_le _,by rw [List.length_append,hfl]; omega⟩,List.drop_zero,List.take_left' hfl]
   obtain⟨v2,s2,b1,b2,b3,b4,b5⟩:=(jv.nil 90 5 dL s.n ⟨s.h,s.n,s.n⟩).app (bytes:=64) gG l' om (by simp only [List.length_nil]; omega) (by simp only [List.length_nil]; omega) (fun x _=>Ad x) (Nat.le_refl _);have hl1':=hl1 s2 (by rw [b3 k k2]; exact k3);have htx:=ht _ hgl rfl;have hcat:=wX tx t;have hsz:(⟨⟨tx⟩⟩ : ByteArray).size + (⟨⟨t⟩⟩ : ByteArray).size < 9223372036854775808:=by
    show tx.length + t.length < _;have:tx.length + t.length < 4611686018427387904:=htx;omega
   have hel2:=rV (e:=90) s2 (dL (fG (tx ++ t)));rw [gG] at hel2;have hadd:=fun (P:Program) ty x y=>l7 (P:=P) ty x y hsz;rw [hcat] at hadd;obtain⟨v3,s3,d1,d2⟩:=nW (bd:=bd) (s:=s2) (b2.weaken hbd) (Nat.le_trans hbd b4) (by rw [List.nil_append]; rw [hlen] at hn; omega) (fG (tx ++ t));rw [List.nil_append] at d2;rw [uC] at hel2 d1;refine jp c0 hwk hlt hz5 hl0' hs he b1 hl1' hadd hel2 d1 ?_;exact fin ⟨d2.acc,fun j hj hne=>(d2.keep j (by have h9:s.n≤s2.n:=b4; have h8:j < s.n:=hj; omega) (jE b2 j (.inl hj))).trans (AK b1 j hj fun _ _ _ h=>by cases h),fun j hj=>(d2.same j hj).trans (b3 j om),by have:=d2.n; omega,fun n0 h1 h2=>d2.w n0 h1 (b5 n0 om (by show n0≤s.n; omega))⟩
  ·have hw1:lz (l' ++ [aT.mk kd tx o c ps]) t=(l' ++ [aT.mk kd tx o c ps]) ++ [fG t]:=hwt.trans (if_neg hk);rw [hw1];have hk1:(kd == 1)=false:=beq_eq_false_iff_ne.2 hk;refine Bz c0 hwk hlt hz5 hl0' hk1 hel a1 ?_;exact fin a2
end Go.Proofs.YtflfflfodghgpaaGreatDoor
namespace Go.Mir
theorem i7.bd {l:List UInt8}{i j:Nat} (h:i7 l i j) (hi:i≤l.length):i≤j∧j≤l.length:=by
 have hn:∀{v i j:Nat},yM l v i j→i≤l.length→i≤j∧j≤l.length:=by
  intro v i j h
  induction h with
  | stop h=>intro h; exact⟨Nat.le_refl _,h⟩
  | step hl h2 h3 k ih=>intro h; have:=ih (by omega); exact⟨by omega,this.2⟩
 cases h with
 | none0 h=>exact⟨Nat.le_refl _,hi⟩
 | zero hl h=>exact⟨by omega,by omega⟩
 | num hl h h2 k=>exact hn k hi
 | name hl h h2=>exact⟨mW _ _ _,kr hi⟩
 | spec hl h h2=>exact⟨by omega,by omega⟩
 | none hl h h2=>exact⟨Nat.le_refl _,hi⟩
theorem Cy (l:List UInt8) (a c:Nat):(sub l a c).length≤c - a:=by
 unfold sub; rw [List.length_take]; exact Nat.min_le_left _ _
theorem mg (l:List UInt8) (a:Nat) (h:a < l.length):(kO l a).1≠0→a + (kO l a).2.2≤l.length∧1≤(kO l a).2.2:=by
 unfold kO;split
 ·unfold lU;split
  ·intro hh; exact absurd rfl hh
  rename_i h1;have h2:¬ l.length≤a + 1:=by simpa using h1
  (repeat' split)<;>intro hh<;>first | (exact absurd rfl hh) | (constructor<;>(simp only; omega))
 ·unfold mj;have h2:∀{c d:Bool},(c && (decide (a + 1 < l.length) && d))=true→a + 1 < l.length:=fun h=>by
   simp only [Bool.and_eq_true,decide_eq_true_eq] at h; exact h.2.1
  (repeat' split)<;>intro hh<;>first | (exact absurd rfl hh) | (constructor<;>(simp only; omega)) | (rename_i g; have:=h2 g; constructor<;>(simp only; omega))
def dO.ok (l:List UInt8):dO→Prop
 | .loop a _ _ _ _ _=>a≤l.length
 | .part a _ _=>a < l.length
 | .brc a _ _ | .brc2 a _ _=>a + 2≤l.length
def WB (l:List UInt8):dO→R→Prop
 | .loop a p _ _ _ _,.ok x=>a≤x.2∧x.2≤l.length∧(p≠0→p≠5→x.2 < l.length)∧(p=4→x.2 + 1 < l.length)
 | .part a _ _,.ok x=>a < x.2∧x.2≤l.length∧x.1.length≤1∧∀q∈x.1,q.kind=1→q.text.length≤x.2 - a
 | .brc a _ _,.ok x=>a < x.2∧x.2≤l.length∧x.1.length≤1∧∀q∈x.1,q.kind=4
 | .brc2 a _ _,.ok x=>a < x.2∧x.2≤l.length∧x.1.length≤1∧∀q∈x.1,q.kind=4
 | _,.error _=>True
theorem uw (p:Nat):dQ p≠0∧dQ p≠5∧dQ p≠4∧dQ p≤6:=by
 unfold dQ;split
 ·omega
 ·split<;>omega
theorem Wx.bound {l:List UInt8}{t:dO}{r:R} (h:Wx l t r):t.ok l→WB l t r:=by
 induction h with
 | l_end h=>intro ok; exact⟨ok,Nat.le_refl _,fun h1 h2=>by omega,fun h1=>by omega⟩
 | l_open=>intro ok; trivial
 | l_q hl h h2=>intro ok; exact⟨Nat.le_refl _,by omega,fun _ _=>hl,fun h1=>absurd h1 h2⟩
 | l_a0=>intro ok; trivial
 | l_a h h2 h3=>intro ok; exact⟨Nat.le_refl _,by omega,fun _ _=>by omega,fun _=>h2⟩
 | l_a1=>intro ok; trivial
 | @l_tilde a p lv fr o r hl h h2 k ih=>
  intro ok;have:=ih (by simp only [dO.ok]; omega);cases r with
  | error x=>trivial
  | ok x=>exact⟨by have:=this.1; omega,this.2⟩
 | l_err=>intro ok; trivial
 | @l_on a p lv fr o acc ps j r hl h h2 k k2 ih ih2=>
  intro ok;have h1:=ih hl;have:=ih2 h1.2.1;cases r with
  | error x=>trivial
  | ok x=>exact⟨by have:=this.1; have:=h1.1; simp only at *; omega,this.2⟩
 | s_end5 h h2=>intro ok; exact⟨by simp only; omega,by simp only; omega,Nat.le_refl _,fun q hq _=>by cases hq with | head=>simp only; show 1≤_; omega | tail _ h=>cases h⟩
 | s_end=>intro ok; trivial
 | s_nl h h2 h3=>intro ok; exact⟨by simp only; omega,by simp only; omega,Nat.zero_le _,fun q hq=>by cases hq⟩
 | s_out h h2 h3 h4=>intro ok; exact⟨by simp only; omega,by simp only; omega,Nat.le_refl _,fun q hq hk=>by cases hq with | head=>cases hk | tail _ h=>cases h⟩
 | s_esc h h2 h3 h4 h5=>intro ok; exact⟨by simp only; omega,by simp only; omega,Nat.le_refl _,fun q hq _=>by cases hq with | head=>exact Nat.le_trans (Cy _ _ _) (by simp only; omega) | tail _ h=>cases h⟩
 | s_par=>intro ok; trivial
 | s_two h h2 h3 h4 h5 h6=>intro ok; exact⟨by simp only; omega,by simp only; omega,Nat.le_refl _,fun q hq _=>by cases hq with | head=>exact Nat.le_trans (Cy _ _ _) (by simp only; omega) | tail _ h=>cases h⟩
 | q_err=>intro ok; trivial
 | q_ok hl h k c=>intro ok; have hb:=k.bound ⟨by omega,hl⟩; have:=hb.2 rfl; simp only [fV.at] at this; exact⟨by simp only; omega,hb.1,Nat.le_refl _,fun q hq hk=>by cases hq with | head=>cases hk | tail _ h=>cases h⟩
 | q_nl hl h k c c2=>intro ok; have hb:=k.bound ⟨by omega,hl⟩; have:=hb.2 rfl; simp only [fV.at] at this; exact⟨by simp only; omega,hb.1,Nat.le_refl _,fun q hq hk=>by cases hq with | head=>cases hk | tail _ h=>cases h⟩
 | q_no=>intro ok; trivial
 | @x_brc a p lv r h h2 k ih=>
  intro ok;have hl:=bL h;have:=ih (by simp only [dO.ok]; omega);cases r with
  | error x=>trivial
  | ok x=>exact⟨this.1,this.2.1,this.2.2.1,fun q hq hk=>by rw [this.2.2.2 q hq] at hk; cases hk⟩
 | x_deep=>intro ok; trivial
 | x_ari h h2 hl h3 h4 k ih=>intro ok; have:=ih (by simp only [dO.ok]; omega); exact⟨by have:=this.1; simp only at *; omega,by have:=this.2.2.2 rfl; simp only at *; omega,Nat.le_refl _,fun q hq hk=>by cases hq with | head=>cases hk | tail _ h=>cases h⟩
 | x_ari0=>intro ok; trivial
 | x_cmd h h2 h3 k=>intro ok; have hl:=bL h; have hb:=k.bound ⟨by omega,by omega⟩; have:=hb.2 rfl; simp only [fV.at] at this; exact⟨by simp only; omega,hb.1,Nat.le_refl _,fun q hq hk=>by cases hq with | head=>cases hk | tail _ h=>cases h⟩
 | x_cmd0=>intro ok; trivial
 | x_sp h h2=>intro ok; have hl:=bL h; exact⟨by simp only; omega,by simp only; omega,Nat.le_refl _,fun q hq hk=>by cases hq with | head=>cases hk | tail _ h=>cases h⟩
 | x_long=>intro ok; trivial
 | x_nm h h2 h3 h4 h5=>intro ok; have hl:=bL h; have:=qR h h3 h4 h2; exact⟨by simp only; omega,kr (by omega),Nat.le_refl _,fun q hq hk=>by cases hq with | head=>cases hk | tail _ h=>cases h⟩
 | x_bad=>intro ok; trivial
 | x_lit hl h h2 h3=>intro ok; exact⟨by simp only; omega,by simp only; omega,Nat.le_refl _,fun q hq _=>by cases hq with | head=>simp only; show 1≤_; omega | tail _ h=>cases h⟩
 | t_sq0=>intro ok; trivial
 | @t_sq a p lv hl h h2 h3=>intro ok; have:=mW (fun x=>x != 39) l (a + 1); exact⟨by simp only; unfold cu at *; omega,by simp only; omega,Nat.le_refl _,fun q hq hk=>by cases hq with | head=>cases hk | tail _ h=>cases h⟩
 | t_deep=>intro ok; trivial
 | t_dq hl h h2 h3 k ih=>intro ok; have:=ih (by simp only [dO.ok]; omega); have g:=this.2.2.1 (by omega) (by omega); exact⟨by have:=this.1; simp only at *; omega,by simp only at *; omega,Nat.le_refl _,fun q hq hk=>by cases hq with | head=>cases hk | tail _ h=>cases h⟩
 | t_dq0=>intro ok; trivial
 | o_op=>intro ok; trivial
 | o_dq=>intro ok; trivial
 | o_lit hl h1 h2 h3 h4 h5 h6=>intro ok; exact⟨by simp only; omega,by simp only; omega,Nat.le_refl _,fun q hq _=>by cases hq with | head=>exact Nat.le_trans (Cy _ _ _) (by simp only; omega) | tail _ h=>cases h⟩
 | r_long=>intro ok; trivial
 | r_len hl h k h2 h3 h4 h5=>intro ok; exact⟨by simp only; omega,by simp only; omega,Nat.le_refl _,fun q hq=>by cases hq with | head=>rfl | tail _ h=>cases h⟩
 | r_end=>intro ok; trivial
 | @r_sharp a p lv j r hl h k h2 h3 k2 ih=>intro ok; have:=ih (by simp only [dO.ok] at *; omega); cases r with | error x=>trivial | ok x=>exact this
 | @r_two a p lv r h k2 ih=>intro ok; have:=ih (by simp only [dO.ok] at *; omega); cases r with | error x=>trivial | ok x=>exact this
 | w_long=>intro ok; trivial
 | w_end=>intro ok; trivial
 | w_none=>intro ok; trivial
 | w_plain k h h2 h3 h4=>intro ok; exact⟨by simp only; omega,by simp only; omega,Nat.le_refl _,fun q hq=>by cases hq with | head=>rfl | tail _ h=>cases h⟩
 | w_colon0=>intro ok; trivial
 | w_colon=>intro ok; trivial
 | w_sharp=>intro ok; trivial
 | w_bad=>intro ok; trivial
 | w_deep=>intro ok; trivial
 | w_join=>intro ok; trivial
 | w_err=>intro ok; trivial
 | @w_ok a p lv j ps i k h h2 h3 h4 h5 h6 h7 k2 ih=>intro ok; have ho:=mg l j h2 h5; have:=ih ho.1; have g:=uw p; have g2:=this.2.2.1 g.1 g.2.1; exact⟨by have:=this.1; simp only at *; omega,by simp only at *; omega,Nat.le_refl _,fun q hq=>by cases hq with | head=>rfl | tail _ h=>cases h⟩
end Go.Mir
set_option linter.unusedSimpArgs false
namespace Go.Proofs.YtflfflfodghgpaaGreatDoor
open Go Go.EvL Go.PE Go.Mir
variable {ext:ai}{b:ByteArray}
theorem aB (k:IntKind) (z:Int):cX (.sc (.int k z))=true:=(rfl)
theorem az (b:ByteArray):cX (.sc (.string b))=true:=(rfl)
theorem aA (b:Bool):cX (.sc (.bool b))=true:=(rfl)
theorem ay:cX (.sc (.slice none 0 0))=true:=(rfl)
theorem Jx:dm []=.sc (.slice none 0 0):=by rw [dm]
theorem ae (l:List aT):cX (dm l)=true:=by cases l<;>(rw [dm]; rfl)
theorem aj (l:List aT):bx (dm l)=[dm l]:=by cases l<;>(rw [dm]; rfl)
theorem ba (n:Nat) (s:PS) (l:List aT):bQ n s (dm l)=some (dm l):=by cases l<;>(rw [dm]; rfl)
theorem an (a e:Nat) (s:PS):Pc ext 348 [iN a,iN e] (.agg [.sc (.slice none 0 0),iN a,iN e]) s:=IB a e s
theorem am (a e:Nat) (s:PS):Pc ext 348 [iN a,.sc (.int .i64 (no_index (@OfNat.ofNat Int e instOfNat)))] (.agg [.sc (.slice none 0 0),iN a,.sc (.int .i64 (@OfNat.ofNat Int e instOfNat))]) s:=IB a e s
theorem aE (k:Int) (t:List UInt8) (o:Int) (c:Bool) (ps:List aT) (j:Nat) (s:PS):Pc ext 373 [.agg [.sc (.int .i64 k),.sc (.string ⟨⟨t⟩⟩),.sc (.int .i64 o),.sc (.bool c),dm ps],iN j] (.agg [dm [.mk k t o c ps],iN j,.sc (.int .i64 0)]) s:=by
 have:=SY (ext:=ext) (.mk k t o c ps) j s;rw [dL] at this;exact this
theorem aG (k:Int) (t:List UInt8) (o:Int) (c:Bool) (j:Nat) (s:PS):Pc ext 373 [.agg [.sc (.int .i64 k),.sc (.string ⟨⟨t⟩⟩),.sc (.int .i64 o),.sc (.bool c),.sc (.slice none 0 0)],iN j] (.agg [dm [.mk k t o c []],iN j,.sc (.int .i64 0)]) s:=by
 have:=aE (ext:=ext) k t o c [] j s;rw [dm] at this;exact this
theorem KU (hb:b.data.toList.length < 1000000000) {a:Nat} (h2:a + 1=b.data.toList.length) (s:PS):Pc ext 367 [.sc (.string b),iN a,iN (5:Nat)] (bJ (.ok ([fG [92]],a + 1))) s:=by
 have g0:(a + 1 == b.data.toList.length)=true:=by rw [h2]; exact beq_self_eq_true _
 refine qC (s.n) m9 6 3 ?_;unfold m9;exact TY @aR @aB @az @aA @ay @ae @aj @am @an @aG @aE g0
theorem OD (hb:b.data.toList.length < 1000000000) {a p:Nat} (h2:a + 1=b.data.toList.length) (h3:p≠5) (s:PS):Pc ext 367 [.sc (.string b),iN a,iN p] (bJ (.error (a,7))) s:=by
 have g0:(a + 1 == b.data.toList.length)=true:=by rw [h2]; exact beq_self_eq_true _
 have g1:(p == 5)=false:=beq_eq_false_iff_ne.2 h3;refine qC (s.n) m9 6 3 ?_;unfold m9;exact Ru @aR @aB @az @aA @ay @ae @aj @am @an @aG @aE g0 g1 tv
theorem SD (hb:b.data.toList.length < 1000000000) {a p:Nat} (h2:a + 1 < b.data.toList.length) (h3:bt b.data.toList (a + 1)=10) (s:PS):Pc ext 367 [.sc (.string b),iN a,iN p] (bJ (.ok ([],a + 2))) s:=by
 have g0:(a + 1 == b.data.toList.length)=false:=bf;have g1:(bt b.data.toList (a + 1) == 10)=true:=by rw [h3]; rfl
 refine qC (s.n) m9 6 3 ?_;unfold m9;have n0:a + 1 < b.data.toList.length:=om;simp -implicitDefEqProofs (disch:=omega) only [ZA,Nat.reduceAdd,Nat.reduceEqDiff,↓reduceIte,Nat.reduceLeDiff,reduceCtorEq,Nat.reduceBEq,Nat.reduceLT,aN,bm,bH,au,bS,aP,ck,br,frz,cx,bQ,dK,eB,aR,List.all_cons,List.all_nil,Bool.and_self,aB,az,aA,ay,List.drop_nil,List.take_nil,ae,aj,ig,fw,am,an,aG,aE,Jx,g0,g1,n0]
 all_goals first | exact⟨_,_,_,rfl,rfl,Nat.le_refl _,rfl⟩ | exact⟨_,_,_,rfl,rfl,Nat.le_refl _,bE (ba _ _ _)⟩
theorem Oj (hb:b.data.toList.length < 1000000000) {a p:Nat} (hp:p≤6) (h2:a + 1 < b.data.toList.length) (h3:bt b.data.toList (a + 1)≠10) (h4:cL p=true) (s:PS):Pc ext 367 [.sc (.string b),iN a,iN p] (bJ (.ok ([tP (sub b.data.toList (a + 1) (a + 2))],a + 2))) s:=by
 have g0:(a + 1 == b.data.toList.length)=false:=bf;have g1:(bt b.data.toList (a + 1) == 10)=false:=beq_eq_false_iff_ne.2 (h3);have g2:(cL p)=true:=h4;refine qC (s.n) m9 6 3 ?_;unfold m9;have n0:a + 1 < b.data.toList.length:=om;have n1:a + 1≤a + 2:=om;have n2:a + 2≤b.data.toList.length:=om;have f0:=fun s=>aZ (ext:=ext) hp s;simp -implicitDefEqProofs (disch:=omega) only [ZA,Nat.reduceAdd,Nat.reduceEqDiff,↓reduceIte,Nat.reduceLeDiff,reduceCtorEq,Nat.reduceBEq,Nat.reduceLT,aN,bm,bH,au,bS,aP,ck,br,frz,cx,bQ,dK,eB,aR,List.all_cons,List.all_nil,Bool.and_self,aB,az,aA,ay,List.drop_nil,List.take_nil,ae,aj,ig,fw,am,an,aG,aE,g0,g1,g2,n0,n1,n2,f0]
 all_goals first | exact⟨_,_,_,rfl,rfl,Nat.le_refl _,rfl⟩ | exact⟨_,_,_,rfl,rfl,Nat.le_refl _,bE (ba _ _ _)⟩
theorem P2 (hb:b.data.toList.length < 1000000000) {a p:Nat} (hp:p≤6) (h2:a + 1 < b.data.toList.length) (h3:bt b.data.toList (a + 1)≠10) (h4:cL p=false) (h5:bP (bt b.data.toList (a + 1)) p=true) (s:PS):Pc ext 367 [.sc (.string b),iN a,iN p] (bJ (.ok ([fG (sub b.data.toList (a + 1) (a + 2))],a + 2))) s:=by
 have g0:(a + 1 == b.data.toList.length)=false:=bf;have g1:(bt b.data.toList (a + 1) == 10)=false:=beq_eq_false_iff_ne.2 (h3);have g2:(cL p)=false:=h4;have g3:(bP (bt b.data.toList (a + 1)) p)=true:=h5;refine qC (s.n) m9 6 3 ?_;unfold m9;have n0:a + 1 < b.data.toList.length:=om;have n1:a + 1≤a + 2:=om;have n2:a + 2≤b.data.toList.length:=om;have f0:=fun s=>aZ (ext:=ext) hp s;have f1:=fun c s=>j5 (ext:=ext) (c:=c) hp s;simp -implicitDefEqProofs (disch:=omega) only [ZA,Nat.reduceAdd,Nat.reduceEqDiff,↓reduceIte,Nat.reduceLeDiff,reduceCtorEq,Nat.reduceBEq,Nat.reduceLT,aN,bm,bH,au,bS,aP,ck,br,frz,cx,bQ,dK,eB,aR,List.all_cons,List.all_nil,Bool.and_self,aB,az,aA,ay,List.drop_nil,List.take_nil,ae,aj,ig,fw,am,an,aG,aE,g0,g1,g2,g3,n0,n1,n2,f0,f1]
 all_goals first | exact⟨_,_,_,rfl,rfl,Nat.le_refl _,rfl⟩ | exact⟨_,_,_,rfl,rfl,Nat.le_refl _,bE (ba _ _ _)⟩
theorem Jb (hb:b.data.toList.length < 1000000000) {a:Nat} (h2:a + 1 < b.data.toList.length) (h3:bt b.data.toList (a + 1)=40) (s:PS):Pc ext 367 [.sc (.string b),iN a,iN (4:Nat)] (bJ (.error (a,6))) s:=by
 have hp : 4≤6:=om;have g0:(a + 1 == b.data.toList.length)=false:=bf;have g1:(bt b.data.toList (a + 1) == 10)=false:=by rw [h3]; rfl
 have g2:(cL 4)=false:=rfl;have g3:(bP (bt b.data.toList (a + 1)) 4)=false:=by rw [h3]; rfl
 have g4:(bt b.data.toList (a + 1) == 40)=true:=by rw [h3]; rfl
 have g5:(bt b.data.toList (a + 1) == 41)=false:=by rw [h3]; rfl
 refine qC (s.n) m9 6 3 ?_;unfold m9;have n0:a + 1 < b.data.toList.length:=om;have f0:=fun s=>aZ (ext:=ext) hp s;have f1:=fun c s=>j5 (ext:=ext) (c:=c) hp s;simp -implicitDefEqProofs (disch:=omega) only [ZA,Nat.reduceAdd,Nat.reduceEqDiff,↓reduceIte,Nat.reduceLeDiff,reduceCtorEq,Nat.reduceBEq,Nat.reduceLT,aN,bm,bH,au,bS,aP,ck,br,frz,cx,bQ,dK,eB,aR,List.all_cons,List.all_nil,Bool.and_self,aB,az,aA,ay,List.drop_nil,List.take_nil,ae,aj,ig,fw,am,an,aG,aE,g0,g1,g2,g3,g4,g5,n0,f0,f1]
 all_goals first | exact⟨_,_,_,rfl,rfl,Nat.le_refl _,rfl⟩ | exact⟨_,_,_,rfl,rfl,Nat.le_refl _,bE (ba _ _ _)⟩
theorem Jc (hb:b.data.toList.length < 1000000000) {a:Nat} (h2:a + 1 < b.data.toList.length) (h3:bt b.data.toList (a + 1)=41) (s:PS):Pc ext 367 [.sc (.string b),iN a,iN (4:Nat)] (bJ (.error (a,6))) s:=by
 have hp : 4≤6:=om;have g0:(a + 1 == b.data.toList.length)=false:=bf;have g1:(bt b.data.toList (a + 1) == 10)=false:=by rw [h3]; rfl
 have g2:(cL 4)=false:=rfl;have g3:(bP (bt b.data.toList (a + 1)) 4)=false:=by rw [h3]; rfl
 have g4:(bt b.data.toList (a + 1) == 40)=false:=by rw [h3]; rfl
 have g5:(bt b.data.toList (a + 1) == 41)=true:=by rw [h3]; rfl
 refine qC (s.n) m9 6 3 ?_;unfold m9;have n0:a + 1 < b.data.toList.length:=om;have f0:=fun s=>aZ (ext:=ext) hp s;have f1:=fun c s=>j5 (ext:=ext) (c:=c) hp s;simp -implicitDefEqProofs (disch:=omega) only [ZA,Nat.reduceAdd,Nat.reduceEqDiff,↓reduceIte,Nat.reduceLeDiff,reduceCtorEq,Nat.reduceBEq,Nat.reduceLT,aN,bm,bH,au,bS,aP,ck,br,frz,cx,bQ,dK,eB,aR,List.all_cons,List.all_nil,Bool.and_self,aB,az,aA,ay,List.drop_nil,List.take_nil,ae,aj,ig,fw,am,an,aG,aE,g0,g1,g2,g3,g4,g5,n0,f0,f1]
 all_goals first | exact⟨_,_,_,rfl,rfl,Nat.le_refl _,rfl⟩ | exact⟨_,_,_,rfl,rfl,Nat.le_refl _,bE (ba _ _ _)⟩
theorem QK (hb:b.data.toList.length < 1000000000) {a p:Nat} (hp:p≤6) (h2:a + 1 < b.data.toList.length) (h3:bt b.data.toList (a + 1)≠10) (h4:cL p=false) (h5:bP (bt b.data.toList (a + 1)) p=false) (h6:p≠4) (s:PS):Pc ext 367 [.sc (.string b),iN a,iN p] (bJ (.ok ([fG (sub b.data.toList a (a + 2))],a + 2))) s:=by
 have g0:(a + 1 == b.data.toList.length)=false:=bf;have g1:(bt b.data.toList (a + 1) == 10)=false:=beq_eq_false_iff_ne.2 (h3);have g2:(cL p)=false:=h4;have g3:(bP (bt b.data.toList (a + 1)) p)=false:=h5;have g4:(p == 4)=false:=beq_eq_false_iff_ne.2 h6;refine qC (s.n) m9 6 3 ?_;unfold m9;have n0:a + 1 < b.data.toList.length:=om;have n1:a≤a + 2:=om;have n2:a + 2≤b.data.toList.length:=om;have f0:=fun s=>aZ (ext:=ext) hp s;have f1:=fun c s=>j5 (ext:=ext) (c:=c) hp s;exact oP @aR @aB @az @aA @ay @ae @aj @am @an @aG @aE g0 g1 g2 g3 g4 n0 n1 n2 f0 f1 tv
theorem Lh (hb:b.data.toList.length < 1000000000) {a:Nat} (h2:a + 1 < b.data.toList.length) (h3:bt b.data.toList (a + 1)≠10) (h5:bP (bt b.data.toList (a + 1)) 4=false) (h6:bt b.data.toList (a + 1)≠40) (h7:bt b.data.toList (a + 1)≠41) (s:PS):Pc ext 367 [.sc (.string b),iN a,iN (4:Nat)] (bJ (.ok ([fG (sub b.data.toList a (a + 2))],a + 2))) s:=by
 have hp : 4≤6:=om;have g0:(a + 1 == b.data.toList.length)=false:=bf;have g1:(bt b.data.toList (a + 1) == 10)=false:=beq_eq_false_iff_ne.2 (h3);have g2:(cL 4)=false:=rfl;have g3:(bP (bt b.data.toList (a + 1)) 4)=false:=h5;have g4:(bt b.data.toList (a + 1) == 40)=false:=beq_eq_false_iff_ne.2 (h6);have g5:(bt b.data.toList (a + 1) == 41)=false:=beq_eq_false_iff_ne.2 (h7);refine qC (s.n) m9 6 3 ?_;unfold m9;have n0:a + 1 < b.data.toList.length:=om;have n1:a≤a + 2:=om;have n2:a + 2≤b.data.toList.length:=om;have f0:=fun s=>aZ (ext:=ext) hp s;have f1:=fun c s=>j5 (ext:=ext) (c:=c) hp s;simp -implicitDefEqProofs (disch:=omega) only [ZA,Nat.reduceAdd,Nat.reduceEqDiff,↓reduceIte,Nat.reduceLeDiff,reduceCtorEq,Nat.reduceBEq,Nat.reduceLT,aN,bm,bH,au,bS,aP,ck,br,frz,cx,bQ,dK,eB,aR,List.all_cons,List.all_nil,Bool.and_self,aB,az,aA,ay,List.drop_nil,List.take_nil,ae,aj,ig,fw,am,an,aG,aE,g0,g1,g2,g3,g4,g5,n0,n1,n2,f0,f1]
 all_goals first | exact⟨_,_,_,rfl,rfl,Nat.le_refl _,rfl⟩ | exact⟨_,_,_,rfl,rfl,Nat.le_refl _,bE (ba _ _ _)⟩
end Go.Proofs.YtflfflfodghgpaaGreatDoor
set_option linter.unusedSimpArgs false
namespace Go.Proofs.YtflfflfodghgpaaGreatDoor
open Go Go.EvL Go.PE Go.Mir
variable {ext:ai}{b:ByteArray}
theorem Iw (hb:b.data.toList.length < 1000000000) {a p lv:Nat} (hp:p≤6) (hl:a < b.data.toList.length) (h:bt b.data.toList a=92) (ps:List aT) (j:Nat) (hC:∀s,Pc ext 367 [.sc (.string b),iN a,iN p] (.agg [dm ps,iN j,.sc (.int .i64 0)]) s) (s:PS):Pc ext 350 [.sc (.string b),iN a,iN p,iN lv] (bJ (.ok (ps,j))) s:=by
 have g0:(bt b.data.toList a == 92)=true:=by rw [h]; rfl
 have g1:(bt b.data.toList a == 96)=false:=by rw [h]; rfl
 have g2:(bt b.data.toList a == 36)=false:=by rw [h]; rfl
 have g3:(bt b.data.toList a == 39)=false:=by rw [h]; rfl
 have g4:(bt b.data.toList a == 34)=false:=by rw [h]; rfl
 refine qC (s.n) iK 8 3 ?_;unfold iK;have n0:a < b.data.toList.length:=om;exact tc @aR @aB @az @aA @ay @ae @aj @am @an @aG @aE g0 g1 g2 g3 g4 n0 hC tv
theorem JC (hb:b.data.toList.length < 1000000000) {a p lv:Nat} (hp:p≤6) (hl:a < b.data.toList.length) (h:bt b.data.toList a=92) (x e:Nat) (hC:∀s,Pc ext 367 [.sc (.string b),iN a,iN p] (.agg [.sc (.slice none 0 0),iN x,iN e]) s) (s:PS):Pc ext 350 [.sc (.string b),iN a,iN p,iN lv] (bJ (.error (x,e))) s:=by
 have g0:(bt b.data.toList a == 92)=true:=by rw [h]; rfl
 have g1:(bt b.data.toList a == 96)=false:=by rw [h]; rfl
 have g2:(bt b.data.toList a == 36)=false:=by rw [h]; rfl
 have g3:(bt b.data.toList a == 39)=false:=by rw [h]; rfl
 have g4:(bt b.data.toList a == 34)=false:=by rw [h]; rfl
 refine qC (s.n) iK 8 3 ?_;unfold iK;have n0:a < b.data.toList.length:=om;exact tc @aR @aB @az @aA @ay @ae @aj @am @an @aG @aE g0 g1 g2 g3 g4 n0 hC tv
theorem Ib (hb:b.data.toList.length < 1000000000) {a p lv:Nat} (hp:p≤6) (hl:a < b.data.toList.length) (h:bt b.data.toList a=96) (ps:List aT) (j:Nat) (hC:∀s,Pc ext 368 [.sc (.string b),iN a] (.agg [dm ps,iN j,.sc (.int .i64 0)]) s) (s:PS):Pc ext 350 [.sc (.string b),iN a,iN p,iN lv] (bJ (.ok (ps,j))) s:=by
 have g0:(bt b.data.toList a == 92)=false:=by rw [h]; rfl
 have g1:(bt b.data.toList a == 96)=true:=by rw [h]; rfl
 have g2:(bt b.data.toList a == 36)=false:=by rw [h]; rfl
 have g3:(bt b.data.toList a == 39)=false:=by rw [h]; rfl
 have g4:(bt b.data.toList a == 34)=false:=by rw [h]; rfl
 refine qC (s.n) iK 8 3 ?_;unfold iK;have n0:a < b.data.toList.length:=om;exact tc @aR @aB @az @aA @ay @ae @aj @am @an @aG @aE g0 g1 g2 g3 g4 n0 hC tv
theorem IR (hb:b.data.toList.length < 1000000000) {a p lv:Nat} (hp:p≤6) (hl:a < b.data.toList.length) (h:bt b.data.toList a=96) (x e:Nat) (hC:∀s,Pc ext 368 [.sc (.string b),iN a] (.agg [.sc (.slice none 0 0),iN x,iN e]) s) (s:PS):Pc ext 350 [.sc (.string b),iN a,iN p,iN lv] (bJ (.error (x,e))) s:=by
 have g0:(bt b.data.toList a == 92)=false:=by rw [h]; rfl
 have g1:(bt b.data.toList a == 96)=true:=by rw [h]; rfl
 have g2:(bt b.data.toList a == 36)=false:=by rw [h]; rfl
 have g3:(bt b.data.toList a == 39)=false:=by rw [h]; rfl
 have g4:(bt b.data.toList a == 34)=false:=by rw [h]; rfl
 refine qC (s.n) iK 8 3 ?_;unfold iK;have n0:a < b.data.toList.length:=om;exact tc @aR @aB @az @aA @ay @ae @aj @am @an @aG @aE g0 g1 g2 g3 g4 n0 hC tv
theorem Iv (hb:b.data.toList.length < 1000000000) {a p lv:Nat} (hp:p≤6) (hl:a < b.data.toList.length) (h:bt b.data.toList a=36) (ps:List aT) (j:Nat) (hC:∀s,Pc ext 369 [.sc (.string b),iN a,iN p,iN lv] (.agg [dm ps,iN j,.sc (.int .i64 0)]) s) (s:PS):Pc ext 350 [.sc (.string b),iN a,iN p,iN lv] (bJ (.ok (ps,j))) s:=by
 have g0:(bt b.data.toList a == 92)=false:=by rw [h]; rfl
 have g1:(bt b.data.toList a == 96)=false:=by rw [h]; rfl
 have g2:(bt b.data.toList a == 36)=true:=by rw [h]; rfl
 have g3:(bt b.data.toList a == 39)=false:=by rw [h]; rfl
 have g4:(bt b.data.toList a == 34)=false:=by rw [h]; rfl
 refine qC (s.n) iK 8 3 ?_;unfold iK;have n0:a < b.data.toList.length:=om;exact tc @aR @aB @az @aA @ay @ae @aj @am @an @aG @aE g0 g1 g2 g3 g4 n0 hC tv
theorem Ic (hb:b.data.toList.length < 1000000000) {a p lv:Nat} (hp:p≤6) (hl:a < b.data.toList.length) (h:bt b.data.toList a=36) (x e:Nat) (hC:∀s,Pc ext 369 [.sc (.string b),iN a,iN p,iN lv] (.agg [.sc (.slice none 0 0),iN x,iN e]) s) (s:PS):Pc ext 350 [.sc (.string b),iN a,iN p,iN lv] (bJ (.error (x,e))) s:=by
 have g0:(bt b.data.toList a == 92)=false:=by rw [h]; rfl
 have g1:(bt b.data.toList a == 96)=false:=by rw [h]; rfl
 have g2:(bt b.data.toList a == 36)=true:=by rw [h]; rfl
 have g3:(bt b.data.toList a == 39)=false:=by rw [h]; rfl
 have g4:(bt b.data.toList a == 34)=false:=by rw [h]; rfl
 refine qC (s.n) iK 8 3 ?_;unfold iK;have n0:a < b.data.toList.length:=om;exact tc @aR @aB @az @aA @ay @ae @aj @am @an @aG @aE g0 g1 g2 g3 g4 n0 hC tv
theorem FW (hb:b.data.toList.length < 1000000000) {a p lv:Nat} (hp:p≤6) (hl:a < b.data.toList.length) (h:bt b.data.toList a=39) (h2:cL p=true) (ps:List aT) (j:Nat) (hC:∀s,Pc ext 370 [.sc (.string b),iN a,iN lv] (.agg [dm ps,iN j,.sc (.int .i64 0)]) s) (s:PS):Pc ext 350 [.sc (.string b),iN a,iN p,iN lv] (bJ (.ok (ps,j))) s:=by
 have g0:(bt b.data.toList a == 92)=false:=by rw [h]; rfl
 have g1:(bt b.data.toList a == 96)=false:=by rw [h]; rfl
 have g2:(bt b.data.toList a == 36)=false:=by rw [h]; rfl
 have g3:(bt b.data.toList a == 39)=true:=by rw [h]; rfl
 have g4:(bt b.data.toList a == 34)=false:=by rw [h]; rfl
 have g5:(cL p)=true:=h2;refine qC (s.n) iK 8 3 ?_;unfold iK;have n0:a < b.data.toList.length:=om;have f0:=fun s=>aZ (ext:=ext) hp s;exact oP @aR @aB @az @aA @ay @ae @aj @am @an @aG @aE g0 g1 g2 g3 g4 g5 n0 f0 hC tv tv
theorem FR (hb:b.data.toList.length < 1000000000) {a p lv:Nat} (hp:p≤6) (hl:a < b.data.toList.length) (h:bt b.data.toList a=39) (h2:cL p=true) (x e:Nat) (hC:∀s,Pc ext 370 [.sc (.string b),iN a,iN lv] (.agg [.sc (.slice none 0 0),iN x,iN e]) s) (s:PS):Pc ext 350 [.sc (.string b),iN a,iN p,iN lv] (bJ (.error (x,e))) s:=by
 have g0:(bt b.data.toList a == 92)=false:=by rw [h]; rfl
 have g1:(bt b.data.toList a == 96)=false:=by rw [h]; rfl
 have g2:(bt b.data.toList a == 36)=false:=by rw [h]; rfl
 have g3:(bt b.data.toList a == 39)=true:=by rw [h]; rfl
 have g4:(bt b.data.toList a == 34)=false:=by rw [h]; rfl
 have g5:(cL p)=true:=h2;refine qC (s.n) iK 8 3 ?_;unfold iK;have n0:a < b.data.toList.length:=om;have f0:=fun s=>aZ (ext:=ext) hp s;exact oP @aR @aB @az @aA @ay @ae @aj @am @an @aG @aE g0 g1 g2 g3 g4 g5 n0 f0 hC tv tv
theorem Gp (hb:b.data.toList.length < 1000000000) {a p lv:Nat} (hp:p≤6) (hl:a < b.data.toList.length) (h:bt b.data.toList a=34) (h2:cL p=true) (ps:List aT) (j:Nat) (hC:∀s,Pc ext 370 [.sc (.string b),iN a,iN lv] (.agg [dm ps,iN j,.sc (.int .i64 0)]) s) (s:PS):Pc ext 350 [.sc (.string b),iN a,iN p,iN lv] (bJ (.ok (ps,j))) s:=by
 have g0:(bt b.data.toList a == 92)=false:=by rw [h]; rfl
 have g1:(bt b.data.toList a == 96)=false:=by rw [h]; rfl
 have g2:(bt b.data.toList a == 36)=false:=by rw [h]; rfl
 have g3:(bt b.data.toList a == 39)=false:=by rw [h]; rfl
 have g4:(bt b.data.toList a == 34)=true:=by rw [h]; rfl
 have g5:(cL p)=true:=h2;refine qC (s.n) iK 8 3 ?_;unfold iK;have n0:a < b.data.toList.length:=om;have f0:=fun s=>aZ (ext:=ext) hp s;exact oP @aR @aB @az @aA @ay @ae @aj @am @an @aG @aE g0 g1 g2 g3 g4 g5 n0 f0 hC tv tv
theorem Gt (hb:b.data.toList.length < 1000000000) {a p lv:Nat} (hp:p≤6) (hl:a < b.data.toList.length) (h:bt b.data.toList a=34) (h2:cL p=true) (x e:Nat) (hC:∀s,Pc ext 370 [.sc (.string b),iN a,iN lv] (.agg [.sc (.slice none 0 0),iN x,iN e]) s) (s:PS):Pc ext 350 [.sc (.string b),iN a,iN p,iN lv] (bJ (.error (x,e))) s:=by
 have g0:(bt b.data.toList a == 92)=false:=by rw [h]; rfl
 have g1:(bt b.data.toList a == 96)=false:=by rw [h]; rfl
 have g2:(bt b.data.toList a == 36)=false:=by rw [h]; rfl
 have g3:(bt b.data.toList a == 39)=false:=by rw [h]; rfl
 have g4:(bt b.data.toList a == 34)=true:=by rw [h]; rfl
 have g5:(cL p)=true:=h2;refine qC (s.n) iK 8 3 ?_;unfold iK;have n0:a < b.data.toList.length:=om;have f0:=fun s=>aZ (ext:=ext) hp s;exact oP @aR @aB @az @aA @ay @ae @aj @am @an @aG @aE g0 g1 g2 g3 g4 g5 n0 f0 hC tv tv
theorem Sl (hb:b.data.toList.length < 1000000000) {a lv:Nat} (hl:a < b.data.toList.length) (h:bR (bt b.data.toList a)=true) (s:PS):Pc ext 350 [.sc (.string b),iN a,iN (0:Nat),iN lv] (bJ (.error (a,6))) s:=by
 have hp : 0≤6:=om;have g0:(bt b.data.toList a == 92)=false:=beq_eq_false_iff_ne.2 fun hh=>by rw [hh] at h; cases h
 have g1:(bt b.data.toList a == 96)=false:=beq_eq_false_iff_ne.2 fun hh=>by rw [hh] at h; cases h
 have g2:(bt b.data.toList a == 36)=false:=beq_eq_false_iff_ne.2 fun hh=>by rw [hh] at h; cases h
 have g3:(bt b.data.toList a == 39)=false:=beq_eq_false_iff_ne.2 fun hh=>by rw [hh] at h; cases h
 have g4:(bt b.data.toList a == 34)=false:=beq_eq_false_iff_ne.2 fun hh=>by rw [hh] at h; cases h
 have g5:(cL 0)=true:=rfl;have hbr:bR (bt b.data.toList a)=(fg (bt b.data.toList a) || bt b.data.toList a == 10 || cY (bt b.data.toList a)):=rfl;rw [hbr] at h;refine qC (s.n) iK 8 3 ?_;unfold iK;cases c1:fg (bt b.data.toList a) with
 | false=>
  cases c2:bt b.data.toList a == 10 with
  | false=>
   have c2p:=ad c2;cases c3:cY (bt b.data.toList a) with
   | false=>
    have n0:a < b.data.toList.length:=om;have n1:a≤a + 1:=om;have n2:a + 1≤b.data.toList.length:=om;have f0:=fun s=>aZ (ext:=ext) hp s;simp -implicitDefEqProofs (disch:=omega) only [ZA,Nat.reduceAdd,Nat.reduceEqDiff,↓reduceIte,Nat.reduceLeDiff,reduceCtorEq,Nat.reduceBEq,Nat.reduceLT,aN,bm,bH,au,bS,aP,ck,br,frz,cx,bQ,dK,eB,aR,List.all_cons,List.all_nil,Bool.and_self,aB,az,aA,ay,List.drop_nil,List.take_nil,ae,aj,ig,fw,am,an,aG,aE,g0,g1,g2,g3,g4,g5,c1,c2,c3,n0,n1,n2,f0,dq,cU]
    all_goals first | exact⟨_,_,_,rfl,rfl,Nat.le_refl _,rfl⟩ | exact⟨_,_,_,rfl,rfl,Nat.le_refl _,bE (ba _ _ _)⟩ | (simp_all; done)
   | true=>
    have n0:a < b.data.toList.length:=om;have f0:=fun s=>aZ (ext:=ext) hp s;simp -implicitDefEqProofs (disch:=omega) only [ZA,Nat.reduceAdd,Nat.reduceEqDiff,↓reduceIte,Nat.reduceLeDiff,reduceCtorEq,Nat.reduceBEq,Nat.reduceLT,aN,bm,bH,au,bS,aP,ck,br,frz,cx,bQ,dK,eB,aR,List.all_cons,List.all_nil,Bool.and_self,aB,az,aA,ay,List.drop_nil,List.take_nil,ae,aj,ig,fw,am,an,aG,aE,g0,g1,g2,g3,g4,g5,c1,c2,c3,n0,f0,dq,cU]
    all_goals first | exact⟨_,_,_,rfl,rfl,Nat.le_refl _,rfl⟩ | exact⟨_,_,_,rfl,rfl,Nat.le_refl _,bE (ba _ _ _)⟩ | (simp_all; done)
  | true=>
   have c2p:=eq_of_beq c2;have n0:a < b.data.toList.length:=om;have f0:=fun s=>aZ (ext:=ext) hp s;simp -implicitDefEqProofs (disch:=omega) only [ZA,Nat.reduceAdd,Nat.reduceEqDiff,↓reduceIte,Nat.reduceLeDiff,reduceCtorEq,Nat.reduceBEq,Nat.reduceLT,aN,bm,bH,au,bS,aP,ck,br,frz,cx,bQ,dK,eB,aR,List.all_cons,List.all_nil,Bool.and_self,aB,az,aA,ay,List.drop_nil,List.take_nil,ae,aj,ig,fw,am,an,aG,aE,g0,g1,g2,g3,g4,g5,c1,c2,n0,f0,dq]
   all_goals first | exact⟨_,_,_,rfl,rfl,Nat.le_refl _,rfl⟩ | exact⟨_,_,_,rfl,rfl,Nat.le_refl _,bE (ba _ _ _)⟩ | (simp_all; done)
 | true=>
  have n0:a < b.data.toList.length:=om;have f0:=fun s=>aZ (ext:=ext) hp s;simp -implicitDefEqProofs (disch:=omega) only [ZA,Nat.reduceAdd,Nat.reduceEqDiff,↓reduceIte,Nat.reduceLeDiff,reduceCtorEq,Nat.reduceBEq,Nat.reduceLT,aN,bm,bH,au,bS,aP,ck,br,frz,cx,bQ,dK,eB,aR,List.all_cons,List.all_nil,Bool.and_self,aB,az,aA,ay,List.drop_nil,List.take_nil,ae,aj,ig,fw,am,an,aG,aE,g0,g1,g2,g3,g4,g5,c1,n0,f0,dq]
  all_goals first | exact⟨_,_,_,rfl,rfl,Nat.le_refl _,rfl⟩ | exact⟨_,_,_,rfl,rfl,Nat.le_refl _,bE (ba _ _ _)⟩ | (simp_all; done)
theorem Pf (hb:b.data.toList.length < 1000000000) {a lv:Nat} (hl:a < b.data.toList.length) (h:bt b.data.toList a=34) (s:PS):Pc ext 350 [.sc (.string b),iN a,iN (3:Nat),iN lv] (bJ (.error (a,6))) s:=by
 have hp : 3≤6:=om;have g0:(bt b.data.toList a == 92)=false:=by rw [h]; rfl
 have g1:(bt b.data.toList a == 96)=false:=by rw [h]; rfl
 have g2:(bt b.data.toList a == 36)=false:=by rw [h]; rfl
 have g3:(bt b.data.toList a == 39)=false:=by rw [h]; rfl
 have g4:(bt b.data.toList a == 34)=true:=by rw [h]; rfl
 have g5:(cL 3)=false:=rfl;refine qC (s.n) iK 8 3 ?_;unfold iK;have n0:a < b.data.toList.length:=om;have f0:=fun s=>aZ (ext:=ext) hp s;simp -implicitDefEqProofs (disch:=omega) only [ZA,Nat.reduceAdd,Nat.reduceEqDiff,↓reduceIte,Nat.reduceLeDiff,reduceCtorEq,Nat.reduceBEq,Nat.reduceLT,aN,bm,bH,au,bS,aP,ck,br,frz,cx,bQ,dK,eB,aR,List.all_cons,List.all_nil,Bool.and_self,aB,az,aA,ay,List.drop_nil,List.take_nil,ae,aj,ig,fw,am,an,aG,aE,g0,g1,g2,g3,g4,g5,n0,f0]
 all_goals first | exact⟨_,_,_,rfl,rfl,Nat.le_refl _,rfl⟩ | exact⟨_,_,_,rfl,rfl,Nat.le_refl _,bE (ba _ _ _)⟩
theorem Lp (hb:b.data.toList.length < 1000000000) {a lv:Nat} (hl:a < b.data.toList.length) (h1:bt b.data.toList a≠92) (h2:bt b.data.toList a≠96) (h3:bt b.data.toList a≠36) (h4:bt b.data.toList a≠39) (h5:bt b.data.toList a≠34) (h6:fg (bt b.data.toList a)=false) (h7:(bt b.data.toList a == 10)=false) (h8:cY (bt b.data.toList a)=false) (s:PS):Pc ext 350 [.sc (.string b),iN a,iN (0:Nat),iN lv] (bJ (.ok ([fG (sub b.data.toList a (a + 1))],a + 1))) s:=by
 have hp : 0≤6:=om;have g0:(bt b.data.toList a == 92)=false:=beq_eq_false_iff_ne.2 (h1);have g1:(bt b.data.toList a == 96)=false:=beq_eq_false_iff_ne.2 (h2);have g2:(bt b.data.toList a == 36)=false:=beq_eq_false_iff_ne.2 (h3);have g3:(bt b.data.toList a == 39)=false:=beq_eq_false_iff_ne.2 (h4);have g4:(bt b.data.toList a == 34)=false:=beq_eq_false_iff_ne.2 (h5);have g5:(cL 0)=true:=rfl;have g6:(fg (bt b.data.toList a))=false:=h6;have g7:(bt b.data.toList a == 10)=false:=h7;have g8:(cY (bt b.data.toList a))=false:=h8;refine qC (s.n) iK 8 3 ?_;unfold iK;have n0:a < b.data.toList.length:=om;have n1:a≤a + 1:=om;have n2:a + 1≤b.data.toList.length:=om;have f0:=fun s=>aZ (ext:=ext) hp s;simp -implicitDefEqProofs (disch:=omega) only [ZA,Nat.reduceAdd,Nat.reduceEqDiff,↓reduceIte,Nat.reduceLeDiff,reduceCtorEq,Nat.reduceBEq,Nat.reduceLT,aN,bm,bH,au,bS,aP,ck,br,frz,cx,bQ,dK,eB,aR,List.all_cons,List.all_nil,Bool.and_self,aB,az,aA,ay,List.drop_nil,List.take_nil,ae,aj,ig,fw,am,an,aG,aE,g0,g1,g2,g3,g4,g5,g6,g7,g8,n0,n1,n2,f0,dq,cU]
 all_goals first | exact⟨_,_,_,rfl,rfl,Nat.le_refl _,rfl⟩ | exact⟨_,_,_,rfl,rfl,Nat.le_refl _,bE (ba _ _ _)⟩
theorem Pm (hb:b.data.toList.length < 1000000000) {a p lv:Nat} (hp:p≤6) (hl:a < b.data.toList.length) (h1:bt b.data.toList a≠92) (h2:bt b.data.toList a≠96) (h3:bt b.data.toList a≠36) (h4:cL p=true→bt b.data.toList a≠39∧bt b.data.toList a≠34) (h5:p≠0) (h6:p=3→bt b.data.toList a≠34) (s:PS):Pc ext 350 [.sc (.string b),iN a,iN p,iN lv] (bJ (.ok ([fG (sub b.data.toList a (a + 1))],a + 1))) s:=by
 have g0:(bt b.data.toList a == 92)=false:=beq_eq_false_iff_ne.2 (h1);have g1:(bt b.data.toList a == 96)=false:=beq_eq_false_iff_ne.2 (h2);have g2:(bt b.data.toList a == 36)=false:=beq_eq_false_iff_ne.2 (h3);have g3:(p == 0)=false:=beq_eq_false_iff_ne.2 h5;refine qC (s.n) iK 8 3 ?_;unfold iK;cases c1:cL p with
 | false=>
  cases c2:p == 3 with
  | false=>
   have c2p:=ad c2;have n0:a < b.data.toList.length:=om;have n1:a≤a + 1:=om;have n2:a + 1≤b.data.toList.length:=om;have f0:=fun s=>aZ (ext:=ext) hp s;simp -implicitDefEqProofs (disch:=omega) only [ZS,seval,ZX,aR,aB,az,aA,ay,ae,aj,am,an,aG,aE,g0,g1,g2,g3,c1,c2,n0,n1,n2,f0]
   all_goals first | exact⟨_,_,_,rfl,rfl,Nat.le_refl _,rfl⟩ | exact⟨_,_,_,rfl,rfl,Nat.le_refl _,bE (ba _ _ _)⟩ | (exact absurd (by assumption) (h6 (by assumption)))
  | true=>
   have c2p:=eq_of_beq c2;cases c3:bt b.data.toList a == 34 with
   | false=>
    have c3p:=ad c3;have n0:a < b.data.toList.length:=om;have n1:a≤a + 1:=om;have n2:a + 1≤b.data.toList.length:=om;have f0:=fun s=>aZ (ext:=ext) hp s;simp -implicitDefEqProofs (disch:=omega) only [ZS,seval,ZX,aR,aB,az,aA,ay,ae,aj,am,an,aG,aE,g0,g1,g2,g3,c1,c2,c3,n0,n1,n2,f0]
    all_goals first | exact⟨_,_,_,rfl,rfl,Nat.le_refl _,rfl⟩ | exact⟨_,_,_,rfl,rfl,Nat.le_refl _,bE (ba _ _ _)⟩ | (exact absurd (by assumption) (h6 (by assumption)))
   | true=>
    have c3p:=eq_of_beq c3;have n0:a < b.data.toList.length:=om;have f0:=fun s=>aZ (ext:=ext) hp s;simp -implicitDefEqProofs (disch:=omega) only [ZS,seval,ZX,aR,aB,az,aA,ay,ae,aj,am,an,aG,aE,g0,g1,g2,g3,c1,c2,c3,n0,f0]
    all_goals first | exact⟨_,_,_,rfl,rfl,Nat.le_refl _,rfl⟩ | exact⟨_,_,_,rfl,rfl,Nat.le_refl _,bE (ba _ _ _)⟩ | (exact absurd (by assumption) (h6 (by assumption)))
 | true=>
  cases c4:bt b.data.toList a == 39 with
  | false=>
   have c4p:=ad c4;cases c5:bt b.data.toList a == 34 with
   | false=>
    have c5p:=ad c5;cases c6:p == 3 with
    | false=>
     have c6p:=ad c6;have n0:a < b.data.toList.length:=om;have n1:a≤a + 1:=om;have n2:a + 1≤b.data.toList.length:=om;have f0:=fun s=>aZ (ext:=ext) hp s;simp -implicitDefEqProofs (disch:=omega) only [ZS,seval,ZX,aR,aB,az,aA,ay,ae,aj,am,an,aG,aE,g0,g1,g2,g3,c1,c4,c5,c6,n0,n1,n2,f0]
     all_goals first | exact⟨_,_,_,rfl,rfl,Nat.le_refl _,rfl⟩ | exact⟨_,_,_,rfl,rfl,Nat.le_refl _,bE (ba _ _ _)⟩ | (exact absurd (by assumption) (h6 (by assumption)))
    | true=>
     have c6p:=eq_of_beq c6;have n0:a < b.data.toList.length:=om;have n1:a≤a + 1:=om;have n2:a + 1≤b.data.toList.length:=om;have f0:=fun s=>aZ (ext:=ext) hp s;simp -implicitDefEqProofs (disch:=omega) only [ZS,seval,ZX,aR,aB,az,aA,ay,ae,aj,am,an,aG,aE,g0,g1,g2,g3,c1,c4,c5,c6,n0,n1,n2,f0]
     all_goals first | exact⟨_,_,_,rfl,rfl,Nat.le_refl _,rfl⟩ | exact⟨_,_,_,rfl,rfl,Nat.le_refl _,bE (ba _ _ _)⟩ | (exact absurd (by assumption) (h6 (by assumption)))
   | true=>
    have c5p:=eq_of_beq c5
    first | exact absurd (by assumption) (h4 (by assumption)).1 | exact absurd (by assumption) (h4 (by assumption)).2 | exact absurd (by assumption) (h6 (by assumption))
  | true=>
   have c4p:=eq_of_beq c4
   first | exact absurd (by assumption) (h4 (by assumption)).1 | exact absurd (by assumption) (h4 (by assumption)).2 | exact absurd (by assumption) (h6 (by assumption))
end Go.Proofs.YtflfflfodghgpaaGreatDoor
set_option linter.unusedSimpArgs false
namespace Go.Proofs.YtflfflfodghgpaaGreatDoor
open Go Go.EvL Go.PE Go.Mir
variable {ext:ai}{b:ByteArray}
theorem RN (hb:b.data.toList.length < 1000000000) {a lv r:Nat} (hl:a < b.data.toList.length) (h:bt b.data.toList a=39) (h2:a + 2≤r) (h3:r≤b.data.toList.length) (hP:∀s,Pc ext 383 [.sc (.string b),iN a,.sc (.int .i64 0)] (.tup [iN r,.sc (.int .i64 0)]) s) (s:PS):Pc ext 370 [.sc (.string b),iN a,iN lv] (bJ (.ok ([tP (sub b.data.toList (a + 1) (r - 1))],r))) s:=by
 have g0:(bt b.data.toList a == 39)=true:=by rw [h]; rfl
 refine qC (s.n) uz 6 3 ?_;unfold uz;have n0:a < b.data.toList.length:=om;have n1 : 1≤r:=om;have n2:a + 1≤r - 1:=om;have n3:r - 1≤b.data.toList.length:=om;exact tc @aR @aB @az @aA @ay @ae @aj @am @an @aG @aE g0 n0 n1 n2 n3 hP tv tv
theorem Pr (hb:b.data.toList.length < 1000000000) {a lv r e:Nat} (hl:a < b.data.toList.length) (h:bt b.data.toList a=39) (he:e≠0) (hP:∀s,Pc ext 383 [.sc (.string b),iN a,.sc (.int .i64 0)] (.tup [iN r,iN e]) s) (s:PS):Pc ext 370 [.sc (.string b),iN a,iN lv] (bJ (.error (r,e))) s:=by
 have g0:(bt b.data.toList a == 39)=true:=by rw [h]; rfl
 have g1:(e == 0)=false:=beq_eq_false_iff_ne.2 he;refine qC (s.n) uz 6 3 ?_;unfold uz;have n0:a < b.data.toList.length:=om;exact Co @aR @aB @az @aA @ay @ae @aj @am @an @aG @aE g0 g1 n0 hP tv
theorem LE (hb:b.data.toList.length < 1000000000) {a lv:Nat} (hl:a < b.data.toList.length) (h:bt b.data.toList a=34) (h2 : 32≤lv) (s:PS):Pc ext 370 [.sc (.string b),iN a,iN lv] (bJ (.error (a,5))) s:=by
 have g0:(bt b.data.toList a == 39)=false:=by rw [h]; rfl
 have g1:(decide (32≤lv))=true:=decide_eq_true h2;refine qC (s.n) uz 6 3 ?_;unfold uz;have n0:a < b.data.toList.length:=om;exact Ru @aR @aB @az @aA @ay @ae @aj @am @an @aG @aE g0 g1 n0
theorem Rl (hb:b.data.toList.length < 1000000000) {a lv:Nat} (hl:a < b.data.toList.length) (h:bt b.data.toList a=34) (h2:lv < 32) (ps:List aT) (j:Nat) (hj:j≤b.data.toList.length) (hC:∀s,Pc ext 328 [.sc (.string b),iN (a + 1:Nat),.sc (.int .i64 2),iN (lv + 1:Nat),iN a] (.agg [dm ps,iN j,.sc (.int .i64 0)]) s) (s:PS):Pc ext 370 [.sc (.string b),iN a,iN lv] (bJ (.ok ([.mk 3 [] 0 false ps],j + 1))) s:=by
 have g0:(bt b.data.toList a == 39)=false:=by rw [h]; rfl
 have g1:(decide (32≤lv))=false:=df;refine qC (s.n) uz 6 3 ?_;unfold uz;have n0:a < b.data.toList.length:=om;exact Co @aR @aB @az @aA @ay @ae @aj @am @an @aG @aE g0 g1 n0 hC tv
theorem Qk (hb:b.data.toList.length < 1000000000) {a lv:Nat} (hl:a < b.data.toList.length) (h:bt b.data.toList a=34) (h2:lv < 32) (x e:Nat) (he:e≠0) (hC:∀s,Pc ext 328 [.sc (.string b),iN (a + 1:Nat),.sc (.int .i64 2),iN (lv + 1:Nat),iN a] (.agg [.sc (.slice none 0 0),iN x,iN e]) s) (s:PS):Pc ext 370 [.sc (.string b),iN a,iN lv] (bJ (.error (x,e))) s:=by
 have g0:(bt b.data.toList a == 39)=false:=by rw [h]; rfl
 have g1:(decide (32≤lv))=false:=df;have g2:(e == 0)=false:=beq_eq_false_iff_ne.2 he;refine qC (s.n) uz 6 3 ?_;unfold uz;have n0:a < b.data.toList.length:=om;exact Co @aR @aB @az @aA @ay @ae @aj @am @an @aG @aE g0 g1 g2 n0 hC
theorem Hl (hb:b.data.toList.length < 1000000000) {a p lv:Nat} (hp:p≤6) (hl:a < b.data.toList.length) (h:bZ b.data.toList a=true) (ps:List aT) (j:Nat) (hC:∀s,Pc ext 386 [.sc (.string b),iN a,iN p,iN lv] (.agg [dm ps,iN j,.sc (.int .i64 0)]) s) (s:PS):Pc ext 369 [.sc (.string b),iN a,iN p,iN lv] (bJ (.ok (ps,j))) s:=by
 have hB:=hb
 replace hb:b.data.toList.length < 4611686018427387904:=om
 have g0:(bZ b.data.toList (a))=true:=h;refine qC (s.n) ua 8 3 ?_;unfold ua;have n0:a≤b.data.toList.length:=om;have f0:=fun s=>cV (ext:=ext) hb (i:=a) om s;exact Co @aR @aB @az @aA @ay @ae @aj @am @an @aG @aE g0 n0 f0 hC tv
theorem GL (hb:b.data.toList.length < 1000000000) {a p lv:Nat} (hp:p≤6) (hl:a < b.data.toList.length) (h:bZ b.data.toList a=true) (x e:Nat) (hC:∀s,Pc ext 386 [.sc (.string b),iN a,iN p,iN lv] (.agg [.sc (.slice none 0 0),iN x,iN e]) s) (s:PS):Pc ext 369 [.sc (.string b),iN a,iN p,iN lv] (bJ (.error (x,e))) s:=by
 have hB:=hb
 replace hb:b.data.toList.length < 4611686018427387904:=om
 have g0:(bZ b.data.toList (a))=true:=h;refine qC (s.n) ua 8 3 ?_;unfold ua;have n0:a≤b.data.toList.length:=om;have f0:=fun s=>cV (ext:=ext) hb (i:=a) om s;exact Co @aR @aB @az @aA @ay @ae @aj @am @an @aG @aE g0 n0 f0 hC tv
theorem No (hb:b.data.toList.length < 1000000000) {a p lv:Nat} (hp:p≤6) (hl:a < b.data.toList.length) (h2:bZ b.data.toList a=false) (h3:cL p=true) (h4:a + 1 < b.data.toList.length) (h5:bt b.data.toList (a + 1)=96) (s:PS):Pc ext 369 [.sc (.string b),iN a,iN p,iN lv] (bJ (.error (a,6))) s:=by
 have hB:=hb
 replace hb:b.data.toList.length < 4611686018427387904:=om
 have g0:(bZ b.data.toList (a))=false:=h2;have g1:(cL p)=true:=h3;have g2:(decide (a + 1 < b.data.toList.length))=true:=decide_eq_true h4;have g3:(bt b.data.toList (a + 1) == 96)=true:=by rw [h5]; rfl
 refine qC (s.n) ua 8 3 ?_;unfold ua;have n0:a≤b.data.toList.length:=om;have n1:a + 1 < b.data.toList.length:=om;have f0:=fun s=>cV (ext:=ext) hb (i:=a) om s;have f1:=fun s=>aZ (ext:=ext) hp s;exact tc @aR @aB @az @aA @ay @ae @aj @am @an @aG @aE g0 g1 g2 g3 n0 n1 f0 f1
theorem Mj (hb:b.data.toList.length < 1000000000) {a p lv:Nat} (hp:p≤6) (hl:a < b.data.toList.length) (h2:bZ b.data.toList a=false) (h3:cL p=true) (h5:cF b.data.toList (a + 1)=true) (s:PS):Pc ext 369 [.sc (.string b),iN a,iN p,iN lv] (bJ (.error (a,6))) s:=by
 have hB:=hb
 replace hb:b.data.toList.length < 4611686018427387904:=om
 have hj1:=iG h5;have g0:(bZ b.data.toList (a))=false:=h2;have g1:(cL p)=true:=h3;have g2:(decide (a + 1 < b.data.toList.length))=true:=decide_eq_true (by have:=iG h5; omega);have g3:(bt b.data.toList (a + 1) == 96)=false:=by rw [(AN h5).1]; rfl
 have g4:(cF b.data.toList (a + 1))=true:=h5;refine qC (s.n) ua 8 3 ?_;unfold ua;have n0:a≤b.data.toList.length:=om;have n1:a + 1 < b.data.toList.length:=om;have n2:a + 1≤b.data.toList.length:=om;have f0:=fun s=>cV (ext:=ext) hb (i:=a) om s;have f1:=fun s=>aZ (ext:=ext) hp s;have f2:=fun s=>fY (ext:=ext) hb (i:=a + 1) om s;exact oP @aR @aB @az @aA @ay @ae @aj @am @an @aG @aE g0 g1 g2 g3 g4 n0 n1 n2 f0 f1 f2
theorem P8 (hb:b.data.toList.length < 1000000000) {a p lv:Nat} (hp:p≤6) (hl:a < b.data.toList.length) (h2:bZ b.data.toList a=false) (h3:cL p=true→¬ (a + 1 < b.data.toList.length∧bt b.data.toList (a + 1)=96)∧cF b.data.toList (a + 1)=false) (s:PS):Pc ext 369 [.sc (.string b),iN a,iN p,iN lv] (bJ (.ok ([fG [36]],a + 1))) s:=by
 have hB:=hb
 replace hb:b.data.toList.length < 4611686018427387904:=om
 have g0:(bZ b.data.toList (a))=false:=h2;refine qC (s.n) ua 8 3 ?_;unfold ua;cases c1:cL p with
 | false=>
  have n0:a≤b.data.toList.length:=om;have f0:=fun s=>cV (ext:=ext) hb (i:=a) om s;have f1:=fun s=>aZ (ext:=ext) hp s;simp -implicitDefEqProofs (disch:=omega) only [ZS,seval,ZX,aR,aB,az,aA,ay,ae,aj,am,an,aG,aE,g0,c1,n0,f0,f1]
  all_goals first | exact⟨_,_,_,rfl,rfl,Nat.le_refl _,rfl⟩ | exact⟨_,_,_,rfl,rfl,Nat.le_refl _,bE (ba _ _ _)⟩ | (exact absurd ⟨by assumption,by assumption⟩ (h3 (by assumption)).1) | (exact absurd ((h3 (by assumption)).2.symm.trans (by assumption)) (by decide))
 | true=>
  cases c2:decide (a + 1 < b.data.toList.length) with
  | false=>
   have c2p:=of_decide_eq_false c2;cases c3:cF b.data.toList (a + 1) with
   | false=>
    have n0:a≤b.data.toList.length:=om;have n1:a + 1≤b.data.toList.length:=om;have f0:=fun s=>cV (ext:=ext) hb (i:=a) om s;have f1:=fun s=>aZ (ext:=ext) hp s;have f2:=fun s=>fY (ext:=ext) hb (i:=a + 1) om s;simp -implicitDefEqProofs (disch:=omega) only [ZS,seval,ZX,aR,aB,az,aA,ay,ae,aj,am,an,aG,aE,g0,c1,c2,c3,n0,n1,f0,f1,f2]
    all_goals first | exact⟨_,_,_,rfl,rfl,Nat.le_refl _,rfl⟩ | exact⟨_,_,_,rfl,rfl,Nat.le_refl _,bE (ba _ _ _)⟩ | (exact absurd ⟨by assumption,by assumption⟩ (h3 (by assumption)).1) | (exact absurd ((h3 (by assumption)).2.symm.trans (by assumption)) (by decide))
   | true=>
    have n0:a≤b.data.toList.length:=om;have n1:a + 1≤b.data.toList.length:=om;have f0:=fun s=>cV (ext:=ext) hb (i:=a) om s;have f1:=fun s=>aZ (ext:=ext) hp s;have f2:=fun s=>fY (ext:=ext) hb (i:=a + 1) om s;simp -implicitDefEqProofs (disch:=omega) only [ZS,seval,ZX,aR,aB,az,aA,ay,ae,aj,am,an,aG,aE,g0,c1,c2,c3,n0,n1,f0,f1,f2]
    all_goals first | exact⟨_,_,_,rfl,rfl,Nat.le_refl _,rfl⟩ | exact⟨_,_,_,rfl,rfl,Nat.le_refl _,bE (ba _ _ _)⟩ | (exact absurd ⟨by assumption,by assumption⟩ (h3 (by assumption)).1) | (exact absurd ((h3 (by assumption)).2.symm.trans (by assumption)) (by decide))
  | true=>
   have c2p:=of_decide_eq_true c2;cases c4:bt b.data.toList (a + 1) == 96 with
   | false=>
    have c4p:=ad c4;cases c5:cF b.data.toList (a + 1) with
    | false=>
     have n0:a≤b.data.toList.length:=om;have n1:a + 1 < b.data.toList.length:=om;have n2:a + 1≤b.data.toList.length:=om;have f0:=fun s=>cV (ext:=ext) hb (i:=a) om s;have f1:=fun s=>aZ (ext:=ext) hp s;have f2:=fun s=>fY (ext:=ext) hb (i:=a + 1) om s;simp -implicitDefEqProofs (disch:=omega) only [ZS,seval,ZX,aR,aB,az,aA,ay,ae,aj,am,an,aG,aE,g0,c1,c2,c4,c5,n0,n1,n2,f0,f1,f2]
     all_goals first | exact⟨_,_,_,rfl,rfl,Nat.le_refl _,rfl⟩ | exact⟨_,_,_,rfl,rfl,Nat.le_refl _,bE (ba _ _ _)⟩ | (exact absurd ⟨by assumption,by assumption⟩ (h3 (by assumption)).1) | (exact absurd ((h3 (by assumption)).2.symm.trans (by assumption)) (by decide))
    | true=>
     have n0:a≤b.data.toList.length:=om;have n1:a + 1 < b.data.toList.length:=om;have n2:a + 1≤b.data.toList.length:=om;have f0:=fun s=>cV (ext:=ext) hb (i:=a) om s;have f1:=fun s=>aZ (ext:=ext) hp s;have f2:=fun s=>fY (ext:=ext) hb (i:=a + 1) om s;simp -implicitDefEqProofs (disch:=omega) only [ZS,seval,ZX,aR,aB,az,aA,ay,ae,aj,am,an,aG,aE,g0,c1,c2,c4,c5,n0,n1,n2,f0,f1,f2]
     all_goals first | exact⟨_,_,_,rfl,rfl,Nat.le_refl _,rfl⟩ | exact⟨_,_,_,rfl,rfl,Nat.le_refl _,bE (ba _ _ _)⟩ | (exact absurd ⟨by assumption,by assumption⟩ (h3 (by assumption)).1) | (exact absurd ((h3 (by assumption)).2.symm.trans (by assumption)) (by decide))
   | true=>
    have c4p:=eq_of_beq c4;have n0:a≤b.data.toList.length:=om;have n1:a + 1 < b.data.toList.length:=om;have f0:=fun s=>cV (ext:=ext) hb (i:=a) om s;have f1:=fun s=>aZ (ext:=ext) hp s;simp -implicitDefEqProofs (disch:=omega) only [ZS,seval,ZX,aR,aB,az,aA,ay,ae,aj,am,an,aG,aE,g0,c1,c2,c4,n0,n1,f0,f1]
    all_goals first | exact⟨_,_,_,rfl,rfl,Nat.le_refl _,rfl⟩ | exact⟨_,_,_,rfl,rfl,Nat.le_refl _,bE (ba _ _ _)⟩ | (exact absurd ⟨by assumption,by assumption⟩ (h3 (by assumption)).1) | (exact absurd ((h3 (by assumption)).2.symm.trans (by assumption)) (by decide))
theorem FM (hb:b.data.toList.length < 1000000000) {a p lv:Nat} (hp:p≤6) (hx:bZ b.data.toList a=true) (h:bt b.data.toList (a + 1)=123) (ps:List aT) (j:Nat) (hC:∀s,Pc ext 396 [.sc (.string b),iN a,iN p,iN lv] (.agg [dm ps,iN j,.sc (.int .i64 0)]) s) (s:PS):Pc ext 386 [.sc (.string b),iN a,iN p,iN lv] (bJ (.ok (ps,j))) s:=by
 have hl1:=bL hx;have hB:=hb
 replace hb:b.data.toList.length < 4611686018427387904:=om
 have g0:(bt b.data.toList (a + 1) == 123)=true:=by rw [h]; rfl
 have g1:(bt b.data.toList (a + 1) == 40)=false:=by rw [h]; rfl
 refine qC (s.n) kS 8 3 ?_;unfold kS;have n0:a + 1 < b.data.toList.length:=om;exact Co @aR @aB @az @aA @ay @ae @aj @am @an @aG @aE g0 g1 n0 hC tv
theorem Fo (hb:b.data.toList.length < 1000000000) {a p lv:Nat} (hp:p≤6) (hx:bZ b.data.toList a=true) (h:bt b.data.toList (a + 1)=123) (x e:Nat) (hC:∀s,Pc ext 396 [.sc (.string b),iN a,iN p,iN lv] (.agg [.sc (.slice none 0 0),iN x,iN e]) s) (s:PS):Pc ext 386 [.sc (.string b),iN a,iN p,iN lv] (bJ (.error (x,e))) s:=by
 have hl1:=bL hx;have hB:=hb
 replace hb:b.data.toList.length < 4611686018427387904:=om
 have g0:(bt b.data.toList (a + 1) == 123)=true:=by rw [h]; rfl
 have g1:(bt b.data.toList (a + 1) == 40)=false:=by rw [h]; rfl
 refine qC (s.n) kS 8 3 ?_;unfold kS;have n0:a + 1 < b.data.toList.length:=om;exact Co @aR @aB @az @aA @ay @ae @aj @am @an @aG @aE g0 g1 n0 hC tv
theorem MU (hb:b.data.toList.length < 1000000000) {a p lv:Nat} (hp:p≤6) (hx:bZ b.data.toList a=true) (h:bt b.data.toList (a + 1)=40) (h2:a + 2 < b.data.toList.length) (h3:bt b.data.toList (a + 2)=40) (h4 : 32≤lv) (s:PS):Pc ext 386 [.sc (.string b),iN a,iN p,iN lv] (bJ (.error (a,5))) s:=by
 have hl1:=bL hx;have hB:=hb
 replace hb:b.data.toList.length < 4611686018427387904:=om
 have g0:(bt b.data.toList (a + 1) == 123)=false:=by rw [h]; rfl
 have g1:(bt b.data.toList (a + 1) == 40)=true:=by rw [h]; rfl
 have g2:(decide (a + 2 < b.data.toList.length))=true:=decide_eq_true h2;have g3:(bt b.data.toList (a + 2) == 40)=true:=by rw [h3]; rfl
 have g4:(decide (32≤lv))=true:=decide_eq_true h4;refine qC (s.n) kS 8 3 ?_;unfold kS;have n0:a + 1 < b.data.toList.length:=om;have n1:a + 2 < b.data.toList.length:=om;exact tc @aR @aB @az @aA @ay @ae @aj @am @an @aG @aE g0 g1 g2 g3 g4 n0 n1 tv
theorem QV (hb:b.data.toList.length < 1000000000) {a p lv:Nat} (hp:p≤6) (hx:bZ b.data.toList a=true) (h:bt b.data.toList (a + 1)=40) (h2:a + 2 < b.data.toList.length) (h3:bt b.data.toList (a + 2)=40) (h4:lv < 32) (ps:List aT) (j:Nat) (hj:j≤b.data.toList.length) (hC:∀s,Pc ext 328 [.sc (.string b),iN (a + 3:Nat),.sc (.int .i64 4),iN (lv + 1:Nat),iN a] (.agg [dm ps,iN j,.sc (.int .i64 0)]) s) (s:PS):Pc ext 386 [.sc (.string b),iN a,iN p,iN lv] (bJ (.ok ([.mk 6 [] 0 false ps],j + 2))) s:=by
 have hl1:=bL hx;have hB:=hb
 replace hb:b.data.toList.length < 4611686018427387904:=om
 have g0:(bt b.data.toList (a + 1) == 123)=false:=by rw [h]; rfl
 have g1:(bt b.data.toList (a + 1) == 40)=true:=by rw [h]; rfl
 have g2:(decide (a + 2 < b.data.toList.length))=true:=decide_eq_true h2;have g3:(bt b.data.toList (a + 2) == 40)=true:=by rw [h3]; rfl
 have g4:(decide (32≤lv))=false:=df;refine qC (s.n) kS 8 3 ?_;unfold kS;have n0:a + 1 < b.data.toList.length:=om;have n1:a + 2 < b.data.toList.length:=om;exact tc @aR @aB @az @aA @ay @ae @aj @am @an @aG @aE g0 g1 g2 g3 g4 n0 n1 hC
theorem KL (hb:b.data.toList.length < 1000000000) {a p lv:Nat} (hp:p≤6) (hx:bZ b.data.toList a=true) (h:bt b.data.toList (a + 1)=40) (h2:a + 2 < b.data.toList.length) (h3:bt b.data.toList (a + 2)=40) (h4:lv < 32) (x e:Nat) (he:e≠0) (hC:∀s,Pc ext 328 [.sc (.string b),iN (a + 3:Nat),.sc (.int .i64 4),iN (lv + 1:Nat),iN a] (.agg [.sc (.slice none 0 0),iN x,iN e]) s) (s:PS):Pc ext 386 [.sc (.string b),iN a,iN p,iN lv] (bJ (.error (x,e))) s:=by
 have hl1:=bL hx;have hB:=hb
 replace hb:b.data.toList.length < 4611686018427387904:=om
 have g0:(bt b.data.toList (a + 1) == 123)=false:=by rw [h]; rfl
 have g1:(bt b.data.toList (a + 1) == 40)=true:=by rw [h]; rfl
 have g2:(decide (a + 2 < b.data.toList.length))=true:=decide_eq_true h2;have g3:(bt b.data.toList (a + 2) == 40)=true:=by rw [h3]; rfl
 have g4:(decide (32≤lv))=false:=df;have g5:(e == 0)=false:=beq_eq_false_iff_ne.2 he;refine qC (s.n) kS 8 3 ?_;unfold kS;have n0:a + 1 < b.data.toList.length:=om;have n1:a + 2 < b.data.toList.length:=om;exact oP @aR @aB @az @aA @ay @ae @aj @am @an @aG @aE g0 g1 g2 g3 g4 g5 n0 n1 hC tv tv
theorem Qw (hb:b.data.toList.length < 1000000000) {a p lv:Nat} (hp:p≤6) (hx:bZ b.data.toList a=true) (h:bt b.data.toList (a + 1)=40) (h2:a + 2 < b.data.toList.length→bt b.data.toList (a + 2)≠40) (r:Nat) (h3:a + 3≤r) (h4:r≤b.data.toList.length) (hP:∀s,Pc ext 383 [.sc (.string b),iN a,iN (ql p)] (.tup [iN r,.sc (.int .i64 0)]) s) (s:PS):Pc ext 386 [.sc (.string b),iN a,iN p,iN lv] (bJ (.ok ([FP (sub b.data.toList (a + 2) (r - 1))],r))) s:=by
 have hl1:=bL hx;have hB:=hb
 replace hb:b.data.toList.length < 4611686018427387904:=om
 have g0:(bt b.data.toList (a + 1) == 123)=false:=by rw [h]; rfl
 have g1:(bt b.data.toList (a + 1) == 40)=true:=by rw [h]; rfl
 refine qC (s.n) kS 8 3 ?_;unfold kS;cases c1:decide (a + 2 < b.data.toList.length) with
 | false=>
  have c1p:=of_decide_eq_false c1;have n0:a + 1 < b.data.toList.length:=om;have n1 : 1≤r:=om;have n2:a + 2≤r - 1:=om;have n3:r - 1≤b.data.toList.length:=om;have f0:=fun s=>qL (ext:=ext) hp s;simp -implicitDefEqProofs (disch:=omega) only [ZA,Nat.reduceAdd,Nat.reduceEqDiff,↓reduceIte,Nat.reduceLeDiff,reduceCtorEq,Nat.reduceBEq,Nat.reduceLT,aN,bm,bH,au,bS,aP,ck,br,frz,cx,bQ,dK,eB,aR,List.all_cons,List.all_nil,Bool.and_self,aB,az,aA,ay,List.drop_nil,List.take_nil,ae,aj,ig,fw,am,an,aG,aE,g0,g1,c1,n0,n1,n2,n3,f0,hP]
  all_goals first | exact⟨_,_,_,rfl,rfl,Nat.le_refl _,rfl⟩ | exact⟨_,_,_,rfl,rfl,Nat.le_refl _,bE (ba _ _ _)⟩ | (exact absurd (by assumption) (h2 (by assumption)))
 | true=>
  have c1p:=of_decide_eq_true c1;cases c2:bt b.data.toList (a + 2) == 40 with
  | false=>
   have c2p:=ad c2;have n0:a + 1 < b.data.toList.length:=om;have n1:a + 2 < b.data.toList.length:=om;have n2 : 1≤r:=om;have n3:a + 2≤r - 1:=om;have n4:r - 1≤b.data.toList.length:=om;have f0:=fun s=>qL (ext:=ext) hp s;simp -implicitDefEqProofs (disch:=omega) only [ZS,seval,ZX,aR,aB,az,aA,ay,ae,aj,am,an,aG,aE,g0,g1,c1,c2,n0,n1,n2,n3,n4,f0,hP]
   all_goals first | exact⟨_,_,_,rfl,rfl,Nat.le_refl _,rfl⟩ | exact⟨_,_,_,rfl,rfl,Nat.le_refl _,bE (ba _ _ _)⟩ | (exact absurd (by assumption) (h2 (by assumption)))
  | true=>
   have c2p:=eq_of_beq c2;cases c3:decide (32≤lv) with
   | false=>
    have c3p:=of_decide_eq_false c3;exact absurd (by assumption) (h2 (by assumption))
   | true=>
    have c3p:=of_decide_eq_true c3;have n0:a + 1 < b.data.toList.length:=om;have n1:a + 2 < b.data.toList.length:=om;simp -implicitDefEqProofs (disch:=omega) only [ZS,seval,ZX,aR,aB,az,aA,ay,ae,aj,am,an,aG,aE,g0,g1,c1,c2,c3,n0,n1]
    all_goals first | exact⟨_,_,_,rfl,rfl,Nat.le_refl _,rfl⟩ | exact⟨_,_,_,rfl,rfl,Nat.le_refl _,bE (ba _ _ _)⟩ | (exact absurd (by assumption) (h2 (by assumption)))
theorem KW (hb:b.data.toList.length < 1000000000) {a p lv:Nat} (hp:p≤6) (hx:bZ b.data.toList a=true) (h:bt b.data.toList (a + 1)=40) (h2:a + 2 < b.data.toList.length→bt b.data.toList (a + 2)≠40) (r e:Nat) (he:e≠0) (hP:∀s,Pc ext 383 [.sc (.string b),iN a,iN (ql p)] (.tup [iN r,iN e]) s) (s:PS):Pc ext 386 [.sc (.string b),iN a,iN p,iN lv] (bJ (.error (r,e))) s:=by
 have hl1:=bL hx;have hB:=hb
 replace hb:b.data.toList.length < 4611686018427387904:=om
 have g0:(bt b.data.toList (a + 1) == 123)=false:=by rw [h]; rfl
 have g1:(bt b.data.toList (a + 1) == 40)=true:=by rw [h]; rfl
 have g2:(e == 0)=false:=beq_eq_false_iff_ne.2 he;refine qC (s.n) kS 8 3 ?_;unfold kS;cases c1:decide (a + 2 < b.data.toList.length) with
 | false=>
  have c1p:=of_decide_eq_false c1;have n0:a + 1 < b.data.toList.length:=om;have f0:=fun s=>qL (ext:=ext) hp s;simp -implicitDefEqProofs (disch:=omega) only [ZS,seval,ZX,aR,aB,az,aA,ay,ae,aj,am,an,aG,aE,g0,g1,g2,c1,n0,f0,hP]
  all_goals first | exact⟨_,_,_,rfl,rfl,Nat.le_refl _,rfl⟩ | exact⟨_,_,_,rfl,rfl,Nat.le_refl _,bE (ba _ _ _)⟩ | (exact absurd (by assumption) (h2 (by assumption)))
 | true=>
  have c1p:=of_decide_eq_true c1;cases c2:bt b.data.toList (a + 2) == 40 with
  | false=>
   have c2p:=ad c2;have n0:a + 1 < b.data.toList.length:=om;have n1:a + 2 < b.data.toList.length:=om;have f0:=fun s=>qL (ext:=ext) hp s;simp -implicitDefEqProofs (disch:=omega) only [ZS,seval,ZX,aR,aB,az,aA,ay,ae,aj,am,an,aG,aE,g0,g1,g2,c1,c2,n0,n1,f0,hP]
   all_goals first | exact⟨_,_,_,rfl,rfl,Nat.le_refl _,rfl⟩ | exact⟨_,_,_,rfl,rfl,Nat.le_refl _,bE (ba _ _ _)⟩ | (exact absurd (by assumption) (h2 (by assumption)))
  | true=>
   have c2p:=eq_of_beq c2;cases c3:decide (32≤lv) with
   | false=>
    have c3p:=of_decide_eq_false c3;exact absurd (by assumption) (h2 (by assumption))
   | true=>
    have c3p:=of_decide_eq_true c3;have n0:a + 1 < b.data.toList.length:=om;have n1:a + 2 < b.data.toList.length:=om;simp -implicitDefEqProofs (disch:=omega) only [ZS,seval,ZX,aR,aB,az,aA,ay,ae,aj,am,an,aG,aE,g0,g1,g2,c1,c2,c3,n0,n1]
    all_goals first | exact⟨_,_,_,rfl,rfl,Nat.le_refl _,rfl⟩ | exact⟨_,_,_,rfl,rfl,Nat.le_refl _,bE (ba _ _ _)⟩ | (exact absurd (by assumption) (h2 (by assumption)))
theorem S7 (hb:b.data.toList.length < 1000000000) {a p lv:Nat} (hp:p≤6) (hx:bZ b.data.toList a=true) (h:cd (bt b.data.toList (a + 1))=true) (s:PS):Pc ext 386 [.sc (.string b),iN a,iN p,iN lv] (bJ (.ok ([sg (sub b.data.toList (a + 1) (a + 2))],a + 2))) s:=by
 have hl1:=bL hx;have hB:=hb
 replace hb:b.data.toList.length < 4611686018427387904:=om
 have g0:(bt b.data.toList (a + 1) == 123)=false:=beq_eq_false_iff_ne.2 fun hh=>by rw [hh] at h; cases h
 have g1:(bt b.data.toList (a + 1) == 40)=false:=beq_eq_false_iff_ne.2 fun hh=>by rw [hh] at h; cases h
 have g2:(cd (bt b.data.toList (a + 1)))=true:=h;refine qC (s.n) kS 8 3 ?_;unfold kS;have n0:a + 1 < b.data.toList.length:=om;have n1:a + 1≤a + 2:=om;have n2:a + 2≤b.data.toList.length:=om;simp -implicitDefEqProofs (disch:=omega) only [ZA,Nat.reduceAdd,Nat.reduceEqDiff,↓reduceIte,Nat.reduceLeDiff,reduceCtorEq,Nat.reduceBEq,Nat.reduceLT,aN,bm,bH,au,bS,aP,ck,br,frz,cx,bQ,dK,eB,aR,List.all_cons,List.all_nil,Bool.and_self,aB,az,aA,ay,List.drop_nil,List.take_nil,ae,aj,ig,fw,am,an,aG,aE,g0,g1,g2,n0,n1,n2,gg]
 all_goals first | exact⟨_,_,_,rfl,rfl,Nat.le_refl _,rfl⟩ | exact⟨_,_,_,rfl,rfl,Nat.le_refl _,bE (ba _ _ _)⟩
theorem Mr (hb:b.data.toList.length < 1000000000) {a p lv:Nat} (hp:p≤6) (hx:bZ b.data.toList a=true) (h2:cd (bt b.data.toList (a + 1))=false) (h3:bt b.data.toList (a + 1)≠123) (h4:bt b.data.toList (a + 1)≠40) (h5 : 32 < dP b.data.toList (a + 1) - a - 1) (s:PS):Pc ext 386 [.sc (.string b),iN a,iN p,iN lv] (bJ (.error (a,3))) s:=by
 have hl1:=bL hx;have hB:=hb
 replace hb:b.data.toList.length < 4611686018427387904:=om
 have hgt:=qR hx h3 h4 h2;have hle:dP b.data.toList (a + 1)≤b.data.toList.length:=kr om;have g0:(bt b.data.toList (a + 1) == 123)=false:=beq_eq_false_iff_ne.2 (h3);have g1:(bt b.data.toList (a + 1) == 40)=false:=beq_eq_false_iff_ne.2 (h4);have g2:(cd (bt b.data.toList (a + 1)))=false:=h2;have g3:(decide (32 < dP b.data.toList (a + 1) - a - 1))=true:=decide_eq_true h5;refine qC (s.n) kS 8 3 ?_;unfold kS;have n0:a + 1 < b.data.toList.length:=om;have n1:a + 1≤b.data.toList.length:=om;have n2:a≤dP b.data.toList (a + 1):=om;have n3 : 1≤dP b.data.toList (a + 1) - a:=om;have f1:=fun s=>vn (ext:=ext) hb (i:=a + 1) om s;exact oP @aR @aB @az @aA @ay @ae @aj @am @an @aG @aE g0 g1 g2 g3 n0 n1 n2 n3 @gg f1 tv
theorem RO (hb:b.data.toList.length < 1000000000) {a p lv:Nat} (hp:p≤6) (hx:bZ b.data.toList a=true) (h2:cd (bt b.data.toList (a + 1))=false) (h3:bt b.data.toList (a + 1)≠123) (h4:bt b.data.toList (a + 1)≠40) (h5:dP b.data.toList (a + 1) - a - 1≤32) (s:PS):Pc ext 386 [.sc (.string b),iN a,iN p,iN lv] (bJ (.ok ([sg (sub b.data.toList (a + 1) (dP b.data.toList (a + 1)))],dP b.data.toList (a + 1)))) s:=by
 have hl1:=bL hx;have hB:=hb
 replace hb:b.data.toList.length < 4611686018427387904:=om
 have hgt:=qR hx h3 h4 h2;have hle:dP b.data.toList (a + 1)≤b.data.toList.length:=kr om;have g0:(bt b.data.toList (a + 1) == 123)=false:=beq_eq_false_iff_ne.2 (h3);have g1:(bt b.data.toList (a + 1) == 40)=false:=beq_eq_false_iff_ne.2 (h4);have g2:(cd (bt b.data.toList (a + 1)))=false:=h2;have g3:(decide (32 < dP b.data.toList (a + 1) - a - 1))=false:=df;refine qC (s.n) kS 8 3 ?_;unfold kS;have n0:a + 1 < b.data.toList.length:=om;have n1:a + 1≤b.data.toList.length:=om;have n2:a≤dP b.data.toList (a + 1):=om;have n3 : 1≤dP b.data.toList (a + 1) - a:=om;have n4:a + 1≤dP b.data.toList (a + 1):=om;have n5:dP b.data.toList (a + 1)≤b.data.toList.length:=om;have f1:=fun s=>vn (ext:=ext) hb (i:=a + 1) om s;exact Bh @aR @aB @az @aA @ay @ae @aj @am @an @aG @aE g0 g1 g2 g3 n0 n1 n2 n3 n4 n5 @gg f1 tv tv tv
end Go.Proofs.YtflfflfodghgpaaGreatDoor
set_option linter.unusedSimpArgs false
namespace Go.Proofs.YtflfflfodghgpaaGreatDoor
open Go Go.EvL Go.PE Go.Mir
variable {ext:ai}{b:ByteArray}
theorem tM (t:List UInt8):((⟨⟨t⟩⟩ : ByteArray).toList == (⟨#[]⟩ : ByteArray).toList)=t.isEmpty:=by
 rw [ByteArray.toList_eq,ByteArray.toList_eq];cases t<;>rfl
theorem pe {P:Program} (x y:Operand) {u t w:List UInt8} (h:u.length + t.length < 4611686018427387904) (hw:u ++ t=w):gP P .add 9 x y (.sc (.string ⟨⟨u⟩⟩)) (.sc (.string ⟨⟨t⟩⟩))=some (.sc (.string ⟨⟨w⟩⟩)):=by
 rw [l7 9 x y (by show u.length + t.length < _; omega),wX,hw]
theorem nA {t:List UInt8} (ht:t.length < 1000000000) {g:Bool} (h:Closed t g) (s:PS):Pc ext 384 [.sc (.string ⟨⟨t⟩⟩)] (.sc (.bool g)) s:=by
 cases h with
 | @mk r e k=>
  have hlen:(wrap t).length=t.length + 3:=by unfold wrap; simp
  have hp:∀s,_:=pT (ext:=ext) (b:=⟨⟨wrap t⟩⟩) (by show (wrap t).length < _; omega) k (by show 0 < (wrap t).length; omega);rw [show ((0:Nat):Int)=0 from rfl] at hp;refine q1 Om 2 ?_;have ha:=fun x y=>pe (P:=Tryz.prog) x y (u:=[36,40]) (t:=t) (w:=36 :: 40 :: t) (by simp only [List.length_cons,List.length_nil]; omega) rfl;have hc:=fun x y=>pe (P:=Tryz.prog) x y (u:=36 :: 40 :: t) (t:=[41]) (w:=wrap t) (by simp only [List.length_cons,List.length_nil]; omega) rfl;have hn:=tM t;unfold Om;cases c1:e == 0 with
  | false=>exact tI ha hc hp c1 hlen
  | true=>
   cases c2:r == t.length + 3 with
   | false=>exact kU ha hc hp c1 c2 hlen
   | true=>
    cases t with
    | nil=>
     rw [show ([]:List UInt8).isEmpty=true from rfl] at hn;simp only [List.length_nil,Nat.zero_add] at c2 hlen ht;exact wn ha hc hp c1 c2 hlen hn
    | cons c t=>
     rw [show (c :: t).isEmpty=false from rfl] at hn;have h0 : 0 < (c :: t).length:=by simp
     have hb0:bt (c :: t) 0=c.toNat:=rfl;have hh:((c :: t).isEmpty || (c :: t).head? != some 40)=!(bt (c :: t) 0 == 40):=by
      rw [hb0];show (some c != some 40)=_;cases c3:c.toNat == 40 with
      | true=>
       have:c=40:=UInt8.toNat_inj.1 (eq_of_beq c3);rw [this]; rfl
      | false=>
       have:c≠40:=fun hh=>by rw [hh] at c3; cases c3
       simp [this]
     rw [hh];simp only [List.length_cons] at c2 h0 hlen ht;exact A9 ha hc hp c1 c2 hlen hn h0
theorem Ac {l:List UInt8}{i e:Nat} (h:i < e) (he:e≤l.length):∃c:UInt8,c.toNat=bt l i∧sub l i e=c :: sub l (i + 1) e∧sub l i (i + 1)=[c]:=by
 have hl:i < l.length:=om;refine⟨l[i],(nL hl).symm,?_,?_⟩
 ·unfold sub;rw [oj hl,show e - i=(e - (i + 1)) + 1 by omega,List.take_succ_cons]
 ·unfold sub;rw [oj hl,show i + 1 - i=0 + 1 by omega,List.take_succ_cons,List.take_zero]
theorem DV (c:UInt8) (l:List UInt8) (h:c.toNat≠92∨∀d l',l=d :: l'→d.toNat≠96∧d.toNat≠92∧d.toNat≠36):oO (c :: l)=c :: oO l:=by
 cases l with
 | nil=>rw [oO,oO]
 | cons d l=>
  rw [oO,if_neg];rintro⟨h1,h2⟩;rcases h with h | h
  ·rw [h1] at h; exact h rfl
  ·have h3:=h d l rfl;rcases h2 with h2 | h2 | h2<;>(rw [h2] at h3; simp at h3)
theorem Ky (c d:UInt8) (l:List UInt8) (h:c.toNat=92) (h2:d.toNat=96∨d.toNat=92∨d.toNat=36):oO (c :: d :: l)=d :: oO l:=by
 have hc:c=92:=UInt8.toNat_inj.1 h;have hd:d=96∨d=92∨d=36:=by
  rcases h2 with h2 | h2 | h2
  ·exact .inl (UInt8.toNat_inj.1 h2)
  ·exact .inr (.inl (UInt8.toNat_inj.1 h2))
  ·exact .inr (.inr (UInt8.toNat_inj.1 h2))
 rw [oO,if_pos ⟨hc,hd⟩]
structure Ra (b:ByteArray) (a r:Nat) (k4:PV) (f:aO):Prop where
 f0:f 0=.sc (.string b)
 f1:f 1=iN a
 f4:f 4=k4
 f5:f 5=iN r
theorem Mq (hb:b.data.toList.length < 1000000000) {a r:Nat}{k4:PV}{V:aO→PS→Prop} (s:PS) (U:List UInt8) (hr:r≤b.data.toList.length) (hr1 : 1≤r) (hal:a < b.data.toList.length)
  (hV:∀f,Ra b a r k4 f→f 7=.sc (.string ⟨⟨U⟩⟩)→Er V (aS Tryz.prog Γ ext hZ f s)) :
  ∀(m i:Nat) (t:List UInt8) (f:aO),r - i < m→i < r→Lx b.data.toList (.bq i a) r 0→Ra b a r k4 f→f 7=.sc (.string ⟨⟨t⟩⟩)→f 8=iN i→t.length≤i→U=t ++ oO (sub b.data.toList i (r - 1))→Er V (LP Tryz.prog Γ ext 0 m7 hZ f s):=by
 intro m
 induction m with
 | zero=>intro i t f h; omega
 | succ m ih=>
  intro i t f hm hir hk hI h7 h8 htl hU;have hI':=hI;obtain⟨h0,h1,h4,h5⟩:=hI;by_cases hlt:i < r - 1
  ·have hl:i < b.data.toList.length:=om;have e1:decide (i < r - 1)=true:=decide_eq_true hlt;obtain⟨c,c1,c2,c3⟩:=Ac (l:=b.data.toList) hlt om;have c3':(b.data.toList.drop i).take (i + 1 - i)=[c]:=c3;have n1:i≤i + 1:=om;have n2:i + 1≤b.data.toList.length:=om;cases hk with
   | b_q hl h=>omega
   | b_esc h h2 k=>
    have hb2:=k.bound ⟨om,om⟩;have hb3:=hb2.2 rfl;simp only [fV.at] at hb3;have q92:(bt b.data.toList i == 92)=true:=by rw [h]; rfl
    obtain⟨d,d1,d2,d3⟩:=Ac (l:=b.data.toList) (i:=i + 1) (e:=r - 1) om om;have d3':(b.data.toList.drop (i + 1)).take (i + 1 + 1 - (i + 1))=[d]:=d3;have n3:i + 1≤i + 1 + 1:=om;have n4:i + 1 + 1≤b.data.toList.length:=om;have hg1:=fun x y=>pe (P:=Tryz.prog) x y (u:=t) (t:=[d]) (w:=t ++ [d]) (by simp only [List.length_cons,List.length_nil]; omega) rfl;have hg2:=fun x y=>pe (P:=Tryz.prog) x y (u:=t) (t:=[c]) (w:=t ++ [c]) (by simp only [List.length_cons,List.length_nil]; omega) rfl;have yes:(bt b.data.toList (i + 1)=96∨bt b.data.toList (i + 1)=92∨bt b.data.toList (i + 1)=36)→U=(t ++ [d]) ++ oO (sub b.data.toList (i + 1 + 1) (r - 1)):=fun hd=>by
     rw [hU,c2,d2,Ky c d _ (by rw [c1,h]) (by rw [d1]; exact hd),List.append_assoc]; rfl
    refine ac fun L hL=>?_;cases q96:bt b.data.toList (i + 1) == 96 with
    | true=>
     refine Du @m7.eq_1 h0 h1 h4 h5 h7 h8 e1 hl h2 q92 q96 @D9 @xE d3' n3 n4 hg1 tv ?_;subst hL;exact ih (i + 1 + 1) (t ++ [d]) _ om om k ⟨fR h0,fR h1,fR h4,fR h5⟩ eY eY (by simp only [List.length_append,List.length_cons,List.length_nil]; omega) (yes (.inl (eq_of_beq q96)))
    | false=>
     cases q92b:bt b.data.toList (i + 1) == 92 with
     | true=>
      refine Du @m7.eq_1 h0 h1 h4 h5 h7 h8 e1 hl h2 q92 q96 q92b @D9 @xE d3' n3 n4 hg1 ?_;subst hL;exact ih (i + 1 + 1) (t ++ [d]) _ om om k ⟨fR h0,fR h1,fR h4,fR h5⟩ eY eY (by simp only [List.length_append,List.length_cons,List.length_nil]; omega) (yes (.inr (.inl (eq_of_beq q92b))))
     | false=>
      cases q36:bt b.data.toList (i + 1) == 36 with
      | true=>
       refine RX @m7.eq_1 h0 h1 h4 h5 h7 h8 e1 hl h2 q92 q96 q92b q36 @D9 @xE d3' n3 n4 hg1 tv tv ?_;subst hL;exact ih (i + 1 + 1) (t ++ [d]) _ om om k ⟨fR h0,fR h1,fR h4,fR h5⟩ eY eY (by simp only [List.length_append,List.length_cons,List.length_nil]; omega) (yes (.inr (.inr (eq_of_beq q36))))
      | false=>
       have hu:U=(t ++ [c]) ++ oO (sub b.data.toList (i + 1) (r - 1)):=by
        rw [hU,c2,DV c _ (.inr fun d' l' hdl=>by
         rw [d2] at hdl;injection hdl with hd hd2;rw [← hd,d1];exact⟨ad q96,ad q92b,ad q36⟩),List.append_assoc]; rfl
       refine rG @m7.eq_1 h0 h1 h4 h5 h7 h8 e1 hl h2 q92 q96 q92b q36 c3' n1 n2 hg2 tv ?_;subst hL;exact ih (i + 1) (t ++ [c]) _ om om (.b_one om (ad q96) (ad q92b) k) ⟨aL h0,aL h1,aL h4,aL h5⟩ bh bh (by simp only [List.length_append,List.length_cons,List.length_nil]; omega) hu
   | b_one hl2 h h2 k=>
    have q92:(bt b.data.toList i == 92)=false:=beq_eq_false_iff_ne.2 h2;have hg2:=fun x y=>pe (P:=Tryz.prog) x y (u:=t) (t:=[c]) (w:=t ++ [c]) (by simp only [List.length_cons,List.length_nil]; omega) rfl;have hu:U=(t ++ [c]) ++ oO (sub b.data.toList (i + 1) (r - 1)):=by
     rw [hU,c2,DV c _ (.inl (by rw [c1]; exact h2)),List.append_assoc]; rfl
    refine ac fun L hL=>?_;refine qJ @m7.eq_1 h0 h1 h4 h5 h7 h8 e1 hl q92 c3' n1 n2 hg2 ?_;subst hL;exact ih (i + 1) (t ++ [c]) _ om om k ⟨aL h0,aL h1,aL h4,aL h5⟩ bh bh (by simp only [List.length_append,List.length_cons,List.length_nil]; omega) hu
  ·have e1:decide (i < r - 1)=false:=decide_eq_false hlt;have hs:sub b.data.toList i (r - 1)=[]:=List.eq_nil_of_length_eq_zero (by rw [rm om]; omega);rw [hs,show oO []=[] from by rw [oO],List.append_nil] at hU;refine ac fun L hL=>?_;refine Bz @m7.eq_1 h0 h1 h4 h5 h7 h8 e1 ?_;subst hU;exact hV _ ⟨aL h0,aL h1,aL h4,aL h5⟩ (aL h7)
end Go.Proofs.YtflfflfodghgpaaGreatDoor
set_option linter.unusedSimpArgs false
namespace Go.Proofs.YtflfflfodghgpaaGreatDoor
open Go Go.EvL Go.PE Go.Mir
variable {ext:ai}{b:ByteArray}
theorem C6 {a r:Nat}{U T:List UInt8} (hT:T=fm U) (hU:U.length + 2 < 1000000000) (c1:Closed T true) {s:PS}{q:List PV} (hq:bJ (.ok ([FP T],r))=.agg q) (f:aO) (hI:Ra b a r (.ptr s.n 0 3) f) (h7:f 7=.sc (.string ⟨⟨U⟩⟩)) :
  Er (fun f' s'=>s.n≤s'.w∧f' 4=.ptr s.n 0 3∧∃cs low e,s'.h s.n=⟨cs,low,e⟩∧cs.length=3∧low≤3∧j7 s.n s' cs=some q) (aS Tryz.prog Γ ext hZ f ((⟨s.h,s.n,s.n⟩ : PS).new ⟨[.sc (.slice none 0 0),.sc (.int .i64 0),.sc (.int .i64 0)],0,314⟩)):=by
 obtain⟨h0,h1,h4,h5⟩:=hI;rw [bJ] at hq;injection hq with hq;subst hq;have hTl:T.length≤U.length + 1:=by rw [hT]; unfold fm; split<;>simp
 have k1:=fun s=>nA (ext:=ext) om c1 s;have hn:=tM U;cases U with
 | nil=>
  rw [show ([]:List UInt8).isEmpty=true from rfl] at hn;have hT0:T=[]:=hT;subst hT0;exact tc @hZ.eq_1 h0 h1 h4 h5 h7 hn k1 @aR @aB @az @aA @ay @ae @aj @am @an @aG @aE
 | cons c U=>
  rw [show (c :: U).isEmpty=false from rfl] at hn;have hz : 0 < (c :: U).length:=by simp
  cases c0:bt (c :: U) 0 == 40 with
  | true=>
   have hc:c=40:=UInt8.toNat_inj.1 (eq_of_beq c0);have hT1:T=32 :: c :: U:=by rw [hT]; unfold fm; rw [if_pos (by rw [hc]; rfl)]
   have hs:=fun x y=>pe (P:=Tryz.prog) x y (u:=[32]) (t:=c :: U) (w:=T) (by simp only [List.length_cons,List.length_nil] at *; omega) hT1.symm;simp only [List.length_cons] at hz;exact oP @hZ.eq_1 h0 h1 h4 h5 h7 hn hz c0 hs k1 @aR @aB @az @aA @ay @ae @aj @am @an @aG @aE
  | false=>
   have hc:c≠40:=fun hh=>by rw [hh] at c0; cases c0
   have hT1:T=c :: U:=by rw [hT]; unfold fm; rw [if_neg (by simp [hc])]
   rw [← hT1] at h7 hn c0 hz;exact oP @hZ.eq_1 h0 h1 h4 h5 h7 hn hz c0 k1 @aR @aB @az @aA @ay @ae @aj @am @an @aG @aE tv
theorem Do {a r:Nat}{U T:List UInt8} (hT:T=fm U) (hU:U.length + 2 < 1000000000) (c1:Closed T false) (c2:Closed (T ++ [10]) true) {s:PS}{q:List PV} (hq:bJ (.ok ([FP (T ++ [10])],r))=.agg q) (f:aO) (hI:Ra b a r (.ptr s.n 0 3) f) (h7:f 7=.sc (.string ⟨⟨U⟩⟩)) :
  Er (fun f' s'=>s.n≤s'.w∧f' 4=.ptr s.n 0 3∧∃cs low e,s'.h s.n=⟨cs,low,e⟩∧cs.length=3∧low≤3∧j7 s.n s' cs=some q) (aS Tryz.prog Γ ext hZ f ((⟨s.h,s.n,s.n⟩ : PS).new ⟨[.sc (.slice none 0 0),.sc (.int .i64 0),.sc (.int .i64 0)],0,314⟩)):=by
 obtain⟨h0,h1,h4,h5⟩:=hI;rw [bJ] at hq;injection hq with hq;subst hq;have hTl:T.length≤U.length + 1:=by rw [hT]; unfold fm; split<;>simp
 have k1:=fun s=>nA (ext:=ext) om c1 s;have k2:=fun s=>nA (ext:=ext) (by rw [List.length_append,List.length_cons,List.length_nil]; omega) c2 s;have ha:=fun x y=>pe (P:=Tryz.prog) x y (u:=T) (t:=[10]) (w:=T ++ [10]) (by simp only [List.length_cons,List.length_nil]; omega) rfl;have hn:=tM U;cases U with
 | nil=>
  rw [show ([]:List UInt8).isEmpty=true from rfl] at hn;have hT0:T=[]:=hT;subst hT0;simp only [List.nil_append] at ha k2 ⊢;exact oP @hZ.eq_1 h0 h1 h4 h5 h7 hn k1 k2 ha @aR @aB @az @aA @ay @ae @aj @am @an @aG @aE tv
 | cons c U=>
  rw [show (c :: U).isEmpty=false from rfl] at hn;have hz : 0 < (c :: U).length:=by simp
  cases c0:bt (c :: U) 0 == 40 with
  | true=>
   have hc:c=40:=UInt8.toNat_inj.1 (eq_of_beq c0);have hT1:T=32 :: c :: U:=by rw [hT]; unfold fm; rw [if_pos (by rw [hc]; rfl)]
   have hs:=fun x y=>pe (P:=Tryz.prog) x y (u:=[32]) (t:=c :: U) (w:=T) (by simp only [List.length_cons,List.length_nil] at *; omega) hT1.symm;simp only [List.length_cons] at hz;exact Bh @hZ.eq_1 h0 h1 h4 h5 h7 hn hz c0 hs k1 k2 ha @aR @aB @az @aA @ay @ae @aj @am @an @aG @aE tv tv
  | false=>
   have hc:c≠40:=fun hh=>by rw [hh] at c0; cases c0
   have hT1:T=c :: U:=by rw [hT]; unfold fm; rw [if_neg (by simp [hc])]
   rw [← hT1] at h7 hn c0 hz;exact Bh @hZ.eq_1 h0 h1 h4 h5 h7 hn hz c0 k1 k2 ha @aR @aB @az @aA @ay @ae @aj @am @an @aG @aE tv tv tv
theorem Da {a r:Nat}{U T:List UInt8} (hT:T=fm U) (hU:U.length + 2 < 1000000000) (c1:Closed T false) (c2:Closed (T ++ [10]) false) {s:PS}{q:List PV} (hq:bJ (.error (a,6))=.agg q) (f:aO) (hI:Ra b a r (.ptr s.n 0 3) f) (h7:f 7=.sc (.string ⟨⟨U⟩⟩)) :
  Er (fun f' s'=>s.n≤s'.w∧f' 4=.ptr s.n 0 3∧∃cs low e,s'.h s.n=⟨cs,low,e⟩∧cs.length=3∧low≤3∧j7 s.n s' cs=some q) (aS Tryz.prog Γ ext hZ f ((⟨s.h,s.n,s.n⟩ : PS).new ⟨[.sc (.slice none 0 0),.sc (.int .i64 0),.sc (.int .i64 0)],0,314⟩)):=by
 obtain⟨h0,h1,h4,h5⟩:=hI;rw [bJ] at hq;injection hq with hq;subst hq;have hTl:T.length≤U.length + 1:=by rw [hT]; unfold fm; split<;>simp
 have k1:=fun s=>nA (ext:=ext) om c1 s;have k2:=fun s=>nA (ext:=ext) (by rw [List.length_append,List.length_cons,List.length_nil]; omega) c2 s;have ha:=fun x y=>pe (P:=Tryz.prog) x y (u:=T) (t:=[10]) (w:=T ++ [10]) (by simp only [List.length_cons,List.length_nil]; omega) rfl;have hn:=tM U;cases U with
 | nil=>
  rw [show ([]:List UInt8).isEmpty=true from rfl] at hn;have hT0:T=[]:=hT;subst hT0;simp only [List.nil_append] at ha k2 ⊢;exact oP @hZ.eq_1 h0 h1 h4 h5 h7 hn k1 k2 ha @aR @aB @az @aA @ay @ae @aj @am @an @aG @aE tv
 | cons c U=>
  rw [show (c :: U).isEmpty=false from rfl] at hn;have hz : 0 < (c :: U).length:=by simp
  cases c0:bt (c :: U) 0 == 40 with
  | true=>
   have hc:c=40:=UInt8.toNat_inj.1 (eq_of_beq c0);have hT1:T=32 :: c :: U:=by rw [hT]; unfold fm; rw [if_pos (by rw [hc]; rfl)]
   have hs:=fun x y=>pe (P:=Tryz.prog) x y (u:=[32]) (t:=c :: U) (w:=T) (by simp only [List.length_cons,List.length_nil] at *; omega) hT1.symm;simp only [List.length_cons] at hz;exact Bh @hZ.eq_1 h0 h1 h4 h5 h7 hn hz c0 hs k1 k2 ha @aR @aB @az @aA @ay @ae @aj @am @an @aG @aE tv tv
  | false=>
   have hc:c≠40:=fun hh=>by rw [hh] at c0; cases c0
   have hT1:T=c :: U:=by rw [hT]; unfold fm; rw [if_neg (by simp [hc])]
   rw [← hT1] at h7 hn c0 hz;exact Bh @hZ.eq_1 h0 h1 h4 h5 h7 hn hz c0 k1 k2 ha @aR @aB @az @aA @ay @ae @aj @am @an @aG @aE tv tv tv
theorem MO:∀(n:Nat) (l:List UInt8),l.length≤n→(oO l).length≤l.length:=by
 intro n
 induction n with
 | zero=>intro l h; cases l with | nil=>rw [oO]; exact Nat.le_refl _ | cons c l=>simp at h
 | succ n ih=>
  intro l h
  match l with
  | []=>rw [oO]; exact Nat.le_refl _
  | [c]=>rw [oO]; exact Nat.le_refl _
  | c :: d :: l=>
   rw [oO];simp only [List.length_cons] at h;split
   ·have:=ih l om; simp only [List.length_cons]; omega
   ·have:=ih (d :: l) (by simp only [List.length_cons]; omega); simp only [List.length_cons] at *; omega
theorem QN (hb:b.data.toList.length < 1000000000) {a r e:Nat} (hl:a < b.data.toList.length) (h:bt b.data.toList a=96) (k:Lx b.data.toList (.bq (a + 1) a) r e) (he:e≠0) (s:PS):Pc ext 368 [.sc (.string b),iN a] (bJ (.error (r,e))) s:=by
 have hP:∀s,_:=pT (ext:=ext) (b:=b) om (.p_bq (p:=0) hl h k) hl;rw [show ((0:Nat):Int)=0 from rfl] at hP;have q:(e == 0)=false:=beq_eq_false_iff_ne.2 he;refine fS s.n (fn:=Cp) (r:=4) (m:=3) (by rfl) (by simp [Cp]) (by rfl) (by rfl) ?_;unfold Cp;refine qJ hP q @aR @aB @az @aA @ay @ae @aj @am @an @aG @aE tv ?_;exact⟨_,_,_,rfl,rfl,Nat.le_refl _,rfl⟩
theorem HV (hb:b.data.toList.length < 1000000000) {a r:Nat} (hl:a < b.data.toList.length) (h:bt b.data.toList a=96) (k:Lx b.data.toList (.bq (a + 1) a) r 0) (res:R) (hres:∀(s:PS) (q:List PV) (f:aO),bJ res=.agg q→Ra b a r (.ptr s.n 0 3) f→f 7=.sc (.string ⟨⟨oO (sub b.data.toList (a + 1) (r - 1))⟩⟩)→
  Er (fun f' s'=>s.n≤s'.w∧f' 4=.ptr s.n 0 3∧∃cs low e,s'.h s.n=⟨cs,low,e⟩∧cs.length=3∧low≤3∧j7 s.n s' cs=some q) (aS Tryz.prog Γ ext hZ f ((⟨s.h,s.n,s.n⟩ : PS).new ⟨[.sc (.slice none 0 0),.sc (.int .i64 0),.sc (.int .i64 0)],0,314⟩))) (s:PS):Pc ext 368 [.sc (.string b),iN a] (bJ res) s:=by
 have hP:∀s,_:=pT (ext:=ext) (b:=b) om (.p_bq (p:=0) hl h k) hl;rw [show ((0:Nat):Int)=0 from rfl] at hP;have hb1:=k.bound ⟨om,hl⟩;have hb2:=hb1.2 rfl;simp only [fV.at] at hb2;obtain⟨q,hq⟩ : ∃q,bJ res=.agg q:=by
  cases res with
  | ok x=>obtain⟨l,j⟩:=x; exact⟨_,rfl⟩
  | error x=>obtain⟨i,e⟩:=x; exact⟨_,rfl⟩
 rw [hq];refine fS s.n (fn:=Cp) (r:=4) (m:=3) (by rfl) (by simp [Cp]) (by rfl) (by rfl) ?_;unfold Cp;refine jp hP @aR @aB @az @aA @ay @ae @aj @am @an @aG @aE ?_;exact Mq hb _ (oO (sub b.data.toList (a + 1) (r - 1))) hb1.1 om hl (fun f hI h7=>hres s q f hq hI h7) (r + 1) (a + 1) [] _ om om k ⟨bh,bh,bh,bh⟩ bh bh (Nat.zero_le _) rfl
theorem BE (hb:b.data.toList.length < 1000000000) {a r:Nat} (hl:a < b.data.toList.length) (h:bt b.data.toList a=96) (k:Lx b.data.toList (.bq (a + 1) a) r 0):(oO (sub b.data.toList (a + 1) (r - 1))).length + 2 < 1000000000:=by
 have hb1:=k.bound ⟨om,hl⟩;have hb2:=hb1.2 rfl;simp only [fV.at] at hb2;have h1:=MO _ (sub b.data.toList (a + 1) (r - 1)) (Nat.le_refl _);rw [rm om] at h1;omega
end Go.Proofs.YtflfflfodghgpaaGreatDoor
