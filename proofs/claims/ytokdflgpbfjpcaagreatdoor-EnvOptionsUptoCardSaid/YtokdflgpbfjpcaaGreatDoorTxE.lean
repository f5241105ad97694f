/- What functions of the program and of the reference compute, on values. No statement is proved here. -/
import Derived.Test.YtokdflgpbfjpcaaGreatDoorTxC
import Derived.Test.YtokdflgpbfjpcaaGreatDoorTxD
import Derived.Laws.Strings
set_option linter.all false
namespace Go.Mir
inductive aS where
 | mk (kind:Int) (text:List UInt8) (op:Int) (colon:Bool) (parts:List aS)
def aS.kind:aS→Int | .mk k _ _ _ _=>k
def aS.text:aS→List UInt8 | .mk _ t _ _ _=>t
def aS.op:aS→Int | .mk _ _ o _ _=>o
def aS.colon:aS→Bool | .mk _ _ _ c _=>c
def aS.parts:aS→List aS | .mk _ _ _ _ p=>p
def gn (t:List UInt8):aS:=.mk 1 t 0 false []
def ux (t:List UInt8):aS:=.mk 2 t 0 false []
def Hq (t:List UInt8):aS:=.mk 5 t 0 false []
def qX:aS:=.mk 7 [] 0 false []
def sR (t:List UInt8):aS:=.mk 4 t 0 false []
def dh (p:Nat):Bool:=p == 0 || p == 1
def rT (p:Nat):Nat:=if p=0∨p=1 then 0 else if p=2∨p=3 then 1 else 2
def eB (p:Nat):Nat:=if p=0∨p=1 then 1 else if p=2∨p=3 then 3 else 6
def sub (l:List UInt8) (a b:Nat):List UInt8:=(l.drop a).take (b - a)
def me (l:List aS) (t:List UInt8):List aS:=match l.getLast? with
 | some p=>if p.kind=1 then l.dropLast ++ [gn (p.text ++ t)] else l ++ [gn t]
 | none=>[gn t]
def mV (l:List aS) (p:aS):List aS:=if p.kind=1 then me l p.text else l ++ [p]
inductive qM (l:List UInt8):Nat→Nat→Prop where
 | stop {i} (h:cX l i=false):qM l i i
 | step {i j} (h:cX l i=true) (k:qM l (i + 2) j):qM l i j
inductive mc (l:List UInt8) (a p:Nat):Bool→Prop where
 | no (h:(dh p && bt l a == 126)=false):mc l a p false
 | yes {j} (h:dh p=true) (h2:bt l a=126) (k:qM l (a + 1) j):mc l a p (decide (l.length≤j) || bt l j == 47 || (p == 1 && bt l j == 125))
def fy (c p o:Nat):Bool:=((p == 1 || p == 3 || p == 6) && c == 125) || (p == 2 && c == 34) || (p == 4 && c == 41 && o == 0)
def ck (c p:Nat):Bool:=(c == 36 || c == 96 || c == 92) || (c == 34 && (p == 2 || p == 3)) || (c == 125 && (p == 3 || p == 6))
def wrap (t:List UInt8):List UInt8:=36 :: 40 :: (t ++ [41])
inductive Closed (t:List UInt8):Bool→Prop where
 | mk {r e} (k:Lx (wrap t) (.pass 0 0) r e):Closed t (e == 0 && r == t.length + 3 && (t.isEmpty || t.head? != some 40))
def qy:List UInt8→List UInt8
 | []=>[]
 | [c]=>[c]
 | c :: d :: l=>if c=92∧(d=96∨d=92∨d=36) then d :: qy l else c :: qy (d :: l)
def fR (t:List UInt8):List UInt8:=if t.head?=some 40 then 32 :: t else t
inductive Ar (l:List UInt8):Nat→Nat→Nat→Prop where
 | stop {v i} (h:l.length≤i∨bM (bt l i)=false∨2147483647 < 10 * v + (bt l i - 48)):Ar l v i i
 | step {v i j} (h:i < l.length) (h2:bM (bt l i)=true) (h3 : 10 * v + (bt l i - 48)≤2147483647) (k:Ar l (10 * v + (bt l i - 48)) (i + 1) j):Ar l v i j
inductive iK (l:List UInt8):Nat→Nat→Prop where
 | none0 {i} (h:l.length≤i):iK l i i
 | zero {i} (hl:i < l.length) (h:bt l i=48):iK l i (i + 1)
 | num {i j} (hl:i < l.length) (h:bM (bt l i)=true) (h2:bt l i≠48) (k:Ar l 0 i j):iK l i j
 | name {i} (hl:i < l.length) (h:bM (bt l i)=false) (h2:eI (bt l i)=true):iK l i (eC l i)
 | spec {i} (hl:i < l.length) (h:bM (bt l i)=false) (h2:cJ (bt l i)=true):iK l i (i + 1)
 | none {i} (hl:i < l.length) (h:eI (bt l i)=false) (h2:cJ (bt l i)=false):iK l i i
def mK (l:List UInt8) (a:Nat):Int × Bool × Nat:=
 if decide (l.length≤a + 1) then (0,false,0) else
 if bt l (a + 1) == 45 then (1,true,a + 1 - a + 1) else
 if bt l (a + 1) == 61 then (2,true,a + 1 - a + 1) else
 if bt l (a + 1) == 63 then (3,true,a + 1 - a + 1) else
 if bt l (a + 1) == 43 then (4,true,a + 1 - a + 1) else (0,false,0)
def mU (l:List UInt8) (a:Nat):Int × Bool × Nat:=
 if bt l a == 45 then (1,false,a - a + 1) else
 if bt l a == 61 then (2,false,a - a + 1) else
 if bt l a == 63 then (3,false,a - a + 1) else
 if bt l a == 43 then (4,false,a - a + 1) else
 if bt l a == 37 && (decide (a + 1 < l.length) && bt l (a + 1) == 37) then (7,false,2) else
 if bt l a == 37 then (6,false,1) else
 if bt l a == 35 && (decide (a + 1 < l.length) && bt l (a + 1) == 35) then (9,false,2) else
 if bt l a == 35 then (8,false,1) else (0,false,0)
def lL (l:List UInt8) (a:Nat):Int × Bool × Nat:=if bt l a == 58 then mK l a else mU l a
def jg (o:Int):List UInt8:=
 if o == 1 then [45] else if o == 2 then [61] else if o == 3 then [63] else if o == 4 then [43] else
 if o == 6 then [37] else if o == 7 then [37,37] else if o == 8 then [35] else if o == 9 then [35,35] else []
def eH (l:List UInt8):Nat:=l.foldl (fun v c=>10 * v + (c.toNat - 48)) 0
def vg (l:List UInt8):Bool:=decide (l.length≤10) && !(bt l 0 == 48 && decide (1 < l.length)) && decide (eH l≤2147483647)
abbrev R:=Except (Nat × Nat) (List aS × Nat)
inductive ew where
 | loop (a p lv fr o:Nat) (acc:List aS)
 | part (a p lv:Nat)
 | brc (a p lv:Nat)
 | brc2 (a p lv:Nat)
inductive Wx (l:List UInt8):ew→R→Prop where
 | l_end {p lv fr o acc} (h:p=0∨p=5):Wx l (.loop l.length p lv fr o acc) (.ok (acc,l.length))
 | l_open {p lv fr o acc} (h:p≠0) (h2:p≠5):Wx l (.loop l.length p lv fr o acc) (.error (fr,7))
 | l_q {a p lv fr o acc} (hl:a < l.length) (h:fy (bt l a) p o=true) (h2:p≠4):Wx l (.loop a p lv fr o acc) (.ok (acc,a))
 | l_a0 {a lv fr o acc} (h:fy (bt l a) 4 o=true) (h2:a + 1=l.length):Wx l (.loop a 4 lv fr o acc) (.error (fr,7))
 | l_a {a lv fr o acc} (h:fy (bt l a) 4 o=true) (h2:a + 1 < l.length) (h3:bt l (a + 1)=41):Wx l (.loop a 4 lv fr o acc) (.ok (acc,a))
 | l_a1 {a lv fr o acc} (h:fy (bt l a) 4 o=true) (h2:a + 1 < l.length) (h3:bt l (a + 1)≠41):Wx l (.loop a 4 lv fr o acc) (.error (a,6))
 | l_tilde {a p lv fr o r} (hl:a < l.length) (h:fy (bt l a) p o=false) (h2:mc l a p true) (k:Wx l (.loop (a + 1) p lv fr o [qX]) r):Wx l (.loop a p lv fr o []) r
 | l_err {a p lv fr o acc x} (hl:a < l.length) (h:fy (bt l a) p o=false) (h2:acc=[]→mc l a p false) (k:Wx l (.part a p lv) (.error x)):Wx l (.loop a p lv fr o acc) (.error x)
 | l_on {a p lv fr o acc ps j r} (hl:a < l.length) (h:fy (bt l a) p o=false) (h2:acc=[]→mc l a p false) (k:Wx l (.part a p lv) (.ok (ps,j))) (k2:Wx l (.loop j p lv fr (if p=4 then di (bt l a) o else o) (ps.foldl mV acc)) r):Wx l (.loop a p lv fr o acc) r
 | s_end5 {a lv} (h:bt l a=92) (h2:a + 1=l.length):Wx l (.part a 5 lv) (.ok ([gn [92]],a + 1))
 | s_end {a p lv} (h:bt l a=92) (h2:a + 1=l.length) (h3:p≠5):Wx l (.part a p lv) (.error (a,7))
 | s_nl {a p lv} (h:bt l a=92) (h2:a + 1 < l.length) (h3:bt l (a + 1)=10):Wx l (.part a p lv) (.ok ([],a + 2))
 | s_out {a p lv} (h:bt l a=92) (h2:a + 1 < l.length) (h3:bt l (a + 1)≠10) (h4:dh p=true):Wx l (.part a p lv) (.ok ([ux (sub l (a + 1) (a + 2))],a + 2))
 | s_esc {a p lv} (h:bt l a=92) (h2:a + 1 < l.length) (h3:bt l (a + 1)≠10) (h4:dh p=false) (h5:ck (bt l (a + 1)) p=true):Wx l (.part a p lv) (.ok ([gn (sub l (a + 1) (a + 2))],a + 2))
 | s_par {a lv} (h:bt l a=92) (h2:a + 1 < l.length) (h3:bt l (a + 1)=40∨bt l (a + 1)=41):Wx l (.part a 4 lv) (.error (a,6))
 | s_two {a p lv} (h:bt l a=92) (h2:a + 1 < l.length) (h3:bt l (a + 1)≠10) (h4:dh p=false) (h5:ck (bt l (a + 1)) p=false) (h6:p=4→bt l (a + 1)≠40∧bt l (a + 1)≠41):Wx l (.part a p lv) (.ok ([gn (sub l a (a + 2))],a + 2))
 | q_err {a p lv r e} (hl:a < l.length) (h:bt l a=96) (k:Lx l (.bq (a + 1) a) r e) (he:e≠0):Wx l (.part a p lv) (.error (r,e))
 | q_ok {a p lv r} (hl:a < l.length) (h:bt l a=96) (k:Lx l (.bq (a + 1) a) r 0) (c:Closed (fR (qy (sub l (a + 1) (r - 1)))) true):Wx l (.part a p lv) (.ok ([Hq (fR (qy (sub l (a + 1) (r - 1))))],r))
 | q_nl {a p lv r} (hl:a < l.length) (h:bt l a=96) (k:Lx l (.bq (a + 1) a) r 0) (c:Closed (fR (qy (sub l (a + 1) (r - 1)))) false) (c2:Closed (fR (qy (sub l (a + 1) (r - 1))) ++ [10]) true):Wx l (.part a p lv) (.ok ([Hq (fR (qy (sub l (a + 1) (r - 1))) ++ [10])],r))
 | q_no {a p lv r} (hl:a < l.length) (h:bt l a=96) (k:Lx l (.bq (a + 1) a) r 0) (c:Closed (fR (qy (sub l (a + 1) (r - 1)))) false) (c2:Closed (fR (qy (sub l (a + 1) (r - 1))) ++ [10]) false):Wx l (.part a p lv) (.error (a,6))
 | x_brc {a p lv r} (h:cG l a=true) (h2:bt l (a + 1)=123) (k:Wx l (.brc a p lv) r):Wx l (.part a p lv) r
 | x_deep {a p lv} (h:cG l a=true) (h2:bt l (a + 1)=40) (hl:a + 2 < l.length) (h3:bt l (a + 2)=40) (h4 : 32≤lv):Wx l (.part a p lv) (.error (a,5))
 | x_ari {a p lv ps j} (h:cG l a=true) (h2:bt l (a + 1)=40) (hl:a + 2 < l.length) (h3:bt l (a + 2)=40) (h4:lv < 32) (k:Wx l (.loop (a + 3) 4 (lv + 1) a 0 []) (.ok (ps,j))):Wx l (.part a p lv) (.ok ([.mk 6 [] 0 false ps],j + 2))
 | x_ari0 {a p lv x} (h:cG l a=true) (h2:bt l (a + 1)=40) (hl:a + 2 < l.length) (h3:bt l (a + 2)=40) (h4:lv < 32) (k:Wx l (.loop (a + 3) 4 (lv + 1) a 0 []) (.error x)):Wx l (.part a p lv) (.error x)
 | x_cmd {a p lv r} (h:cG l a=true) (h2:bt l (a + 1)=40) (h3:a + 2 < l.length→bt l (a + 2)≠40) (k:Lx l (.cmd (a + 2) a 1 true) r 0):Wx l (.part a p lv) (.ok ([Hq (sub l (a + 2) (r - 1))],r))
 | x_cmd0 {a p lv r e} (h:cG l a=true) (h2:bt l (a + 1)=40) (h3:a + 2 < l.length→bt l (a + 2)≠40) (k:Lx l (.cmd (a + 2) a 1 true) r e) (he:e≠0):Wx l (.part a p lv) (.error (r,e))
 | x_sp {a p lv} (h:cG l a=true) (h2:cJ (bt l (a + 1))=true):Wx l (.part a p lv) (.ok ([sR (sub l (a + 1) (a + 2))],a + 2))
 | x_long {a p lv} (h:cG l a=true) (h2:cJ (bt l (a + 1))=false) (h3:bt l (a + 1)≠123) (h4:bt l (a + 1)≠40) (h5 : 32 < eC l (a + 1) - (a + 1)):Wx l (.part a p lv) (.error (a,3))
 | x_nm {a p lv} (h:cG l a=true) (h2:cJ (bt l (a + 1))=false) (h3:bt l (a + 1)≠123) (h4:bt l (a + 1)≠40) (h5:eC l (a + 1) - (a + 1)≤32):Wx l (.part a p lv) (.ok ([sR (sub l (a + 1) (eC l (a + 1)))],eC l (a + 1)))
 | x_bad {a p lv} (hl:a < l.length) (h:bt l a=36) (h2:cG l a=false) (h3:dh p=true) (h4:(a + 1 < l.length∧bt l (a + 1)=96)∨cX l (a + 1)=true):Wx l (.part a p lv) (.error (a,6))
 | x_lit {a p lv} (hl:a < l.length) (h:bt l a=36) (h2:cG l a=false) (h3:dh p=true→¬ (a + 1 < l.length∧bt l (a + 1)=96)∧cX l (a + 1)=false):Wx l (.part a p lv) (.ok ([gn [36]],a + 1))
 | t_sq0 {a p lv} (hl:a < l.length) (h:bt l a=39) (h2:dh p=true) (h3:cQ l 39 (a + 1)=l.length):Wx l (.part a p lv) (.error (a,7))
 | t_sq {a p lv} (hl:a < l.length) (h:bt l a=39) (h2:dh p=true) (h3:cQ l 39 (a + 1) < l.length):Wx l (.part a p lv) (.ok ([ux (sub l (a + 1) (cQ l 39 (a + 1)))],cQ l 39 (a + 1) + 1))
 | t_deep {a p lv} (hl:a < l.length) (h:bt l a=34) (h2:dh p=true) (h3 : 32≤lv):Wx l (.part a p lv) (.error (a,5))
 | t_dq {a p lv ps j} (hl:a < l.length) (h:bt l a=34) (h2:dh p=true) (h3:lv < 32) (k:Wx l (.loop (a + 1) 2 (lv + 1) a 0 []) (.ok (ps,j))):Wx l (.part a p lv) (.ok ([.mk 3 [] 0 false ps],j + 1))
 | t_dq0 {a p lv x} (hl:a < l.length) (h:bt l a=34) (h2:dh p=true) (h3:lv < 32) (k:Wx l (.loop (a + 1) 2 (lv + 1) a 0 []) (.error x)):Wx l (.part a p lv) (.error x)
 | o_op {a lv} (hl:a < l.length) (h:cu (bt l a)=true):Wx l (.part a 0 lv) (.error (a,6))
 | o_dq {a lv} (hl:a < l.length) (h:bt l a=34):Wx l (.part a 3 lv) (.error (a,6))
 | o_lit {a p lv} (hl:a < l.length) (h1:bt l a≠92) (h2:bt l a≠96) (h3:bt l a≠36) (h4:dh p=true→bt l a≠39∧bt l a≠34) (h5:p=0→cu (bt l a)=false) (h6:p=3→bt l a≠34):Wx l (.part a p lv) (.ok ([gn (sub l a (a + 1))],a + 1))
 | r_long {a p lv j} (hl:a + 2 < l.length) (h:bt l (a + 2)=35) (k:iK l (a + 3) j) (h2 : 32 < j - (a + 3)):Wx l (.brc a p lv) (.error (a + 3,3))
 | r_len {a p lv j} (hl:a + 2 < l.length) (h:bt l (a + 2)=35) (k:iK l (a + 3) j) (h2:j - (a + 3)≤32) (h3:a + 3 < j) (h4:j < l.length) (h5:bt l j=125):Wx l (.brc a p lv) (.ok ([.mk 4 (sub l (a + 3) j) 5 false []],j + 1))
 | r_end {a p lv j} (hl:a + 2 < l.length) (h:bt l (a + 2)=35) (k:iK l (a + 3) j) (h2:j - (a + 3)≤32) (h3:a + 3 < j) (h4:j=l.length):Wx l (.brc a p lv) (.error (a,7))
 | r_sharp {a p lv j r} (hl:a + 2 < l.length) (h:bt l (a + 2)=35) (k:iK l (a + 3) j) (h2:j - (a + 3)≤32) (h3:a + 3 < j→j < l.length∧bt l j≠125) (k2:Wx l (.brc2 a p lv) r):Wx l (.brc a p lv) r
 | r_two {a p lv r} (h:a + 2 < l.length→bt l (a + 2)≠35) (k2:Wx l (.brc2 a p lv) r):Wx l (.brc a p lv) r
 | w_long {a p lv j} (k:iK l (a + 2) j) (h : 32 < j - (a + 2)):Wx l (.brc2 a p lv) (.error (a + 2,3))
 | w_end {a p lv j} (k:iK l (a + 2) j) (h:j - (a + 2)≤32) (h2:j=l.length):Wx l (.brc2 a p lv) (.error (a,7))
 | w_none {a p lv} (k:iK l (a + 2) (a + 2)) (h2:a + 2 < l.length):Wx l (.brc2 a p lv) (.error (a + 2,6))
 | w_plain {a p lv j} (k:iK l (a + 2) j) (h:j - (a + 2)≤32) (h2:j < l.length) (h3:a + 2 < j) (h4:bt l j=125):Wx l (.brc2 a p lv) (.ok ([sR (sub l (a + 2) j)],j + 1))
 | w_colon0 {a p lv j} (k:iK l (a + 2) j) (h:j - (a + 2)≤32) (h2:j < l.length) (h3:a + 2 < j) (h4:bt l j≠125) (h5:(lL l j).1=0) (h6:bt l j=58) (h7:j + 1=l.length):Wx l (.brc2 a p lv) (.error (a,7))
 | w_colon {a p lv j} (k:iK l (a + 2) j) (h:j - (a + 2)≤32) (h2:j < l.length) (h3:a + 2 < j) (h4:bt l j≠125) (h5:(lL l j).1=0) (h6:bt l j=58) (h7:j + 1 < l.length):Wx l (.brc2 a p lv) (.error (j + 1,6))
 | w_sharp {a p lv j i} (k:iK l (a + 2) j) (h:j - (a + 2)≤32) (h2:j < l.length) (h3:a + 2 < j) (h4:bt l j≠125) (h5:(lL l j).1=0) (h6:bt l j≠58) (h7:bt l (a + 2)=35) (k2:iK l (a + 3) i):Wx l (.brc2 a p lv) (.error (i,6))
 | w_bad {a p lv j} (k:iK l (a + 2) j) (h:j - (a + 2)≤32) (h2:j < l.length) (h3:a + 2 < j) (h4:bt l j≠125) (h5:(lL l j).1=0) (h6:bt l j≠58) (h7:bt l (a + 2)≠35):Wx l (.brc2 a p lv) (.error (j,6))
 | w_deep {a p lv j} (k:iK l (a + 2) j) (h:j - (a + 2)≤32) (h2:j < l.length) (h3:a + 2 < j) (h4:bt l j≠125) (h5:(lL l j).1≠0) (h6 : 32≤lv):Wx l (.brc2 a p lv) (.error (j,5))
 | w_join {a p lv j} (k:iK l (a + 2) j) (h:j - (a + 2)≤32) (h2:j < l.length) (h3:a + 2 < j) (h4:bt l j≠125) (h5:(lL l j).1≠0) (h6:lv < 32) (h7:cX l (j + (lL l j).2.2)=true):Wx l (.brc2 a p lv) (.error (j + (lL l j).2.2,6))
 | w_err {a p lv j x} (k:iK l (a + 2) j) (h:j - (a + 2)≤32) (h2:j < l.length) (h3:a + 2 < j) (h4:bt l j≠125) (h5:(lL l j).1≠0) (h6:lv < 32) (h7:cX l (j + (lL l j).2.2)=false) (k2:Wx l (.loop (j + (lL l j).2.2) (eB p) (lv + 1) a 0 []) (.error x)):Wx l (.brc2 a p lv) (.error x)
 | w_ok {a p lv j ps i} (k:iK l (a + 2) j) (h:j - (a + 2)≤32) (h2:j < l.length) (h3:a + 2 < j) (h4:bt l j≠125) (h5:(lL l j).1≠0) (h6:lv < 32) (h7:cX l (j + (lL l j).2.2)=false) (k2:Wx l (.loop (j + (lL l j).2.2) (eB p) (lv + 1) a 0 []) (.ok (ps,i))):Wx l (.brc2 a p lv) (.ok ([.mk 4 (sub l (a + 2) j) (lL l j).1 (lL l j).2.1 ps],i + 1))
end Go.Mir
namespace Go.Proofs.YtokdflgpbfjpcaaGreatDoor
open Go Go.EvL Go.PE Go.Mir
variable {ext:ar}{b:ByteArray}
theorem aj {a c:Nat} (h:(a == c)=false):a≠c:=beq_eq_false_iff_ne.1 h
theorem br {p:Nat} (hp:p≤6) (s:PS):Pc ext 265 [iN p] (.sc (.bool (dh p))) s:=by
 have hc:p=0∨p=1∨p=2∨p=3∨p=4∨p=5∨p=6:=om;refine q1 Rm 2 ?_;unfold Rm;rcases hc with rfl | rfl | rfl | rfl | rfl | rfl | rfl
 ·exact bw
 ·exact bw
 ·exact bw
 ·exact bw
 ·exact bw
 ·exact bw
 ·exact bw
theorem rV {p:Nat} (hp:p≤6) (s:PS):Pc ext 327 [iN p] (.sc (.int .i64 (rT p))) s:=by
 have hc:p=0∨p=1∨p=2∨p=3∨p=4∨p=5∨p=6:=om;refine q1 QR 2 ?_;unfold QR;rcases hc with rfl | rfl | rfl | rfl | rfl | rfl | rfl
 ·exact bw
 ·exact bw
 ·exact bw
 ·exact bw
 ·exact bw
 ·exact bw
 ·exact bw
theorem s5 {p:Nat} (hp:p≤6) (s:PS):Pc ext 284 [iN p] (.sc (.int .i64 (eB p))) s:=by
 have hc:p=0∨p=1∨p=2∨p=3∨p=4∨p=5∨p=6:=om;refine q1 Qs 2 ?_;unfold Qs;rcases hc with rfl | rfl | rfl | rfl | rfl | rfl | rfl
 ·exact bw
 ·exact bw
 ·exact bw
 ·exact bw
 ·exact bw
 ·exact bw
 ·exact bw
theorem jE {c p:Nat} (hp:p≤6) (s:PS):Pc ext 282 [.sc (.int .u8 (c:Int)),iN p] (.sc (.bool (ck c p))) s:=by
 have hc:p=0∨p=1∨p=2∨p=3∨p=4∨p=5∨p=6:=om;refine q1 SO 4 ?_;unfold SO;rcases hc with rfl | rfl | rfl | rfl | rfl | rfl | rfl
 ·cases c1:(c == 36) with
  | false=>
   have c1p:=aj c1;cases c2:(c == 96) with
   | false=>
    have c2p:=aj c2;cases c3:(c == 92) with
    | false=>
     have c3p:=aj c3;cases c4:(c == 34) with
     | false=>
      have c4p:=aj c4;cases c5:(c == 125) with
      | false=>
       have c5p:=aj c5;exact lW @ck.eq_1 c1 c2 c3 c4 c5
      | true=>
       have c5p:=eq_of_beq c5;exact lW @ck.eq_1 c1 c2 c3 c4 c5
     | true=>
      have c4p:=eq_of_beq c4;cases c6:(c == 125) with
      | false=>
       have c6p:=aj c6;exact lW @ck.eq_1 c1 c2 c3 c4 c6
      | true=>
       have c6p:=eq_of_beq c6;exact lW @ck.eq_1 c1 c2 c3 c4 c6
    | true=>
     have c3p:=eq_of_beq c3;exact qN @ck.eq_1 c1 c2 c3
   | true=>
    have c2p:=eq_of_beq c2;exact jB @ck.eq_1 c1 c2
  | true=>
   have c1p:=eq_of_beq c1;exact qO @ck.eq_1 c1
 ·cases c1:(c == 36) with
  | false=>
   have c1p:=aj c1;cases c2:(c == 96) with
   | false=>
    have c2p:=aj c2;cases c3:(c == 92) with
    | false=>
     have c3p:=aj c3;cases c4:(c == 34) with
     | false=>
      have c4p:=aj c4;cases c5:(c == 125) with
      | false=>
       have c5p:=aj c5;exact lW @ck.eq_1 c1 c2 c3 c4 c5
      | true=>
       have c5p:=eq_of_beq c5;exact lW @ck.eq_1 c1 c2 c3 c4 c5
     | true=>
      have c4p:=eq_of_beq c4;cases c6:(c == 125) with
      | false=>
       have c6p:=aj c6;exact lW @ck.eq_1 c1 c2 c3 c4 c6
      | true=>
       have c6p:=eq_of_beq c6;exact lW @ck.eq_1 c1 c2 c3 c4 c6
    | true=>
     have c3p:=eq_of_beq c3;exact qN @ck.eq_1 c1 c2 c3
   | true=>
    have c2p:=eq_of_beq c2;exact jB @ck.eq_1 c1 c2
  | true=>
   have c1p:=eq_of_beq c1;exact qO @ck.eq_1 c1
 ·cases c1:(c == 36) with
  | false=>
   have c1p:=aj c1;cases c2:(c == 96) with
   | false=>
    have c2p:=aj c2;cases c3:(c == 92) with
    | false=>
     have c3p:=aj c3;cases c4:(c == 34) with
     | false=>
      have c4p:=aj c4;cases c5:(c == 125) with
      | false=>
       have c5p:=aj c5;exact lW @ck.eq_1 c1 c2 c3 c4 c5
      | true=>
       have c5p:=eq_of_beq c5;exact lW @ck.eq_1 c1 c2 c3 c4 c5
     | true=>
      have c4p:=eq_of_beq c4;exact ub @ck.eq_1 c1 c2 c3 c4
    | true=>
     have c3p:=eq_of_beq c3;exact qN @ck.eq_1 c1 c2 c3
   | true=>
    have c2p:=eq_of_beq c2;exact jB @ck.eq_1 c1 c2
  | true=>
   have c1p:=eq_of_beq c1;exact qO @ck.eq_1 c1
 ·cases c1:(c == 36) with
  | false=>
   have c1p:=aj c1;cases c2:(c == 96) with
   | false=>
    have c2p:=aj c2;cases c3:(c == 92) with
    | false=>
     have c3p:=aj c3;cases c4:(c == 34) with
     | false=>
      have c4p:=aj c4;cases c5:(c == 125) with
      | false=>
       have c5p:=aj c5;exact lW @ck.eq_1 c1 c2 c3 c4 c5
      | true=>
       have c5p:=eq_of_beq c5;exact lW @ck.eq_1 c1 c2 c3 c4 c5
     | true=>
      have c4p:=eq_of_beq c4;exact ub @ck.eq_1 c1 c2 c3 c4
    | true=>
     have c3p:=eq_of_beq c3;exact qN @ck.eq_1 c1 c2 c3
   | true=>
    have c2p:=eq_of_beq c2;exact jB @ck.eq_1 c1 c2
  | true=>
   have c1p:=eq_of_beq c1;exact qO @ck.eq_1 c1
 ·cases c1:(c == 36) with
  | false=>
   have c1p:=aj c1;cases c2:(c == 96) with
   | false=>
    have c2p:=aj c2;cases c3:(c == 92) with
    | false=>
     have c3p:=aj c3;cases c4:(c == 34) with
     | false=>
      have c4p:=aj c4;cases c5:(c == 125) with
      | false=>
       have c5p:=aj c5;exact lW @ck.eq_1 c1 c2 c3 c4 c5
      | true=>
       have c5p:=eq_of_beq c5;exact lW @ck.eq_1 c1 c2 c3 c4 c5
     | true=>
      have c4p:=eq_of_beq c4;cases c6:(c == 125) with
      | false=>
       have c6p:=aj c6;exact lW @ck.eq_1 c1 c2 c3 c4 c6
      | true=>
       have c6p:=eq_of_beq c6;exact lW @ck.eq_1 c1 c2 c3 c4 c6
    | true=>
     have c3p:=eq_of_beq c3;exact qN @ck.eq_1 c1 c2 c3
   | true=>
    have c2p:=eq_of_beq c2;exact jB @ck.eq_1 c1 c2
  | true=>
   have c1p:=eq_of_beq c1;exact qO @ck.eq_1 c1
 ·cases c1:(c == 36) with
  | false=>
   have c1p:=aj c1;cases c2:(c == 96) with
   | false=>
    have c2p:=aj c2;cases c3:(c == 92) with
    | false=>
     have c3p:=aj c3;cases c4:(c == 34) with
     | false=>
      have c4p:=aj c4;cases c5:(c == 125) with
      | false=>
       have c5p:=aj c5;exact lW @ck.eq_1 c1 c2 c3 c4 c5
      | true=>
       have c5p:=eq_of_beq c5;exact lW @ck.eq_1 c1 c2 c3 c4 c5
     | true=>
      have c4p:=eq_of_beq c4;cases c6:(c == 125) with
      | false=>
       have c6p:=aj c6;exact lW @ck.eq_1 c1 c2 c3 c4 c6
      | true=>
       have c6p:=eq_of_beq c6;exact lW @ck.eq_1 c1 c2 c3 c4 c6
    | true=>
     have c3p:=eq_of_beq c3;exact qN @ck.eq_1 c1 c2 c3
   | true=>
    have c2p:=eq_of_beq c2;exact jB @ck.eq_1 c1 c2
  | true=>
   have c1p:=eq_of_beq c1;exact qO @ck.eq_1 c1
 ·cases c1:(c == 36) with
  | false=>
   have c1p:=aj c1;cases c2:(c == 96) with
   | false=>
    have c2p:=aj c2;cases c3:(c == 92) with
    | false=>
     have c3p:=aj c3;cases c4:(c == 34) with
     | false=>
      have c4p:=aj c4;cases c5:(c == 125) with
      | false=>
       have c5p:=aj c5;exact lW @ck.eq_1 c1 c2 c3 c4 c5
      | true=>
       have c5p:=eq_of_beq c5;exact lW @ck.eq_1 c1 c2 c3 c4 c5
     | true=>
      have c4p:=eq_of_beq c4;cases c6:(c == 125) with
      | false=>
       have c6p:=aj c6;exact lW @ck.eq_1 c1 c2 c3 c4 c6
      | true=>
       have c6p:=eq_of_beq c6;exact lW @ck.eq_1 c1 c2 c3 c4 c6
    | true=>
     have c3p:=eq_of_beq c3;exact qN @ck.eq_1 c1 c2 c3
   | true=>
    have c2p:=eq_of_beq c2;exact jB @ck.eq_1 c1 c2
  | true=>
   have c1p:=eq_of_beq c1;exact qO @ck.eq_1 c1
theorem qV {i o p:Nat} (hp:p≤6) (hl:i < b.data.toList.length) (s:PS):Pc ext 277 [.sc (.string b),iN i,iN p,iN o] (.sc (.bool (fy (bt b.data.toList i) p o))) s:=by
 have hc:p=0∨p=1∨p=2∨p=3∨p=4∨p=5∨p=6:=om;refine q1 R9 8 ?_;unfold R9;rcases hc with rfl | rfl | rfl | rfl | rfl | rfl | rfl
 ·exact bm @fy.eq_1
 ·have n0:i < b.data.toList.length:=om;exact qO @fy.eq_1 n0
 ·have n0:i < b.data.toList.length:=om;exact qO @fy.eq_1 n0
 ·have n0:i < b.data.toList.length:=om;exact qO @fy.eq_1 n0
 ·cases c1:(bt b.data.toList i == 41) with
  | false=>
   have c1p:=aj c1;have n0:i < b.data.toList.length:=om;exact jB @fy.eq_1 c1 n0
  | true=>
   have c1p:=eq_of_beq c1;have n0:i < b.data.toList.length:=om;exact jB @fy.eq_1 c1 n0
 ·exact bm @fy.eq_1
 ·have n0:i < b.data.toList.length:=om;exact qO @fy.eq_1 n0
end Go.Proofs.YtokdflgpbfjpcaaGreatDoor
namespace Go.PE
open Go Go.EvL
section
variable {P:Program}{Γ:Nat→Option gk}{ext:ar}
theorem K9 {g r r2 r3:Nat}{fn:gk}{args:List PV}{s:PS}{u v w:Value} (hg:Γ g=some fn) (hl:args.length≤fn.nt) (hr:fn.res=[.tmp r,.tmp r2,.tmp r3]) (hk:fn.keep=false) (h:Er (fun f' s'=>s'=⟨s.h,s.n,s.n⟩∧f' r=.sc u∧f' r2=.sc v∧f' r3=.sc w) (aT P Γ ext fn.body (bC args 0) ⟨s.h,s.n,s.n⟩)):aH P Γ ext g args s=some (.tup [.sc u,.sc v,.sc w],s):=by
 refine iQ hg hl h ?_;rintro f s' ⟨rfl,h,h2,h3⟩;exact gx (vs:=[.sc u,.sc v,.sc w]) hk (by rw [hr]; simp only [cV,Option.map_some,h,h2,h3]) (Nat.le_refl _) rfl
end
end Go.PE
namespace Go.Proofs.YtokdflgpbfjpcaaGreatDoor
open Go Go.EvL Go.PE Go.Mir
variable {ext:ar}{b:ByteArray}
theorem i9 (hb:b.data.toList.length < 4611686018427387904) {a:Nat} (hl:a < b.data.toList.length) (s:PS):Pc ext 334 [.sc (.string b),iN a] (.tup [.sc (.int .i64 (lL b.data.toList a).1),.sc (.bool (lL b.data.toList a).2.1),.sc (.int .i64 ((lL b.data.toList a).2.2:Int))]) s:=by
 refine K9 (fn:=N2) (r:=4) (r2:=5) (r3:=6) (by rfl) (by simp [N2]) (by rfl) (by rfl) ?_;unfold N2;have e0:decide (b.data.toList.length≤a)=false:=df;cases c1:(bt b.data.toList a == 58) with
 | false=>
  have c1p:=aj c1;cases c2:(bt b.data.toList a == 45) with
  | false=>
   have c2p:=aj c2;cases c3:(bt b.data.toList a == 61) with
   | false=>
    have c3p:=aj c3;cases c4:(bt b.data.toList a == 63) with
    | false=>
     have c4p:=aj c4;cases c5:(bt b.data.toList a == 43) with
     | false=>
      have c5p:=aj c5;cases c6:(bt b.data.toList a == 37) with
      | false=>
       have c6p:=aj c6;cases c7:(bt b.data.toList a == 35) with
       | false=>
        have c7p:=aj c7;have n0:a < b.data.toList.length:=om;have n1:a≤a:=om;simp -implicitDefEqProofs (disch:=omega) only [ZS,seval,ZX,lL,mK,mU,e0,c1,c2,c3,c4,c5,c6,c7,n0,n1]
        all_goals first | rfl | exact⟨rfl,rfl,rfl⟩
       | true=>
        have c7p:=eq_of_beq c7;cases c8:decide (a + 1 < b.data.toList.length) with
        | false=>
         have c8p:=of_decide_eq_false c8;have n0:a < b.data.toList.length:=om;have n1:a≤a:=om;simp -implicitDefEqProofs (disch:=omega) only [ZS,seval,ZX,lL,mK,mU,e0,c1,c2,c3,c4,c5,c6,c7,c8,n0,n1]
         all_goals first | rfl | exact⟨rfl,rfl,rfl⟩
        | true=>
         have c8p:=of_decide_eq_true c8;cases c9:(bt b.data.toList (a + 1) == 35) with
         | false=>
          have c9p:=aj c9;have n0:a < b.data.toList.length:=om;have n1:a≤a:=om;have n2:a + 1 < b.data.toList.length:=om;simp -implicitDefEqProofs (disch:=omega) only [ZS,seval,ZX,lL,mK,mU,e0,c1,c2,c3,c4,c5,c6,c7,c8,c9,n0,n1,n2]
          all_goals first | rfl | exact⟨rfl,rfl,rfl⟩
         | true=>
          have c9p:=eq_of_beq c9;have n0:a < b.data.toList.length:=om;have n1:a≤a:=om;have n2:a + 1 < b.data.toList.length:=om;simp -implicitDefEqProofs (disch:=omega) only [ZS,seval,ZX,lL,mK,mU,e0,c1,c2,c3,c4,c5,c6,c7,c8,c9,n0,n1,n2]
          all_goals first | rfl | exact⟨rfl,rfl,rfl⟩
      | true=>
       have c6p:=eq_of_beq c6;cases c10:decide (a + 1 < b.data.toList.length) with
       | false=>
        have c10p:=of_decide_eq_false c10;have n0:a < b.data.toList.length:=om;have n1:a≤a:=om;simp -implicitDefEqProofs (disch:=omega) only [ZS,seval,ZX,lL,mK,mU,e0,c1,c2,c3,c4,c5,c6,c10,n0,n1]
        all_goals first | rfl | exact⟨rfl,rfl,rfl⟩
       | true=>
        have c10p:=of_decide_eq_true c10;cases c11:(bt b.data.toList (a + 1) == 37) with
        | false=>
         have c11p:=aj c11;have n0:a < b.data.toList.length:=om;have n1:a≤a:=om;have n2:a + 1 < b.data.toList.length:=om;simp -implicitDefEqProofs (disch:=omega) only [ZS,seval,ZX,lL,mK,mU,e0,c1,c2,c3,c4,c5,c6,c10,c11,n0,n1,n2]
         all_goals first | rfl | exact⟨rfl,rfl,rfl⟩
        | true=>
         have c11p:=eq_of_beq c11;have n0:a < b.data.toList.length:=om;have n1:a≤a:=om;have n2:a + 1 < b.data.toList.length:=om;simp -implicitDefEqProofs (disch:=omega) only [ZS,seval,ZX,lL,mK,mU,e0,c1,c2,c3,c4,c5,c6,c10,c11,n0,n1,n2]
         all_goals first | rfl | exact⟨rfl,rfl,rfl⟩
     | true=>
      have c5p:=eq_of_beq c5;have n0:a < b.data.toList.length:=om;have n1:a≤a:=om;simp -implicitDefEqProofs (disch:=omega) only [ZS,seval,ZX,lL,mK,mU,e0,c1,c2,c3,c4,c5,n0,n1]
      all_goals first | rfl | exact⟨rfl,rfl,rfl⟩
    | true=>
     have c4p:=eq_of_beq c4;have n0:a < b.data.toList.length:=om;have n1:a≤a:=om;simp -implicitDefEqProofs (disch:=omega) only [ZS,seval,ZX,lL,mK,mU,e0,c1,c2,c3,c4,n0,n1]
     all_goals first | rfl | exact⟨rfl,rfl,rfl⟩
   | true=>
    have c3p:=eq_of_beq c3;have n0:a < b.data.toList.length:=om;have n1:a≤a:=om;simp -implicitDefEqProofs (disch:=omega) only [ZS,seval,ZX,lL,mK,mU,e0,c1,c2,c3,n0,n1]
    all_goals first | rfl | exact⟨rfl,rfl,rfl⟩
  | true=>
   have c2p:=eq_of_beq c2;have n0:a < b.data.toList.length:=om;have n1:a≤a:=om;simp -implicitDefEqProofs (disch:=omega) only [ZS,seval,ZX,lL,mK,mU,e0,c1,c2,n0,n1]
   all_goals first | rfl | exact⟨rfl,rfl,rfl⟩
 | true=>
  have c1p:=eq_of_beq c1;cases c12:decide (b.data.toList.length≤a + 1) with
  | false=>
   have c12p:=of_decide_eq_false c12;cases c13:(bt b.data.toList (a + 1) == 45) with
   | false=>
    have c13p:=aj c13;cases c14:(bt b.data.toList (a + 1) == 61) with
    | false=>
     have c14p:=aj c14;cases c15:(bt b.data.toList (a + 1) == 63) with
     | false=>
      have c15p:=aj c15;cases c16:(bt b.data.toList (a + 1) == 43) with
      | false=>
       have c16p:=aj c16;have n0:a < b.data.toList.length:=om;have n1:a≤a + 1:=om;have n2:a + 1 < b.data.toList.length:=om;simp -implicitDefEqProofs (disch:=omega) only [ZS,seval,ZX,lL,mK,mU,e0,c1,c12,c13,c14,c15,c16,n0,n1,n2]
       all_goals first | rfl | exact⟨rfl,rfl,rfl⟩
      | true=>
       have c16p:=eq_of_beq c16;have n0:a < b.data.toList.length:=om;have n1:a≤a + 1:=om;have n2:a + 1 < b.data.toList.length:=om;simp -implicitDefEqProofs (disch:=omega) only [ZS,seval,ZX,lL,mK,mU,e0,c1,c12,c13,c14,c15,c16,n0,n1,n2]
       all_goals first | rfl | exact⟨rfl,rfl,rfl⟩
     | true=>
      have c15p:=eq_of_beq c15;have n0:a < b.data.toList.length:=om;have n1:a≤a + 1:=om;have n2:a + 1 < b.data.toList.length:=om;simp -implicitDefEqProofs (disch:=omega) only [ZS,seval,ZX,lL,mK,mU,e0,c1,c12,c13,c14,c15,n0,n1,n2]
      all_goals first | rfl | exact⟨rfl,rfl,rfl⟩
    | true=>
     have c14p:=eq_of_beq c14;have n0:a < b.data.toList.length:=om;have n1:a≤a + 1:=om;have n2:a + 1 < b.data.toList.length:=om;simp -implicitDefEqProofs (disch:=omega) only [ZS,seval,ZX,lL,mK,mU,e0,c1,c12,c13,c14,n0,n1,n2]
     all_goals first | rfl | exact⟨rfl,rfl,rfl⟩
   | true=>
    have c13p:=eq_of_beq c13;have n0:a < b.data.toList.length:=om;have n1:a≤a + 1:=om;have n2:a + 1 < b.data.toList.length:=om;simp -implicitDefEqProofs (disch:=omega) only [ZS,seval,ZX,lL,mK,mU,e0,c1,c12,c13,n0,n1,n2]
    all_goals first | rfl | exact⟨rfl,rfl,rfl⟩
  | true=>
   have c12p:=of_decide_eq_true c12;have n0:a < b.data.toList.length:=om;simp -implicitDefEqProofs (disch:=omega) only [ZS,seval,ZX,lL,mK,mU,e0,c1,c12,n0]
   all_goals first | rfl | exact⟨rfl,rfl,rfl⟩
theorem J0 (o:Int) (s:PS):Pc ext 283 [.sc (.int .i64 o)] (.sc (.string ⟨⟨jg o⟩⟩)) s:=by
 refine q1 QQ 2 ?_;unfold QQ;cases c1:(o == 1) with
 | false=>
  cases c2:(o == 2) with
  | false=>
   cases c3:(o == 3) with
   | false=>
    cases c4:(o == 4) with
    | false=>
     cases c5:(o == 6) with
     | false=>
      cases c6:(o == 7) with
      | false=>
       cases c7:(o == 8) with
       | false=>
        cases c8:(o == 9) with
        | false=>
         exact sL @jg.eq_1 c1 c2 c3 c4 c5 c6 c7 c8
        | true=>
         exact sL @jg.eq_1 c1 c2 c3 c4 c5 c6 c7 c8
       | true=>
        exact Az @jg.eq_1 c1 c2 c3 c4 c5 c6 c7
      | true=>
       exact uP @jg.eq_1 c1 c2 c3 c4 c5 c6
     | true=>
      exact lW @jg.eq_1 c1 c2 c3 c4 c5
    | true=>
     exact ub @jg.eq_1 c1 c2 c3 c4
   | true=>
    exact qN @jg.eq_1 c1 c2 c3
  | true=>
   exact jB @jg.eq_1 c1 c2
 | true=>
  exact qO @jg.eq_1 c1
theorem Mf (hb:b.data.toList.length < 4611686018427387904) {p:Nat} (s:PS) {i j:Nat} (h:qM b.data.toList i j):i≤b.data.toList.length→∀f,f 0=.sc (.string b)→f 2=iN p→f 7=iN i→Er (fun f' s'=>s'=s∧f' 6=.sc (.bool (decide (b.data.toList.length≤j) || bt b.data.toList j == 47 || (p == 1 && bt b.data.toList j == 125)))) (LP Tryz.prog Γ ext 0 nZ sT f s):=by
 induction h with
 | @stop i h=>
  intro hi f h0 h2 h7;have hj:=fun s=>gR (ext:=ext) hb (i:=i) om s;refine ad fun L hL=>?_;cases c1:decide (b.data.toList.length≤i) with
  | true=>exact Az @nZ.eq_1 @sT.eq_1 h0 h2 h7 hj h c1
  | false=>
   have hl:i < b.data.toList.length:=by have:=of_decide_eq_false c1; omega
   cases c2:bt b.data.toList i == 47 with
   | true=>exact ue @nZ.eq_1 @sT.eq_1 h0 h2 h7 hj h c1 hl c2
   | false=>
    cases c3:p == 1 with
    | true=>exact qj @nZ.eq_1 @sT.eq_1 h0 h2 h7 hj h c1 hl c2 c3 tv
    | false=>exact qj @nZ.eq_1 @sT.eq_1 h0 h2 h7 hj h c1 hl c2 c3 tv
 | @step i j h k ih=>
  intro hi f h0 h2 h7;have hl:=ij h;have hj:=fun s=>gR (ext:=ext) hb (i:=i) om s;refine ad fun L hL=>?_;refine Ej @nZ.eq_1 h0 h2 h7 hj h ?_;subst hL;exact ih om _ (bm h0) (bm h2) bw
theorem zS (hb:b.data.toList.length < 4611686018427387904) {a p:Nat} (hp:p≤6) (hl:a < b.data.toList.length) {r:Bool} (h:mc b.data.toList a p r) (s:PS):Pc ext 279 [.sc (.string b),iN a,iN p] (.sc (.bool r)) s:=by
 refine q1 Rt 6 ?_;have ho:=fun s=>br (ext:=ext) hp s;have e0:decide (b.data.toList.length≤a)=false:=df;unfold Rt;cases h with
 | no h=>
  cases c1:dh p with
  | false=>exact qO ho c1
  | true=>
   have c2:(bt b.data.toList a == 126)=false:=by rw [c1,Bool.true_and] at h; exact h
   exact ub ho c1 e0 hl c2
 | @yes j h h2 k=>
  have c2:(bt b.data.toList a == 126)=true:=by rw [h2]; rfl
  refine He ho h e0 hl c2 ?_;exact Mf hb _ k om _ bw bw bw
theorem tK (l:List UInt8) (c:UInt8):eH (l ++ [c])=10 * eH l + (c.toNat - 48):=by
 unfold eH; rw [List.foldl_append]; rfl
theorem take_succ {l:List UInt8}{i:Nat} (h:i < l.length):l.take (i + 1)=l.take i ++ [l[i]]:=by
 rw [List.take_succ,List.getElem?_eq_getElem h]; rfl
theorem lB {l:List UInt8}{i:Nat} (h:i < l.length):eH (l.take (i + 1))=10 * eH (l.take i) + (bt l i - 48):=by
 rw [take_succ h,tK,oY h]
theorem Ae {c:Nat} (h:bM c=true) : 48≤c∧c≤57:=by
 unfold bM at h; simp at h; exact h
theorem Gv {l:List UInt8} (hd:∀i,i < l.length→bM (bt l i)=true):∀n,n≤l.length→eH (l.take n) < 10 ^ n:=by
 intro n
 induction n with
 | zero=>intro _; simp [eH]
 | succ n ih=>
  intro h;have h1:=ih om;have h2:=Ae (hd n om);rw [lB om,Nat.pow_succ];omega
theorem y8 {l:List UInt8} (hd:∀i,i < l.length→bM (bt l i)=true) (h0:bt l 0≠48):∀n,n < l.length→10 ^ n≤eH (l.take (n + 1)):=by
 intro n
 induction n with
 | zero=>
  intro h;have h2:=Ae (hd 0 h);rw [lB h];simp [eH];omega
 | succ n ih=>
  intro h;have h1:=ih om;rw [lB h,Nat.pow_succ];omega
theorem bin_mul {P:Program} (t:Nat) (x y:Operand) (a b:Int):fJ P .mul t x y (.sc (.int .i64 a)) (.sc (.int .i64 b))=some (.sc (.int .i64 (IntKind.i64.wrap (a * b)))):=(rfl)
theorem JA {P:Program} (t:Nat) (x y:Operand) (a b:Int):fJ P .sub t x y (.sc (.int .u8 a)) (.sc (.int .u8 b))=some (.sc (.int .u8 (IntKind.u8.wrap (a - b)))):=(rfl)
theorem Sr (z:Int) (k:IntKind):Kk .i64 (.sc (.int k z))=some (.sc (.int .i64 (IntKind.i64.wrap z))):=(rfl)
theorem Ud {n:Nat} (h:n < 256):IntKind.u8.wrap (n:Int)=(n:Int):=by
 unfold IntKind.wrap;simp [IntKind.bits,IntKind.signed];omega
theorem F7 {t:ByteArray} (hlen:t.data.toList.length≤10) (hd:∀i,i < t.data.toList.length→bM (bt t.data.toList i)=true) (s:PS):∀(k i:Nat) (f:aX),i + k=t.data.toList.length→f 0=.sc (.string t)→f 4=iN (eH (t.data.toList.take i))→f 5=iN i→
  Er (fun f' s'=>s'=s∧f' 2=iN (if decide (eH t.data.toList≤2147483647) then eH t.data.toList else 0:Nat)∧f' 3=.sc (.bool (decide (eH t.data.toList≤2147483647)))) (LP Tryz.prog Γ ext 0 sG yR f s):=by
 intro k
 induction k with
 | zero=>
  intro i f hk h0 h4 h5;have e1:decide (i < t.data.toList.length)=false:=df;have e2:t.data.toList.take i=t.data.toList:=List.take_of_length_le om;rw [e2] at h4;refine ad fun L hL=>?_;cases c1:decide (2147483647 < eH t.data.toList) with
  | true=>
   have c2:decide (eH t.data.toList≤2147483647)=false:=decide_eq_false (by have:=of_decide_eq_true c1; omega);simp -implicitDefEqProofs (disch:=omega) only [ZS,seval,sG,yR,h0,h4,h5,e1,c1,c2]
   all_goals first | done | rfl | exact⟨rfl,rfl⟩
  | false=>
   have c2:decide (eH t.data.toList≤2147483647)=true:=decide_eq_true (by have:=of_decide_eq_false c1; omega);exact Az @sG.eq_1 @yR.eq_1 h0 h4 h5 e1 c1 c2
 | succ k ih=>
  intro i f hk h0 h4 h5;have hl:i < t.data.toList.length:=om;have e1:decide (i < t.data.toList.length)=true:=dt;have hdi:=hd i hl;have hr:=Ae hdi;have hv:=Gv hd i om;have hp : 10 ^ i≤10 ^ 10:=Nat.pow_le_pow_right om om;have hp2:(10:Nat) ^ 10=10000000000:=rfl;have ev:=lB hl;generalize hw:eH (t.data.toList.take i)=v at h4 hv ev;have w1:IntKind.i64.wrap (10 * (v:Int))=((10 * v:Nat):Int):=by rw [B9 om om]; omega
  have w2:IntKind.u8.wrap ((bt t.data.toList i:Int) - 48)=((bt t.data.toList i - 48:Nat):Int):=by
   rw [show ((bt t.data.toList i:Int) - 48)=((bt t.data.toList i - 48:Nat):Int) by omega];exact Ud om
  have w3:IntKind.i64.wrap ((bt t.data.toList i - 48:Nat):Int)=((bt t.data.toList i - 48:Nat):Int):=uR om;refine ad fun L hL=>?_;refine sa @sG.eq_1 h0 h4 h5 e1 hl @cL hdi @bin_mul @JA @Sr w1 w2 w3 ?_;subst hL;exact ih (i + 1) _ om (bm h0) (by rw [ev]; simp -implicitDefEqProofs (disch:=omega) only [ZS,seval]) bw
theorem Bv {t:ByteArray} (hne : 0 < t.data.toList.length) (hs:t.data.toList.length < 4611686018427387904) (hd:∀i,i < t.data.toList.length→bM (bt t.data.toList i)=true) (s:PS):∃z,Pc ext 345 [.sc (.string t)] (.tup [.sc (.int .i64 z),.sc (.bool (vg t.data.toList))]) s:=by
 refine⟨if vg t.data.toList then ((if decide (eH t.data.toList≤2147483647) then eH t.data.toList else 0:Nat):Int) else 0,?_⟩;refine dF (fn:=OI) (r:=2) (r2:=3) (by rfl) (by simp [OI]) (by rfl) (by rfl) ?_;unfold OI;have e0:(t.toList == (⟨#[]⟩ : ByteArray).toList)=false:=by
  rw [ByteArray.toList_eq,ByteArray.toList_eq];refine beq_eq_false_iff_ne.2 fun hh=>?_;rw [hh] at hne;exact absurd hne (by decide)
 unfold vg;cases c1:decide (10 < t.data.toList.length) with
 | true=>
  have c2:decide (t.data.toList.length≤10)=false:=decide_eq_false (by have:=of_decide_eq_true c1; omega);simp -implicitDefEqProofs (disch:=omega) only [ZS,seval,ZX,e0,c1,c2]
  all_goals first | done | rfl | exact⟨rfl,rfl⟩
 | false=>
  have hle:=of_decide_eq_false c1;have c2:decide (t.data.toList.length≤10)=true:=dt;cases c3:bt t.data.toList 0 == 48 with
  | true=>
   cases c4:decide (1 < t.data.toList.length) with
   | true=>
    simp -implicitDefEqProofs (disch:=omega) only [ZS,seval,ZX,e0,c1,c2,c3,c4,hne]
    all_goals first | done | rfl | exact⟨rfl,rfl⟩
   | false=>
    refine Ej e0 c1 c2 c3 c4 hne ?_;refine Er.mono (F7 om hd _ t.data.toList.length 0 _ om ?_ ?_ ?_) ?_
    ·exact bw
    ·simp -implicitDefEqProofs (disch:=omega) only [ZA,Nat.reduceAdd,Nat.reduceEqDiff,↓reduceIte,Nat.reduceLeDiff,reduceCtorEq,Nat.reduceBEq,Nat.reduceLT,bE,cg,cI,aW,cP,b9,cV,bz,frz,cT,cM,er]; rfl
    ·simp -implicitDefEqProofs (disch:=omega) only [ZA,Nat.reduceAdd,Nat.reduceEqDiff,↓reduceIte,Nat.reduceLeDiff,reduceCtorEq,Nat.reduceBEq,Nat.reduceLT,bE,cg,cI,aW,cP,b9,cV,bz,frz,cT,cM,er]; rfl
    ·rintro f s' ⟨h1,h2,h3⟩;refine⟨h1,?_,h3⟩;rw [h2];congr 2;cases decide (eH t.data.toList≤2147483647)<;>rfl
  | false=>
   refine He e0 c1 c2 c3 hne ?_;refine Er.mono (F7 om hd _ t.data.toList.length 0 _ om ?_ ?_ ?_) ?_
   ·exact bw
   ·simp -implicitDefEqProofs (disch:=omega) only [ZA,Nat.reduceAdd,Nat.reduceEqDiff,↓reduceIte,Nat.reduceLeDiff,reduceCtorEq,Nat.reduceBEq,Nat.reduceLT,bE,cg,cI,aW,cP,b9,cV,bz,frz,cT,cM,er]; rfl
   ·simp -implicitDefEqProofs (disch:=omega) only [ZA,Nat.reduceAdd,Nat.reduceEqDiff,↓reduceIte,Nat.reduceLeDiff,reduceCtorEq,Nat.reduceBEq,Nat.reduceLT,bE,cg,cI,aW,cP,b9,cV,bz,frz,cT,cM,er]; rfl
   ·rintro f s' ⟨h1,h2,h3⟩;refine⟨h1,?_,h3⟩;rw [h2];congr 2;cases decide (eH t.data.toList≤2147483647)<;>rfl
theorem Li {V:aX→PS→Prop}{r:kY}{k:aX→PS→kY} (h:Er V r):Er V (im r k):=by
 obtain⟨f,s,rfl,hv⟩:=h;exact⟨f,s,rfl,hv⟩
theorem rP {l:List UInt8}{a e:Nat} (h:e≤l.length):(sub l a e).length=e - a:=by
 unfold sub; rw [List.length_take,List.length_drop]; omega
theorem yO {l:List UInt8}{a e k:Nat} (h:e≤l.length) (hk:k < e - a):bt (sub l a e) k=bt l (a + k):=by
 unfold bt sub;rw [List.getD_eq_getElem?_getD,List.getD_eq_getElem?_getD,List.getElem?_take,if_pos hk,List.getElem?_drop]
theorem J5 {l:List UInt8}{a e:Nat} (h:a≤e) (hl:e < l.length):sub l a (e + 1)=sub l a e ++ [l[e]]:=by
 unfold sub;have h1:e + 1 - a=(e - a) + 1:=om;rw [h1,take_succ (l:=l.drop a) (i:=e - a) (by rw [List.length_drop]; omega),List.getElem_drop];congr 2;congr 1;omega
theorem A6 {l:List UInt8}{a e:Nat} (h:a≤e) (hl:e < l.length):eH (sub l a (e + 1))=10 * eH (sub l a e) + (bt l e - 48):=by
 rw [J5 h hl,tK,oY hl]
theorem Sl {t:List UInt8} (hne : 0 < t.length) (hd:∀i,i < t.length→bM (bt t i)=true) (h0:bt t 0≠48):vg t=decide (eH t≤2147483647):=by
 unfold vg;have e0:(bt t 0 == 48)=false:=beq_eq_false_iff_ne.2 h0;rw [e0,Bool.false_and,Bool.not_false,Bool.and_true];cases c:decide (t.length≤10) with
 | true=>rw [Bool.true_and]
 | false=>
  have hl:=of_decide_eq_false c;have h1:=y8 hd h0 10 om;have h2:=y8 hd h0 (t.length - 1) om;have h3 : 10 ^ 10≤10 ^ (t.length - 1):=Nat.pow_le_pow_right om om;rw [show t.length - 1 + 1=t.length by omega,List.take_length] at h2;have hp2:(10:Nat) ^ 10=10000000000:=rfl;rw [Bool.false_and];exact (df).symm
theorem Nj (hb:b.data.toList.length < 4611686018427387904) (s:PS) {a v e j:Nat} (h:Ar b.data.toList v e j):e≤b.data.toList.length→a < e→(∀k,a≤k→k < e→bM (bt b.data.toList k)=true)→bt b.data.toList a≠48→v=eH (sub b.data.toList a e)→∀f,f 0=.sc (.string b)→f 1=iN a→f 5=iN e→Er (fun f' s'=>s'=s∧f' 4=iN j) (LP Tryz.prog Γ ext 0 lV oK f s):=by
 have key:∀(v e:Nat),e < b.data.toList.length→bM (bt b.data.toList e)=true→a < e→(∀k,a≤k→k < e→bM (bt b.data.toList k)=true)→bt b.data.toList a≠48→v=eH (sub b.data.toList a e)→∀s:PS,∃z,Pc ext 345 [.sc (.string ⟨⟨(b.data.toList.drop a).take (e + 1 - a)⟩⟩)] (.tup [.sc (.int .i64 z),.sc (.bool (decide (10 * v + (bt b.data.toList e - 48)≤2147483647)))]) s:=by
  intro v e hl hde hae hd h0 hv s;have hlen:(sub b.data.toList a (e + 1)).length=e + 1 - a:=rP om;have hdd:∀i,i < (sub b.data.toList a (e + 1)).length→bM (bt (sub b.data.toList a (e + 1)) i)=true:=by
   intro i hi;rw [hlen] at hi;rw [yO om hi];by_cases he:a + i=e
   ·rw [he]; exact hde
   ·exact hd _ om om
  obtain⟨z,hz⟩:=Bv (ext:=ext) (t:=⟨⟨sub b.data.toList a (e + 1)⟩⟩) (by show 0 < (sub b.data.toList a (e + 1)).length; omega) (by show (sub b.data.toList a (e + 1)).length < _; omega) hdd s;refine⟨z,?_⟩;have ho:=Sl (t:=sub b.data.toList a (e + 1)) om hdd (by rw [yO om om]; exact h0);rw [A6 om hl,← hv] at ho;rw [← ho];exact hz
 induction h with
 | @stop v e h=>
  intro hle hae hd h0 hv f f0 f1 f5;by_cases hl:e < b.data.toList.length
  ·have e1:decide (e < b.data.toList.length)=true:=decide_eq_true hl;cases c1:bM (bt b.data.toList e) with
   | false=>
    refine ad fun L hL=>?_;exact sL @lV.eq_1 @oK.eq_1 f0 f1 f5 e1 hl @cL c1
   | true=>
    have hbig : 2147483647 < 10 * v + (bt b.data.toList e - 48):=by
     rcases h with h | h | h
     ·omega
     ·rw [c1] at h; cases h
     ·exact h
    have e2:decide (10 * v + (bt b.data.toList e - 48)≤2147483647)=false:=df;obtain⟨z,hz⟩:=Classical.axiomOfChoice (key v e hl c1 hae hd h0 hv);have n1:a≤e + 1:=om;have n2:e + 1≤b.data.toList.length:=om;refine ad fun L hL=>?_;exact BR @lV.eq_1 @oK.eq_1 f0 f1 f5 e1 hl @cL c1 n1 n2 hz e2 tv
  ·have e1:decide (e < b.data.toList.length)=false:=decide_eq_false hl;refine ad fun L hL=>?_;exact lW @lV.eq_1 @oK.eq_1 f0 f1 f5 e1
 | @step v e j hl h2 h3 k ih=>
  intro hle hae hd h0 hv f f0 f1 f5;have e1:decide (e < b.data.toList.length)=true:=decide_eq_true hl;have e2:decide (10 * v + (bt b.data.toList e - 48)≤2147483647)=true:=decide_eq_true h3;obtain⟨z,hz⟩:=Classical.axiomOfChoice (key v e hl h2 hae hd h0 hv);have n1:a≤e + 1:=om;have n2:e + 1≤b.data.toList.length:=om;refine ad fun L hL=>?_;refine jU @lV.eq_1 f0 f1 f5 e1 hl @cL h2 n1 n2 hz e2 ?_;subst hL;refine ih om om (fun k h1 h4=>?_) h0 (by rw [A6 om hl,hv]) _ (bm f0) (bm f1) bw;by_cases he:k=e
  ·rw [he]; exact h2
  ·exact hd _ h1 om
theorem Ja {c:Nat} (h:bM c=true):eI c=true:=by
 unfold eI; rw [h]; simp
theorem AL (hb:b.data.toList.length < 4611686018427387904) {a j:Nat} (ha:a≤b.data.toList.length) (h:iK b.data.toList a j) (s:PS):Pc ext 333 [.sc (.string b),iN a] (iN j) s:=by
 refine q1 QS 4 ?_;have hn:=fun s=>wh (ext:=ext) hb (i:=a) ha s;unfold QS;cases h with
 | none0 h=>
  have e1:decide (b.data.toList.length≤a)=true:=decide_eq_true h;exact bm e1
 | zero hl h=>
  have e1:decide (b.data.toList.length≤a)=false:=df;have c1:bM (bt b.data.toList a)=true:=by rw [h]; rfl
  refine CJ e1 hl @cL c1 ?_;refine Li (ad fun L hL=>?_);by_cases hl2:a + 1 < b.data.toList.length
  ·have e2:decide (a + 1 < b.data.toList.length)=true:=decide_eq_true hl2;cases c2:bM (bt b.data.toList (a + 1)) with
   | false=>exact lW @lV.eq_1 @oK.eq_1 e2 hl2 @cL c2
   | true=>
    have hlen:(sub b.data.toList a (a + 2)).length=2:=by rw [rP om]; omega
    have hz:∀s:PS,∃z,Pc ext 345 [.sc (.string ⟨⟨(b.data.toList.drop a).take (a + 1 + 1 - a)⟩⟩)] (.tup [.sc (.int .i64 z),.sc (.bool false)]) s:=by
     intro s;have hdd:∀i,i < (sub b.data.toList a (a + 2)).length→bM (bt (sub b.data.toList a (a + 2)) i)=true:=by
      intro i hi;rw [hlen] at hi;rw [yO om om];have:i=0∨i=1:=om;rcases this with rfl | rfl
      ·exact c1
      ·exact c2
     obtain⟨z,hz⟩:=Bv (ext:=ext) (t:=⟨⟨sub b.data.toList a (a + 2)⟩⟩) (by show 0 < (sub b.data.toList a (a + 2)).length; omega) (by show (sub b.data.toList a (a + 2)).length < _; omega) hdd s;have hok:vg (sub b.data.toList a (a + 2))=false:=by
      unfold vg;rw [hlen,yO om om,Nat.add_zero,h];simp
     exact⟨z,by rw [← hok]; exact hz⟩
    obtain⟨z,hz⟩:=Classical.axiomOfChoice hz;have n1:a≤a + 1 + 1:=om;have n2:a + 1 + 1≤b.data.toList.length:=om;exact sL @lV.eq_1 @oK.eq_1 e2 hl2 @cL c2 n1 n2 hz
  ·have e2:decide (a + 1 < b.data.toList.length)=false:=decide_eq_false hl2;exact jB @lV.eq_1 @oK.eq_1 e2
 | num hl h h2 k=>
  have e1:decide (b.data.toList.length≤a)=false:=df;have hdl:=Ae h;cases k with
  | stop hs=>
   exfalso;rcases hs with hs | hs | hs
   ·omega
   ·rw [h] at hs; cases hs
   ·omega
  | step _ _ _ k=>
   refine CJ e1 hl @cL h ?_;refine Li (Nj hb _ k om om (fun k h1 h4=>?_) h2 ?_ _ bw bw bw)
   ·rw [show k=a by omega]; exact h
   ·rw [A6 (Nat.le_refl _) hl];have:sub b.data.toList a a=[]:=List.eq_nil_of_length_eq_zero (by rw [rP om]; omega);rw [this];rfl
 | name hl h h2=>
  have e1:decide (b.data.toList.length≤a)=false:=df;exact uP e1 hl @cL h @fh h2 hn
 | spec hl h h2=>
  have e1:decide (b.data.toList.length≤a)=false:=df;have h3:eI (bt b.data.toList a)=false:=by
   unfold cJ at h2;rw [h,Bool.false_or] at h2;simp only [Bool.or_eq_true,beq_iff_eq] at h2;rcases h2 with ((((((h2 | h2) | h2) | h2) | h2) | h2) | h2)<;>(rw [h2]; rfl)
  exact Az e1 hl @cL h @fh h3 @gO h2
 | none hl h h2=>
  have e1:decide (b.data.toList.length≤a)=false:=df;have h3:bM (bt b.data.toList a)=false:=by
   cases c:bM (bt b.data.toList a) with
   | false=>rfl
   | true=>rw [Ja c] at h; cases h
  exact Az e1 hl @cL h3 @fh h @gO h2
end Go.Proofs.YtokdflgpbfjpcaaGreatDoor
namespace Go.Mir
open Go Go.PE
mutual
def dV:aS→List PV
 | .mk k t o c ps=>[.sc (.int .i64 k),.sc (.string ⟨⟨t⟩⟩),.sc (.int .i64 o),.sc (.bool c),dl ps]
def dl:List aS→PV
 | []=>.sc (.slice none 0 0)
 | p :: ps=>.lit 155 (ps.length + 1) (dV p ++ oD ps)
def oD:List aS→List PV
 | []=>[]
 | p :: ps=>dV p ++ oD ps
end
theorem P8:∀l:List aS,oD l=l.flatMap dV:=by
 intro l
 induction l with
 | nil=>rw [oD]; rfl
 | cons p l ih=>rw [oD,ih,List.flatMap_cons]
theorem FM (l:List aS):dl l=aU 155 dV (eo l):=by
 cases l with
 | nil=>rw [dl]; rfl
 | cons p l=>rw [dl,P8]; rfl
def bS:R→PV
 | .ok (l,j)=>.agg [dl l,iN j,.sc (.int .i64 0)]
 | .error (a,e)=>.agg [.sc (.slice none 0 0),iN a,iN e]
theorem gU (p:aS):(dV p).length=5:=by cases p; rw [dV]; rfl
theorem Ct (p:aS):(dV p).all db=true:=by
 cases p with
 | mk k t o c ps=>
  rw [dV];have:db (dl ps)=true:=by cases ps<;>(rw [dl]; rfl)
  simp only [List.all_cons,List.all_nil,this,Bool.and_true];rfl
theorem vG (p:aS):(dV p).all dj=true:=by
 cases p with
 | mk k t o c ps=>
  rw [dV];have:dj (dl ps)=true:=by cases ps<;>(rw [dl]; rfl)
  simp only [List.all_cons,List.all_nil,this,Bool.and_true];rfl
end Go.Mir
namespace Go.PE
open Go Go.EvL
section
variable {P:Program}{Γ:Nat→Option gk}{ext:ar}
theorem aY (s:PS) (k off fin:Nat) (ys:List PV):Gb s (.ptr k off fin) ys=if off + ys.length≤fin∧fin=(s.h k).cells.length∧ys.all db=true then some (s.put k ⟨(s.h k).cells.take off ++ (ys ++ (s.h k).cells.drop (off + ys.length)),fin,(s.h k).e⟩) else none:=(rfl)
theorem gD {g r m:Nat} (k:Nat) {fn:gk}{args q:List PV}{s:PS} (hg:Γ g=some fn) (hl:args.length≤fn.nt) (hr:fn.res=[.cell r true m]) (hk:fn.keep=false)
  (h:Er (fun f' s'=>s.n≤s'.w∧f' r=.ptr k 0 m∧∃cs low e,s'.h k=⟨cs,low,e⟩∧cs.length=m∧low≤m∧iI s.n s' cs=some q) (aT P Γ ext fn.body (bC args 0) ⟨s.h,s.n,s.n⟩)):aH P Γ ext g args s=some (.agg q,s):=by
 refine iQ hg hl h ?_;rintro f s' ⟨hw,h1,cs,low,e,h2,h3,h4,h5⟩;refine gx (vs:=[.agg cs]) hk ?_ hw ?_
 ·rw [hr];simp only [cV,h1,xr,h2];rw [if_pos ⟨om,h4,om⟩,List.drop_zero,List.take_of_length_le om];rfl
 ·show (iI s.n s' cs).map PV.agg=_;rw [h5]; rfl
theorem qC (k:Nat) (fn:gk) (r m:Nat) {P:Program}{Γ:Nat→Option gk}{ext:ar}{g:Nat}{args q:List PV}{s:PS} (h:Er (fun f' s'=>s.n≤s'.w∧f' r=.ptr k 0 m∧∃cs low e,s'.h k=⟨cs,low,e⟩∧cs.length=m∧low≤m∧iI s.n s' cs=some q) (aT P Γ ext fn.body (bC args 0) ⟨s.h,s.n,s.n⟩)) (hg:Γ g=some fn:=by rfl) (hl:args.length≤fn.nt:=by exact Nat.le_of_ble_eq_true rfl) (hr:fn.res=[.cell r true m]:=by rfl) (hk:fn.keep=false:=by rfl):aH P Γ ext g args s=some (.agg q,s):=gD k hg hl hr hk h
end
end Go.PE
namespace Go.Proofs.YtokdflgpbfjpcaaGreatDoor
open Go Go.EvL Go.PE Go.Mir
variable {ext:ar}{b:ByteArray}
theorem bP {n:Nat}{s:PS}{v:PV}{l:List aS}{x y:Value} (h:cM n s v=some (dl l)):iI n s [v,.sc x,.sc y]=some [dl l,.sc x,.sc y]:=by
 simp only [iI,h,Option.bind_some,Option.map_some];rfl
theorem IP (a e:Nat) (s:PS):Pc ext 278 [iN a,iN e] (bS (.error (a,e))) s:=by
 refine gD s.n (fn:=Oy) (r:=4) (m:=3) (by rfl) (by simp [Oy]) (by rfl) (by rfl) ?_;unfold Oy;simp -implicitDefEqProofs (disch:=omega) only [ZS,seval,ZX,aY,db,ow];exact⟨_,_,_,rfl,rfl,Nat.le_refl _,rfl⟩
theorem Vi (p:aS) (j:Nat) (s:PS):Pc ext 303 [.agg (dV p),iN j] (bS (.ok ([p],j))) s:=by
 refine qC (s.n + 1) QM 4 3 ?_;unfold QM;have h5:=gU p;have h6:(dV p).take 5=dV p:=List.take_of_length_le om;simp -implicitDefEqProofs (disch:=omega) only [ZS,seval,ZX,aY,db,ow,h5,h6];refine⟨_,_,_,rfl,rfl,Nat.le_refl _,bP (l:=[p]) ?_⟩;rw [FM];have h7:[p].flatMap dV=dV p:=by rw [List.flatMap_cons,List.flatMap_nil,List.append_nil]
 exact jX.frz gU (b:=s.n) (.inr ⟨by simp,s.n + 1 + 1,om,by simp -implicitDefEqProofs (disch:=omega) only [ZS,seval]; omega,rfl,bm h7⟩) (Nat.le_refl _) (fun x _=>vG x)
theorem Wa {p0 p1 p2 p3 p4 p5 p6 p7 p8 p9 fN fS P:Prop} (h0:p0)(h1:p1)(h2:p2)(h3:p3)(h4:p4)(h5:p5)(h6:p6)(h7:p7)(h8:p8)(h9:p9)(h10:fN)(h11:fS) (h:p0→p1→p2→p3→p4→p5→p6→p7→p8→p9→fN→fS→P:=by intro h0 h1 h2 h3 h4 h5 h6 h7 h8 h9 h10 h11; simp -implicitDefEqProofs (disch:=omega) only [ZS,seval,ZX,h0,h1,h2,h3,h4,h5,h6,h7,h8,h9,h10,h11]<;>first | exact⟨_,_,_,rfl,rfl,Nat.le_refl _,rfl⟩ | exact⟨_,_,_,rfl,rfl,Nat.le_refl _,bP (bu _ _ _)⟩):P:=h h0 h1 h2 h3 h4 h5 h6 h7 h8 h9 h10 h11
theorem V6 {p0 p1 p2 p3 p4 p5 p6 p7 p8 p9 fN fS gL p13 P:Prop} (h0:p0)(h1:p1)(h2:p2)(h3:p3)(h4:p4)(h5:p5)(h6:p6)(h7:p7)(h8:p8)(h9:p9)(h10:fN)(h11:fS)(h12:gL)(h13:p13) (h:p0→p1→p2→p3→p4→p5→p6→p7→p8→p9→fN→fS→gL→p13→P:=by intro h0 h1 h2 h3 h4 h5 h6 h7 h8 h9 h10 h11 h12 h13; simp -implicitDefEqProofs (disch:=omega) only [ZS,seval,ZX,h0,h1,h2,h3,h4,h5,h6,h7,h8,h9,h10,h11,h12,h13]<;>first | exact⟨_,_,_,rfl,rfl,Nat.le_refl _,rfl⟩ | exact⟨_,_,_,rfl,rfl,Nat.le_refl _,bP (bu _ _ _)⟩):P:=h h0 h1 h2 h3 h4 h5 h6 h7 h8 h9 h10 h11 h12 h13
theorem Dt {p0 p1 p2 p3 p4 p5 p6 p7 p8 p9 fN fS gL p13 p14 p15 P:Prop} (h0:p0)(h1:p1)(h2:p2)(h3:p3)(h4:p4)(h5:p5)(h6:p6)(h7:p7)(h8:p8)(h9:p9)(h10:fN)(h11:fS)(h12:gL)(h13:p13)(h14:p14)(h15:p15) (h:p0→p1→p2→p3→p4→p5→p6→p7→p8→p9→fN→fS→gL→p13→p14→p15→P:=by intro h0 h1 h2 h3 h4 h5 h6 h7 h8 h9 h10 h11 h12 h13 h14 h15; simp -implicitDefEqProofs (disch:=omega) only [ZS,seval,ZX,h0,h1,h2,h3,h4,h5,h6,h7,h8,h9,h10,h11,h12,h13,h14,h15]<;>first | exact⟨_,_,_,rfl,rfl,Nat.le_refl _,rfl⟩ | exact⟨_,_,_,rfl,rfl,Nat.le_refl _,bP (bu _ _ _)⟩):P:=h h0 h1 h2 h3 h4 h5 h6 h7 h8 h9 h10 h11 h12 h13 h14 h15
theorem ug {p0 p1 p2 p3 p4 p5 p6 p7 p8 p9 fN fS gL p13 p14 p15 ko kh kj P:Prop} (h0:p0)(h1:p1)(h2:p2)(h3:p3)(h4:p4)(h5:p5)(h6:p6)(h7:p7)(h8:p8)(h9:p9)(h10:fN)(h11:fS)(h12:gL)(h13:p13)(h14:p14)(h15:p15)(h16:ko)(h17:kh)(h18:kj) (h:p0→p1→p2→p3→p4→p5→p6→p7→p8→p9→fN→fS→gL→p13→p14→p15→ko→kh→kj→P:=by intro h0 h1 h2 h3 h4 h5 h6 h7 h8 h9 h10 h11 h12 h13 h14 h15 h16 h17 h18; simp -implicitDefEqProofs (disch:=omega) only [ZS,seval,ZX,h0,h1,h2,h3,h4,h5,h6,h7,h8,h9,h10,h11,h12,h13,h14,h15,h16,h17,h18]<;>first | exact⟨_,_,_,rfl,rfl,Nat.le_refl _,rfl⟩ | exact⟨_,_,_,rfl,rfl,Nat.le_refl _,bP (bu _ _ _)⟩):P:=h h0 h1 h2 h3 h4 h5 h6 h7 h8 h9 h10 h11 h12 h13 h14 h15 h16 h17 h18
theorem qx {p0 p1 p2 p3 p4 p5 p6 p7 p8 p9 fN fS gL p13 p14 p15 ko kh kj nq nF nK P:Prop} (h0:p0)(h1:p1)(h2:p2)(h3:p3)(h4:p4)(h5:p5)(h6:p6)(h7:p7)(h8:p8)(h9:p9)(h10:fN)(h11:fS)(h12:gL)(h13:p13)(h14:p14)(h15:p15)(h16:ko)(h17:kh)(h18:kj)(h19:nq)(h20:nF)(h21:nK) (h:p0→p1→p2→p3→p4→p5→p6→p7→p8→p9→fN→fS→gL→p13→p14→p15→ko→kh→kj→nq→nF→nK→P:=by intro h0 h1 h2 h3 h4 h5 h6 h7 h8 h9 h10 h11 h12 h13 h14 h15 h16 h17 h18 h19 h20 h21; simp -implicitDefEqProofs (disch:=omega) only [ZS,seval,ZX,h0,h1,h2,h3,h4,h5,h6,h7,h8,h9,h10,h11,h12,h13,h14,h15,h16,h17,h18,h19,h20,h21]<;>first | exact⟨_,_,_,rfl,rfl,Nat.le_refl _,rfl⟩ | exact⟨_,_,_,rfl,rfl,Nat.le_refl _,bP (bu _ _ _)⟩):P:=h h0 h1 h2 h3 h4 h5 h6 h7 h8 h9 h10 h11 h12 h13 h14 h15 h16 h17 h18 h19 h20 h21
theorem AK {p0 p1 p2 p3 p4 p5 p6 p7 p8 p9 fN fS gL p13 p14 p15 ko kh kj nq nF nK sN ur ui tr P:Prop} (h0:p0)(h1:p1)(h2:p2)(h3:p3)(h4:p4)(h5:p5)(h6:p6)(h7:p7)(h8:p8)(h9:p9)(h10:fN)(h11:fS)(h12:gL)(h13:p13)(h14:p14)(h15:p15)(h16:ko)(h17:kh)(h18:kj)(h19:nq)(h20:nF)(h21:nK)(h22:sN)(h23:ur)(h24:ui)(h25:tr) (h:p0→p1→p2→p3→p4→p5→p6→p7→p8→p9→fN→fS→gL→p13→p14→p15→ko→kh→kj→nq→nF→nK→sN→ur→ui→tr→P:=by intro h0 h1 h2 h3 h4 h5 h6 h7 h8 h9 h10 h11 h12 h13 h14 h15 h16 h17 h18 h19 h20 h21 h22 h23 h24 h25; simp -implicitDefEqProofs (disch:=omega) only [ZS,seval,ZX,h0,h1,h2,h3,h4,h5,h6,h7,h8,h9,h10,h11,h12,h13,h14,h15,h16,h17,h18,h19,h20,h21,h22,h23,h24,h25]<;>first | exact⟨_,_,_,rfl,rfl,Nat.le_refl _,rfl⟩ | exact⟨_,_,_,rfl,rfl,Nat.le_refl _,bP (bu _ _ _)⟩):P:=h h0 h1 h2 h3 h4 h5 h6 h7 h8 h9 h10 h11 h12 h13 h14 h15 h16 h17 h18 h19 h20 h21 h22 h23 h24 h25
theorem HN {p0 p1 p2 p3 p4 p5 p6 p7 p8 p9 fN fS gL p13 p14 p15 ko kh kj nq nF nK sN ur ui tr xh xi xg xj xR AA P:Prop} (h0:p0)(h1:p1)(h2:p2)(h3:p3)(h4:p4)(h5:p5)(h6:p6)(h7:p7)(h8:p8)(h9:p9)(h10:fN)(h11:fS)(h12:gL)(h13:p13)(h14:p14)(h15:p15)(h16:ko)(h17:kh)(h18:kj)(h19:nq)(h20:nF)(h21:nK)(h22:sN)(h23:ur)(h24:ui)(h25:tr)(h26:xh)(h27:xi)(h28:xg)(h29:xj)(h30:xR)(h31:AA) (h:p0→p1→p2→p3→p4→p5→p6→p7→p8→p9→fN→fS→gL→p13→p14→p15→ko→kh→kj→nq→nF→nK→sN→ur→ui→tr→xh→xi→xg→xj→xR→AA→P:=by intro h0 h1 h2 h3 h4 h5 h6 h7 h8 h9 h10 h11 h12 h13 h14 h15 h16 h17 h18 h19 h20 h21 h22 h23 h24 h25 h26 h27 h28 h29 h30 h31; simp -implicitDefEqProofs (disch:=omega) only [ZS,seval,ZX,h0,h1,h2,h3,h4,h5,h6,h7,h8,h9,h10,h11,h12,h13,h14,h15,h16,h17,h18,h19,h20,h21,h22,h23,h24,h25,h26,h27,h28,h29,h30,h31]<;>first | exact⟨_,_,_,rfl,rfl,Nat.le_refl _,rfl⟩ | exact⟨_,_,_,rfl,rfl,Nat.le_refl _,bP (bu _ _ _)⟩):P:=h h0 h1 h2 h3 h4 h5 h6 h7 h8 h9 h10 h11 h12 h13 h14 h15 h16 h17 h18 h19 h20 h21 h22 h23 h24 h25 h26 h27 h28 h29 h30 h31
end Go.Proofs.YtokdflgpbfjpcaaGreatDoor
namespace Go.PE
open Go Go.EvL
section
variable {P:Program}{Γ:Nat→Option gk}{ext:ar}
theorem K5 {g r:Nat}{fn:gk}{args:List PV}{s:PS}{R:PV→PS→Prop} (hg:Γ g=some fn) (hl:args.length≤fn.nt) (hr:fn.res=[.tmp r]) (hk:fn.keep=true) (h:Er (fun f' s'=>R (f' r) ⟨s'.h,s'.n,min s.w s'.w⟩) (aT P Γ ext fn.body (bC args 0) ⟨s.h,s.n,s.n⟩)):∃v s',aH P Γ ext g args s=some (v,s')∧R v s':=by
 obtain⟨f,s',e,hv⟩:=h;refine⟨f r,⟨s'.h,s'.n,min s.w s'.w⟩,?_,hv⟩;rw [ej hg _ _ hl,e];show b9 fn s f s'=_;unfold b9;rw [hr];simp only [cV,Option.map_some,Option.bind_some,hk,if_true];rfl
theorem jX.weaken {α:Type}{e es b b':Nat}{c:α→List PV}{l:List α}{v:PV}{s:PS} (h:jX e es c b l v s) (hb:b'≤b):jX e es c b' l v s:=by
 rcases h with h | ⟨hl,k,k1,k2,k3,k4⟩
 ·exact .inl h
 ·exact .inr ⟨hl,k,om,k2,k3,k4⟩
end
end Go.PE
namespace Go.Proofs.YtokdflgpbfjpcaaGreatDoor
open Go Go.EvL Go.PE Go.Mir
variable {ext:ar}
theorem vz (t:List UInt8):dV (gn t)=[.sc (.int .i64 1),.sc (.string ⟨⟨t⟩⟩),.sc (.int .i64 0),.sc (.bool false),.sc (.slice none 0 0)]:=by
 rw [gn,dV,dl]
theorem PR (p:aS):[p].flatMap dV=dV p:=by rw [List.flatMap_cons,List.flatMap_nil,List.append_nil]
theorem yb (x y:List UInt8):(⟨⟨x⟩⟩ : ByteArray) ++ (⟨⟨y⟩⟩ : ByteArray)=⟨⟨x ++ y⟩⟩:=by
 apply ByteArray.ext;simp
theorem Co {s:PS}{e es bytes n:Nat}{v v':PV}{xs:List PV}{s':PS} (h:uk s e es bytes v xs n=some (v',s')) (j:Nat) (hj:j < s.n) (hne:∀a m c,v≠.own j a m c):s'.h j=s.h j:=by
 unfold uk at h;split at h
 ·split at h
  ·injection h with h; injection h with _ h; rw [← h]
  ·cases h
 ·split at h
  ·split at h
   ·injection h with h; injection h with _ h; rw [← h,eY,if_neg om]
   ·cases h
  ·rename_i k off m fin;split at h
   ·injection h with h; injection h with _ h; rw [← h,eZ,if_neg fun hh=>hne off m fin (by rw [hh])]
   ·cases h
  ·split at h
   ·injection h with h; injection h with _ h; rw [← h,eY,if_neg om]
   ·cases h
  ·cases h
theorem kr {α:Type}{e es b:Nat}{c:α→List PV}{l:List α}{v:PV}{s:PS} (h:jX e es c b l v s) (j:Nat) (hj:j < b∨s.n≤j):∀a m c,v≠.own j a m c:=by
 intro a m cc hv;rcases h with ⟨_,h⟩ | ⟨_,k,k1,k2,h,_⟩
 ·rw [h] at hv; cases hv
 ·rw [h] at hv; injection hv with hk; omega
structure FG (bd:Nat) (s:PS) (v0:PV) (l:List aS) (v:PV) (s':PS):Prop where
 acc:jX 155 5 dV bd l v s'
 keep:∀j,j < s.n→(∀a m c,v0≠.own j a m c)→s'.h j=s.h j
 same:∀j,j < bd→s'.h j=s.h j
 n:s.n≤s'.n
 w:∀n0,n0≤bd→n0≤s.w→n0≤s'.w
theorem qb {bd:Nat}{l:List aS}{v:PV}{s:PS} (h:jX 155 5 dV bd l v s) (hbd:bd≤s.n) (hn:l.length < 1000000000) (p:aS) :
  ∃v' s',uk (s.new ⟨dV p,0,155⟩) 155 5 64 v (dV p) 1=some (v',s')∧FG bd s v (l ++ [p]) v' s':=by
 obtain⟨v',s',a1,a2,a3,a4,a5⟩:=(h.new ⟨dV p,0,155⟩).app (bytes:=64) gU [p] om (by simp only [List.length_cons,List.length_nil]; omega) (by simp only [List.length_cons,List.length_nil]; omega) (fun x _=>Ct x) (by rw [dN]; omega);rw [PR] at a1;refine⟨v',s',a1,a2,fun j hj hne=>?_,fun j hj=>?_,by rw [dN] at a4; omega,fun n0 h1 h2=>a5 n0 h1 (by rw [kq]; exact h2)⟩
 ·rw [Co a1 j (by rw [dN]; omega) hne,eY,if_neg om]
 ·rw [a3 j hj,eY,if_neg om]
theorem Q8 {bd:Nat}{l:List aS}{v:PV}{t:List UInt8}{s:PS} (h:jX 155 5 dV bd l v s) (hbd:bd≤s.n) (hn:l.length < 1000000000) (ht:∀p,l.getLast?=some p→p.kind=1→p.text.length + t.length < 4611686018427387904) :
  ∃v' s',aH Tryz.prog Γ ext 281 [v,.sc (.string ⟨⟨t⟩⟩)] s=some (v',s')∧FG bd s v (me l t) v' s':=by
 refine K5 (fn:=OZ) (r:=4) (by rfl) (by simp [OZ]) (by rfl) (by rfl) ?_;have hel:=t6 (e:=155) (⟨s.h,s.n,s.n⟩ : PS) (dV (gn t));rw [gU] at hel;obtain⟨v1,s1,a1,a2⟩:=qb (s:=⟨s.h,s.n,s.n⟩) (h.frame (s':=⟨s.h,s.n,s.n⟩) (Nat.le_refl _) fun _ _=>rfl) hbd hn (gn t);rw [vz] at hel a1;have fin:∀{v0:PV}{l':List aS}{v':PV}{s':PS},FG bd ⟨s.h,s.n,s.n⟩ v0 l' v' s'→FG bd s v0 l' v' ⟨s'.h,s'.n,min s.w s'.w⟩:=fun g=>⟨g.acc.frame (Nat.le_refl _) fun _ _=>rfl,g.keep,g.same,g.n,fun n0 h1 h2=>by
  have:=g.w n0 h1 (by show n0≤s.n; omega);show n0≤min _ _;omega⟩
 unfold OZ;rcases h with ⟨rfl,rfl⟩ | ⟨hl,k,k1,k2,rfl,k3⟩
 ·have hz:decide ((0:Int) > 0)=false:=rfl;have hw:me [] t=[] ++ [gn t]:=rfl;refine QY hz hel a1 ?_;rw [hw];exact fin a2
 ·obtain⟨l',p,rfl⟩ : ∃l' p,l=l' ++ [p]:=⟨l.dropLast,l.getLast hl,(List.dropLast_concat_getLast hl).symm⟩
  have hlen:(l' ++ [p]).length=l'.length + 1:=by simp
  rw [hlen] at a1 a2;rw [hlen];have hfm:(l' ++ [p]).flatMap dV=l'.flatMap dV ++ dV p:=by rw [List.flatMap_append,PR]
  have hfl:(l'.flatMap dV).length=l'.length * 5:=aJ gU l';rw [hfm] at k3;have c0:decide (0 < l'.length + 1)=true:=dt;have c1:l'.length + 1 - 1 < l'.length + 1:=om;have c2:l'.length + 1 - 1=l'.length:=om;have hld:∀(s':PS) (off:Nat),s'.h k=⟨l'.flatMap dV ++ dV p,0,155⟩→off < 5→xr s' (.ptr k (l'.length * 5 + off) ((l'.length + 1) * 5)) 1=some (((dV p).drop off).take 1):=by
   intro s' off h1 h2;rw [yY,h1];have:=gU p;rw [if_pos ⟨om,Nat.zero_le _,by rw [List.length_append,hfl]; omega⟩,List.drop_append,List.drop_of_length_le (by rw [hfl]; omega),List.nil_append,hfl];rw [show l'.length * 5 + off - l'.length * 5=off by omega]
  have hgl:(l' ++ [p]).getLast?=some p:=by simp
  have hwt:me (l' ++ [p]) t=if p.kind=1 then l' ++ [gn (p.text ++ t)] else (l' ++ [p]) ++ [gn t]:=by
   unfold me;rw [hgl];simp only [List.dropLast_concat]
  obtain⟨kd,tx,o,c,ps⟩:=p;have hl0:=fun (s':PS) h1=>hld s' 0 h1 om;have hl1:=fun (s':PS) h1=>hld s' 1 h1 om;rw [dV] at hl0 hl1;simp only [List.drop_zero,List.drop_succ_cons,List.take_succ_cons,List.take_zero,Nat.add_zero] at hl0 hl1;have hl0':=hl0 ⟨s.h,s.n,s.n⟩ k3;have hlt:l'.length < l'.length + 1:=om;have hz5 : 0 + (l'.length + 1) * 5=(l'.length + 1) * 5:=om;have hwk:IntKind.i64.wrap (((l'.length + 1:Nat):Int) - 1)=(l'.length:Int):=by rw [Ut om]; rfl
  by_cases hk:kd=1
  ·subst hk;have hw1:me (l' ++ [aS.mk 1 tx o c ps]) t=l' ++ [gn (tx ++ t)]:=hwt.trans (if_pos rfl);rw [hw1];have hs:J8 ⟨s.h,s.n,s.n⟩ 155 5 (.own k 0 (l'.length + 1) ((l'.length + 1) * 5)) 0 l'.length=some (.own k 0 l'.length (l'.length * 5)):=by
    unfold J8;simp only [k3];rw [if_pos ⟨Nat.zero_le _,om,om,Nat.zero_le _,trivial⟩];simp
   have he:iy ⟨s.h,s.n,s.n⟩ 5 (.own k 0 l'.length (l'.length * 5))=some (l'.flatMap dV,l'.length):=by
    unfold iy;simp only [k3];rw [if_pos ⟨om,Nat.zero_le _,by rw [List.length_append,hfl]; omega⟩,List.drop_zero,List.take_left' hfl]
   obtain⟨v2,s2,b1,b2,b3,b4,b5⟩:=(jX.nil 155 5 dV s.n ⟨s.h,s.n,s.n⟩).app (bytes:=64) gU l' om (by simp only [List.length_nil]; omega) (by simp only [List.length_nil]; omega) (fun x _=>Ct x) (Nat.le_refl _);have hl1':=hl1 s2 (by rw [b3 k k2]; exact k3);have htx:=ht _ hgl rfl;have hcat:=yb tx t;have hsz:(⟨⟨tx⟩⟩ : ByteArray).size + (⟨⟨t⟩⟩ : ByteArray).size < 9223372036854775808:=by
    show tx.length + t.length < _;have:tx.length + t.length < 4611686018427387904:=htx;omega
   have hel2:=t6 (e:=155) s2 (dV (gn (tx ++ t)));rw [gU] at hel2;have hadd:=fun (P:Program) ty x y=>m8 (P:=P) ty x y hsz;rw [hcat] at hadd;obtain⟨v3,s3,d1,d2⟩:=qb (bd:=bd) (s:=s2) (b2.weaken hbd) (Nat.le_trans hbd b4) (by rw [List.nil_append]; rw [hlen] at hn; omega) (gn (tx ++ t));rw [List.nil_append] at d2;rw [vz] at hel2 d1;refine jU c0 hwk hlt hz5 hl0' hs he b1 hl1' hadd hel2 d1 ?_;exact fin ⟨d2.acc,fun j hj hne=>(d2.keep j (by have h9:s.n≤s2.n:=b4; have h8:j < s.n:=hj; omega) (kr b2 j (.inl hj))).trans (Co b1 j hj fun _ _ _ h=>by cases h),fun j hj=>(d2.same j hj).trans (b3 j om),by have:=d2.n; omega,fun n0 h1 h2=>d2.w n0 h1 (b5 n0 om (by show n0≤s.n; omega))⟩
  ·have hw1:me (l' ++ [aS.mk kd tx o c ps]) t=(l' ++ [aS.mk kd tx o c ps]) ++ [gn t]:=hwt.trans (if_neg hk);rw [hw1];have hk1:(kd == 1)=false:=beq_eq_false_iff_ne.2 hk;refine Cc c0 hwk hlt hz5 hl0' hk1 hel a1 ?_;exact fin a2
end Go.Proofs.YtokdflgpbfjpcaaGreatDoor
namespace Go.Mir
theorem qM.bd {l:List UInt8}{i j:Nat} (h:qM l i j):i≤l.length→i≤j∧j≤l.length:=by
 induction h with
 | stop h=>exact fun h=>⟨Nat.le_refl _,h⟩
 | step h k ih=>intro _; have:=ij h; have:=ih (by omega); exact⟨by omega,this.2⟩
theorem iK.bd {l:List UInt8}{i j:Nat} (h:iK l i j) (hi:i≤l.length):i≤j∧j≤l.length:=by
 have hn:∀{v i j:Nat},Ar l v i j→i≤l.length→i≤j∧j≤l.length:=by
  intro v i j h
  induction h with
  | stop h=>intro h; exact⟨Nat.le_refl _,h⟩
  | step hl h2 h3 k ih=>intro h; have:=ih (by omega); exact⟨by omega,this.2⟩
 cases h with
 | none0 h=>exact⟨Nat.le_refl _,hi⟩
 | zero hl h=>exact⟨by omega,by omega⟩
 | num hl h h2 k=>exact hn k hi
 | name hl h h2=>exact⟨oJ _ _ _,kR hi⟩
 | spec hl h h2=>exact⟨by omega,by omega⟩
 | none hl h h2=>exact⟨Nat.le_refl _,hi⟩
theorem CG (l:List UInt8) (a c:Nat):(sub l a c).length≤c - a:=by
 unfold sub; rw [List.length_take]; exact Nat.min_le_left _ _
theorem mZ (l:List UInt8) (a:Nat) (h:a < l.length):(lL l a).1≠0→a + (lL l a).2.2≤l.length∧1≤(lL l a).2.2:=by
 unfold lL;split
 ·unfold mK;split
  ·intro hh; exact absurd rfl hh
  rename_i h1;have h2:¬ l.length≤a + 1:=by simpa using h1
  (repeat' split)<;>intro hh<;>first | (exact absurd rfl hh) | (constructor<;>(simp only; omega))
 ·unfold mU;have h2:∀{c d:Bool},(c && (decide (a + 1 < l.length) && d))=true→a + 1 < l.length:=fun h=>by
   simp only [Bool.and_eq_true,decide_eq_true_eq] at h; exact h.2.1
  (repeat' split)<;>intro hh<;>first | (exact absurd rfl hh) | (constructor<;>(simp only; omega)) | (rename_i g; have:=h2 g; constructor<;>(simp only; omega))
def ew.ok (l:List UInt8):ew→Prop
 | .loop a _ _ _ _ _=>a≤l.length
 | .part a _ _=>a < l.length
 | .brc a _ _ | .brc2 a _ _=>a + 2≤l.length
def WB (l:List UInt8):ew→R→Prop
 | .loop a p _ _ _ _,.ok x=>a≤x.2∧x.2≤l.length∧(p≠0→p≠5→x.2 < l.length)∧(p=4→x.2 + 1 < l.length)
 | .part a _ _,.ok x=>a < x.2∧x.2≤l.length∧x.1.length≤1∧∀q∈x.1,q.kind=1→q.text.length≤x.2 - a
 | .brc a _ _,.ok x=>a < x.2∧x.2≤l.length∧x.1.length≤1∧∀q∈x.1,q.kind=4
 | .brc2 a _ _,.ok x=>a < x.2∧x.2≤l.length∧x.1.length≤1∧∀q∈x.1,q.kind=4
 | _,.error _=>True
theorem vn (p:Nat):eB p≠0∧eB p≠5∧eB p≠4∧eB p≤6:=by
 unfold eB;split
 ·omega
 ·split<;>omega
theorem Wx.bound {l:List UInt8}{t:ew}{r:R} (h:Wx l t r):t.ok l→WB l t r:=by
 induction h with
 | l_end h=>intro ok; exact⟨ok,Nat.le_refl _,fun h1 h2=>by omega,fun h1=>by omega⟩
 | l_open=>intro ok; trivial
 | l_q hl h h2=>intro ok; exact⟨Nat.le_refl _,by omega,fun _ _=>hl,fun h1=>absurd h1 h2⟩
 | l_a0=>intro ok; trivial
 | l_a h h2 h3=>intro ok; exact⟨Nat.le_refl _,by omega,fun _ _=>by omega,fun _=>h2⟩
 | l_a1=>intro ok; trivial
 | @l_tilde a p lv fr o r hl h h2 k ih=>
  intro ok;have:=ih (by simp only [ew.ok]; omega);cases r with
  | error x=>trivial
  | ok x=>exact⟨by have:=this.1; omega,this.2⟩
 | l_err=>intro ok; trivial
 | @l_on a p lv fr o acc ps j r hl h h2 k k2 ih ih2=>
  intro ok;have h1:=ih hl;have:=ih2 h1.2.1;cases r with
  | error x=>trivial
  | ok x=>exact⟨by have:=this.1; have:=h1.1; simp only at *; omega,this.2⟩
 | s_end5 h h2=>intro ok; exact⟨by simp only; omega,by simp only; omega,Nat.le_refl _,fun q hq _=>by cases hq with | head=>simp only; show 1≤_; omega | tail _ h=>cases h⟩
 | s_end=>intro ok; trivial
 | s_nl h h2 h3=>intro ok; exact⟨by simp only; omega,by simp only; omega,Nat.zero_le _,fun q hq=>by cases hq⟩
 | s_out h h2 h3 h4=>intro ok; exact⟨by simp only; omega,by simp only; omega,Nat.le_refl _,fun q hq hk=>by cases hq with | head=>cases hk | tail _ h=>cases h⟩
 | s_esc h h2 h3 h4 h5=>intro ok; exact⟨by simp only; omega,by simp only; omega,Nat.le_refl _,fun q hq _=>by cases hq with | head=>exact Nat.le_trans (CG _ _ _) (by simp only; omega) | tail _ h=>cases h⟩
 | s_par=>intro ok; trivial
 | s_two h h2 h3 h4 h5 h6=>intro ok; exact⟨by simp only; omega,by simp only; omega,Nat.le_refl _,fun q hq _=>by cases hq with | head=>exact Nat.le_trans (CG _ _ _) (by simp only; omega) | tail _ h=>cases h⟩
 | q_err=>intro ok; trivial
 | q_ok hl h k c=>intro ok; have hb:=k.bound ⟨by omega,hl⟩; have:=hb.2 rfl; simp only [gH.at] at this; exact⟨by simp only; omega,hb.1,Nat.le_refl _,fun q hq hk=>by cases hq with | head=>cases hk | tail _ h=>cases h⟩
 | q_nl hl h k c c2=>intro ok; have hb:=k.bound ⟨by omega,hl⟩; have:=hb.2 rfl; simp only [gH.at] at this; exact⟨by simp only; omega,hb.1,Nat.le_refl _,fun q hq hk=>by cases hq with | head=>cases hk | tail _ h=>cases h⟩
 | q_no=>intro ok; trivial
 | @x_brc a p lv r h h2 k ih=>
  intro ok;have hl:=ce h;have:=ih (by simp only [ew.ok]; omega);cases r with
  | error x=>trivial
  | ok x=>exact⟨this.1,this.2.1,this.2.2.1,fun q hq hk=>by rw [this.2.2.2 q hq] at hk; cases hk⟩
 | x_deep=>intro ok; trivial
 | x_ari h h2 hl h3 h4 k ih=>intro ok; have:=ih (by simp only [ew.ok]; omega); exact⟨by have:=this.1; simp only at *; omega,by have:=this.2.2.2 rfl; simp only at *; omega,Nat.le_refl _,fun q hq hk=>by cases hq with | head=>cases hk | tail _ h=>cases h⟩
 | x_ari0=>intro ok; trivial
 | x_cmd h h2 h3 k=>intro ok; have hl:=ce h; have hb:=k.bound ⟨by omega,by omega⟩; have:=hb.2 rfl; simp only [gH.at] at this; exact⟨by simp only; omega,hb.1,Nat.le_refl _,fun q hq hk=>by cases hq with | head=>cases hk | tail _ h=>cases h⟩
 | x_cmd0=>intro ok; trivial
 | x_sp h h2=>intro ok; have hl:=ce h; exact⟨by simp only; omega,by simp only; omega,Nat.le_refl _,fun q hq hk=>by cases hq with | head=>cases hk | tail _ h=>cases h⟩
 | x_long=>intro ok; trivial
 | x_nm h h2 h3 h4 h5=>intro ok; have hl:=ce h; have:=sF h h3 h4 h2; exact⟨by simp only; omega,kR (by omega),Nat.le_refl _,fun q hq hk=>by cases hq with | head=>cases hk | tail _ h=>cases h⟩
 | x_bad=>intro ok; trivial
 | x_lit hl h h2 h3=>intro ok; exact⟨by simp only; omega,by simp only; omega,Nat.le_refl _,fun q hq _=>by cases hq with | head=>simp only; show 1≤_; omega | tail _ h=>cases h⟩
 | t_sq0=>intro ok; trivial
 | @t_sq a p lv hl h h2 h3=>intro ok; have:=oJ (fun x=>x != 39) l (a + 1); exact⟨by simp only; unfold cQ at *; omega,by simp only; omega,Nat.le_refl _,fun q hq hk=>by cases hq with | head=>cases hk | tail _ h=>cases h⟩
 | t_deep=>intro ok; trivial
 | t_dq hl h h2 h3 k ih=>intro ok; have:=ih (by simp only [ew.ok]; omega); have g:=this.2.2.1 (by omega) (by omega); exact⟨by have:=this.1; simp only at *; omega,by simp only at *; omega,Nat.le_refl _,fun q hq hk=>by cases hq with | head=>cases hk | tail _ h=>cases h⟩
 | t_dq0=>intro ok; trivial
 | o_op=>intro ok; trivial
 | o_dq=>intro ok; trivial
 | o_lit hl h1 h2 h3 h4 h5 h6=>intro ok; exact⟨by simp only; omega,by simp only; omega,Nat.le_refl _,fun q hq _=>by cases hq with | head=>exact Nat.le_trans (CG _ _ _) (by simp only; omega) | tail _ h=>cases h⟩
 | r_long=>intro ok; trivial
 | r_len hl h k h2 h3 h4 h5=>intro ok; exact⟨by simp only; omega,by simp only; omega,Nat.le_refl _,fun q hq=>by cases hq with | head=>rfl | tail _ h=>cases h⟩
 | r_end=>intro ok; trivial
 | @r_sharp a p lv j r hl h k h2 h3 k2 ih=>intro ok; have:=ih (by simp only [ew.ok] at *; omega); cases r with | error x=>trivial | ok x=>exact this
 | @r_two a p lv r h k2 ih=>intro ok; have:=ih (by simp only [ew.ok] at *; omega); cases r with | error x=>trivial | ok x=>exact this
 | w_long=>intro ok; trivial
 | w_end=>intro ok; trivial
 | w_none=>intro ok; trivial
 | w_plain k h h2 h3 h4=>intro ok; exact⟨by simp only; omega,by simp only; omega,Nat.le_refl _,fun q hq=>by cases hq with | head=>rfl | tail _ h=>cases h⟩
 | w_colon0=>intro ok; trivial
 | w_colon=>intro ok; trivial
 | w_sharp=>intro ok; trivial
 | w_bad=>intro ok; trivial
 | w_deep=>intro ok; trivial
 | w_join=>intro ok; trivial
 | w_err=>intro ok; trivial
 | @w_ok a p lv j ps i k h h2 h3 h4 h5 h6 h7 k2 ih=>intro ok; have ho:=mZ l j h2 h5; have:=ih ho.1; have g:=vn p; have g2:=this.2.2.1 g.1 g.2.1; exact⟨by have:=this.1; simp only at *; omega,by simp only at *; omega,Nat.le_refl _,fun q hq=>by cases hq with | head=>rfl | tail _ h=>cases h⟩
end Go.Mir
