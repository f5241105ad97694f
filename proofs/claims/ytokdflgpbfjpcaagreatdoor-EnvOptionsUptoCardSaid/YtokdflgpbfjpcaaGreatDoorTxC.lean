/- What functions of the program and of the reference compute, on values. No statement is proved here. -/
import Derived.Test.YtokdflgpbfjpcaaGreatDoorTxA
import Derived.Test.YtokdflgpbfjpcaaGreatDoorTxB
import Derived.Test.YtokdflgpbfjpcaaGreatDoorProg
import Derived.KernelRfl
import Derived.Laws.StructEq
set_option linter.unusedSimpArgs false
set_option linter.unusedVariables false
set_option linter.defProp false
namespace Go.Proofs.YtokdflgpbfjpcaaGreatDoor
open Go Go.EvL Go.PE
def Γ1:Nat→Option gk
 | 3=>some p3
 | 4=>some p4
 | 6=>some p6
 | 7=>some p7
 | 8=>some p8
 | 9=>some p9
 | 10=>some fN
 | 11=>some fS
 | 12=>some gL
 | 16=>some ko
 | 17=>some kh
 | 18=>some kj
 | 19=>some nq
 | 20=>some nF
 | 21=>some nK
 | 22=>some sN
 | 23=>some ur
 | 24=>some ui
 | 25=>some tr
 | 26=>some xh
 | 27=>some xi
 | 28=>some xg
 | 29=>some xj
 | 30=>some xR
 | 31=>some AA
 | 32=>some LN
 | 33=>some LL
 | 34=>some Oz
 | 35=>some Lg
 | 47=>some VT
 | 48=>some Ii
 | 49=>some Xj
 | 50=>some XB
 | 51=>some Xl
 | 52=>some Xh
 | 53=>some XK
 | 54=>some XQ
 | 55=>some Xp
 | 56=>some XO
 | 57=>some XD
 | 58=>some XL
 | 59=>some VQ
 | 60=>some VG
 | 61=>some Ie
 | 62=>some VZ
 | 63=>some Wk
 | 64=>some RH
 | 65=>some Cw
 | 66=>some TU
 | 67=>some Tl
 | 68=>some Uk
 | 83=>some XJ
 | 84=>some Um
 | 85=>some Vq
 | 86=>some Xq
 | 87=>some Xi
 | 88=>some Tg
 | 89=>some Xr
 | 90=>some XG
 | 91=>some Ve
 | 92=>some Xs
 | 93=>some XA
 | 94=>some VU
 | 95=>some VO
 | 96=>some XS
 | 97=>some XU
 | 98=>some Wg
 | 99=>some Xk
 | 100=>some Vw
 | 101=>some QG
 | 102=>some W4
 | 103=>some VL
 | 104=>some Wv
 | 105=>some W1
 | 106=>some VK
 | 107=>some Hv
 | 108=>some Em
 | 109=>some SN
 | 110=>some Ss
 | 111=>some Rn
 | _=>none
def Γ2:Nat→Option gk
 | 112=>some Sp
 | 113=>some P0
 | 114=>some qu
 | 143=>some xG
 | 144=>some W7
 | 145=>some Vx
 | 146=>some SG
 | 147=>some VE
 | 148=>some Wh
 | 149=>some Ws
 | 150=>some W0
 | 151=>some UM
 | 152=>some xB
 | 153=>some Q9
 | 154=>some Qq
 | 155=>some Qe
 | 156=>some QT
 | 178=>some Wd
 | 179=>some B0
 | 180=>some Wl
 | 181=>some RQ
 | 216=>some S3
 | 217=>some Mk
 | 218=>some NY
 | 219=>some NQ
 | 220=>some Sv
 | 236=>some RY
 | 237=>some Qy
 | 238=>some Ry
 | 239=>some Oq
 | 240=>some S1
 | 241=>some Qg
 | 242=>some Rr
 | 243=>some Oa
 | 244=>some S0
 | 252=>some Or
 | 253=>some P4
 | 254=>some xC
 | 255=>some O2
 | 256=>some R7
 | 263=>some xw
 | 264=>some N4
 | 265=>some Rm
 | 266=>some SR
 | 267=>some Q3
 | 268=>some Qh
 | 277=>some R9
 | 278=>some Oy
 | 279=>some Rt
 | 280=>some jo
 | 281=>some OZ
 | 282=>some SO
 | 283=>some QQ
 | 284=>some Qs
 | 296=>some S2
 | 297=>some mP
 | 298=>some D4
 | 299=>some vJ
 | 300=>some uY
 | 301=>some Gu
 | 302=>some wI
 | 303=>some QM
 | 313=>some jZ
 | 314=>some QK
 | 315=>some Ri
 | 316=>some lU
 | 321=>some NT
 | 322=>some qq
 | 323=>some O0
 | 324=>some LY
 | 325=>some RN
 | 326=>some Vu
 | 327=>some QR
 | 330=>some P9
 | 331=>some OC
 | 332=>some Of
 | 333=>some QS
 | 334=>some N2
 | 343=>some Rp
 | 344=>some QV
 | 345=>some OI
 | _=>none
def Γ (g:Nat):Option gk:=(Γ1 g).or (Γ2 g)
theorem kf {g:FuncId}{f:Func}{c:gk} (h:Tryz.prog.funcs[g]?=some f) (h2:tI Tryz.prog f c.keep=some c:=by kernel_rfl):∃fn k,Tryz.prog.funcs[g]?=some fn∧tI Tryz.prog fn k=some c:=⟨_,_,h,h2⟩
theorem Wy:y6 Tryz.prog Γ1:=by
 intro g pf h;unfold Γ1 at h;split at h
 all_goals first | cases h; done | injection h with h; subst h
 ·exact kf Tryz.func3
 ·exact kf Tryz.func4
 ·exact kf Tryz.func6
 ·exact kf Tryz.func7
 ·exact kf Tryz.func8
 ·exact kf Tryz.func9
 ·exact kf Tryz.func10
 ·exact kf Tryz.func11
 ·exact kf Tryz.func12
 ·exact kf Tryz.func16
 ·exact kf Tryz.func17
 ·exact kf Tryz.func18
 ·exact kf Tryz.func19
 ·exact kf Tryz.func20
 ·exact kf Tryz.func21
 ·exact kf Tryz.func22
 ·exact kf Tryz.func23
 ·exact kf Tryz.func24
 ·exact kf Tryz.func25
 ·exact kf Tryz.func26
 ·exact kf Tryz.func27
 ·exact kf Tryz.func28
 ·exact kf Tryz.func29
 ·exact kf Tryz.func30
 ·exact kf Tryz.func31
 ·exact kf Tryz.func32
 ·exact kf Tryz.func33
 ·exact kf Tryz.func34
 ·exact kf Tryz.func35
 ·exact kf Tryz.func47
 ·exact kf Tryz.func48
 ·exact kf Tryz.func49
 ·exact kf Tryz.func50
 ·exact kf Tryz.func51
 ·exact kf Tryz.func52
 ·exact kf Tryz.func53
 ·exact kf Tryz.func54
 ·exact kf Tryz.func55
 ·exact kf Tryz.func56
 ·exact kf Tryz.func57
 ·exact kf Tryz.func58
 ·exact kf Tryz.func59
 ·exact kf Tryz.func60
 ·exact kf Tryz.func61
 ·exact kf Tryz.func62
 ·exact kf Tryz.func63
 ·exact kf Tryz.func64
 ·exact kf Tryz.func65
 ·exact kf Tryz.func66
 ·exact kf Tryz.func67
 ·exact kf Tryz.func68
 ·exact kf Tryz.func83
 ·exact kf Tryz.func84
 ·exact kf Tryz.func85
 ·exact kf Tryz.func86
 ·exact kf Tryz.func87
 ·exact kf Tryz.func88
 ·exact kf Tryz.func89
 ·exact kf Tryz.func90
 ·exact kf Tryz.func91
 ·exact kf Tryz.func92
 ·exact kf Tryz.func93
 ·exact kf Tryz.func94
 ·exact kf Tryz.func95
 ·exact kf Tryz.func96
 ·exact kf Tryz.func97
 ·exact kf Tryz.func98
 ·exact kf Tryz.func99
 ·exact kf Tryz.func100
 ·exact kf Tryz.func101
 ·exact kf Tryz.func102
 ·exact kf Tryz.func103
 ·exact kf Tryz.func104
 ·exact kf Tryz.func105
 ·exact kf Tryz.func106
 ·exact kf Tryz.func107
 ·exact kf Tryz.func108
 ·exact kf Tryz.func109
 ·exact kf Tryz.func110
 ·exact kf Tryz.func111
theorem W3:y6 Tryz.prog Γ2:=by
 intro g pf h;unfold Γ2 at h;split at h
 all_goals first | cases h; done | injection h with h; subst h
 ·exact kf Tryz.func112
 ·exact kf Tryz.func113
 ·exact kf Tryz.func114
 ·exact kf Tryz.func143
 ·exact kf Tryz.func144
 ·exact kf Tryz.func145
 ·exact kf Tryz.func146
 ·exact kf Tryz.func147
 ·exact kf Tryz.func148
 ·exact kf Tryz.func149
 ·exact kf Tryz.func150
 ·exact kf Tryz.func151
 ·exact kf Tryz.func152
 ·exact kf Tryz.func153
 ·exact kf Tryz.func154
 ·exact kf Tryz.func155
 ·exact kf Tryz.func156
 ·exact kf Tryz.func178
 ·exact kf Tryz.func179
 ·exact kf Tryz.func180
 ·exact kf Tryz.func181
 ·exact kf Tryz.func216
 ·exact kf Tryz.func217
 ·exact kf Tryz.func218
 ·exact kf Tryz.func219
 ·exact kf Tryz.func220
 ·exact kf Tryz.func236
 ·exact kf Tryz.func237
 ·exact kf Tryz.func238
 ·exact kf Tryz.func239
 ·exact kf Tryz.func240
 ·exact kf Tryz.func241
 ·exact kf Tryz.func242
 ·exact kf Tryz.func243
 ·exact kf Tryz.func244
 ·exact kf Tryz.func252
 ·exact kf Tryz.func253
 ·exact kf Tryz.func254
 ·exact kf Tryz.func255
 ·exact kf Tryz.func256
 ·exact kf Tryz.func263
 ·exact kf Tryz.func264
 ·exact kf Tryz.func265
 ·exact kf Tryz.func266
 ·exact kf Tryz.func267
 ·exact kf Tryz.func268
 ·exact kf Tryz.func277
 ·exact kf Tryz.func278
 ·exact kf Tryz.func279
 ·exact kf Tryz.func280
 ·exact kf Tryz.func281
 ·exact kf Tryz.func282
 ·exact kf Tryz.func283
 ·exact kf Tryz.func284
 ·exact kf Tryz.func296
 ·exact kf Tryz.func297
 ·exact kf Tryz.func298
 ·exact kf Tryz.func299
 ·exact kf Tryz.func300
 ·exact kf Tryz.func301
 ·exact kf Tryz.func302
 ·exact kf Tryz.func303
 ·exact kf Tryz.func313
 ·exact kf Tryz.func314
 ·exact kf Tryz.func315
 ·exact kf Tryz.func316
 ·exact kf Tryz.func321
 ·exact kf Tryz.func322
 ·exact kf Tryz.func323
 ·exact kf Tryz.func324
 ·exact kf Tryz.func325
 ·exact kf Tryz.func326
 ·exact kf Tryz.func327
 ·exact kf Tryz.func330
 ·exact kf Tryz.func331
 ·exact kf Tryz.func332
 ·exact kf Tryz.func333
 ·exact kf Tryz.func334
 ·exact kf Tryz.func343
 ·exact kf Tryz.func344
 ·exact kf Tryz.func345
theorem Rj:y6 Tryz.prog Γ:=by
 intro g pf h;unfold Γ at h;cases h1:Γ1 g with
 | some x=>rw [h1] at h; exact Wy g pf (h1.trans h)
 | none=>rw [h1] at h; exact W3 g pf h
abbrev Pc (ext:ar) (g:Nat) (a:List PV) (v:PV) (s:PS):Prop:=aH Tryz.prog Γ ext g a s=some (v,s)
end Go.Proofs.YtokdflgpbfjpcaaGreatDoor
namespace Go.Mir
def bt (l:List UInt8) (i:Nat):Nat:=(l.getD i 0).toNat
def iP (c:Nat):Bool:=decide (97≤c) && decide (c≤122) || decide (65≤c) && decide (c≤90)
def bM (c:Nat):Bool:=decide (48≤c) && decide (c≤57)
def fA (c:Nat):Bool:=c == 9 || c == 32
def dE (c:Nat):Bool:=c == 38 || c == 124 || c == 59 || c == 40 || c == 41 || c == 60 || c == 62
def eI (c:Nat):Bool:=iP c || bM c || c == 95
def cJ (c:Nat):Bool:=bM c || c == 64 || c == 42 || c == 35 || c == 63 || c == 45 || c == 36 || c == 33
def cG (l:List UInt8) (a:Nat):Bool:=decide (a + 1 < l.length) && bt l a == 36 && (eI (bt l (a + 1)) || cJ (bt l (a + 1)) || bt l (a + 1) == 123 || bt l (a + 1) == 40)
def cX (l:List UInt8) (i:Nat):Bool:=decide (i + 1 < l.length) && bt l i == 92 && bt l (i + 1) == 10
def run (q:Nat→Bool) (l:List UInt8) (i:Nat):Nat:=i + ((l.drop i).takeWhile fun c=>q c.toNat).length
def eC (l:List UInt8) (i:Nat):Nat:=run eI l i
def cQ (l:List UInt8) (c i:Nat):Nat:=run (fun x=>x != c) l i
theorem pA {l:List UInt8}{i:Nat} (h:i < l.length):l.drop i=l[i] :: l.drop (i + 1):=List.drop_eq_getElem_cons h
theorem oY {l:List UInt8}{i:Nat} (h:i < l.length):bt l i=(l[i]).toNat:=by
 unfold bt; rw [List.getD_eq_getElem?_getD,List.getElem?_eq_getElem h]; rfl
theorem zL {q:Nat→Bool}{l:List UInt8}{i:Nat} (h:l.length≤i):run q l i=i:=by
 unfold run; rw [List.drop_eq_nil_of_le h]; rfl
theorem wU {q:Nat→Bool}{l:List UInt8}{i:Nat} (h:i < l.length) (hq:q (bt l i)=true):run q l i=run q l (i + 1):=by
 unfold run;rw [pA h,List.takeWhile_cons,if_pos (by rw [← oY h]; exact hq),List.length_cons];omega
theorem Ad {q:Nat→Bool}{l:List UInt8}{i:Nat} (h:i < l.length) (hq:q (bt l i)=false):run q l i=i:=by
 unfold run;rw [pA h,List.takeWhile_cons,if_neg (by rw [← oY h,hq]; simp)];rfl
theorem oJ (q:Nat→Bool) (l:List UInt8) (i:Nat):i≤run q l i:=Nat.le_add_right _ _
theorem kR {q:Nat→Bool}{l:List UInt8}{i:Nat} (h:i≤l.length):run q l i≤l.length:=by
 unfold run;have h1:=List.Sublist.length_le (List.takeWhile_sublist (fun c:UInt8=>q c.toNat) (l:=l.drop i));rw [List.length_drop] at h1;omega
inductive gH where
 | pass (a p:Nat)
 | exp (a p:Nat)
 | bq (i a:Nat)
 | dbl (i a:Nat)
 | brc (i a p:Nat)
 | cmd (i a o:Nat) (b:Bool)
 | ari (i a o:Nat)
def di (c o:Nat):Nat:=if c=40 then o + 1 else if c=41 then o - 1 else o
def cu (c:Nat):Bool:=fA c || c == 10 || dE c
inductive Lx (l:List UInt8):gH→Nat→Nat→Prop where
 | p_esc0 {a p} (h:bt l a=92) (h2:a + 1=l.length):Lx l (.pass a p) a 7
 | p_esc {a p} (h:bt l a=92) (h2:a + 1 < l.length):Lx l (.pass a p) (a + 2) 0
 | p_bq {a p r e} (hl:a < l.length) (h:bt l a=96) (k:Lx l (.bq (a + 1) a) r e):Lx l (.pass a p) r e
 | p_exp {a p r e} (h:cG l a=true) (k:Lx l (.exp a p) r e):Lx l (.pass a p) r e
 | p_sq {a} (hl:a < l.length) (h:bt l a=39) (h2:cQ l 39 (a + 1) < l.length):Lx l (.pass a 0) (cQ l 39 (a + 1) + 1) 0
 | p_sq0 {a} (hl:a < l.length) (h:bt l a=39) (h2:cQ l 39 (a + 1)=l.length):Lx l (.pass a 0) a 7
 | p_dq {a r e} (hl:a < l.length) (h:bt l a=34) (k:Lx l (.dbl (a + 1) a) r e):Lx l (.pass a 0) r e
 | p_one {a p} (hl:a < l.length) (h1:bt l a≠92) (h2:bt l a≠96) (h3:cG l a=false) (h4:p=0→bt l a≠39∧bt l a≠34):Lx l (.pass a p) (a + 1) 0
 | e_brc {a p r e} (h:bt l (a + 1)=123) (k:Lx l (.brc (a + 2) a p) r e):Lx l (.exp a p) r e
 | e_ari {a p r e} (h:bt l (a + 1)=40) (h2:a + 2 < l.length) (h3:bt l (a + 2)=40) (k:Lx l (.ari (a + 3) a 0) r e):Lx l (.exp a p) r e
 | e_cmd {a p r e} (h:bt l (a + 1)=40) (h2:a + 2 < l.length→bt l (a + 2)≠40) (k:Lx l (.cmd (a + 2) a 1 true) r e):Lx l (.exp a p) r e
 | e_sp {a p} (h:cJ (bt l (a + 1))=true):Lx l (.exp a p) (a + 2) 0
 | e_nm {a p} (h:bt l (a + 1)≠123) (h2:bt l (a + 1)≠40) (h3:cJ (bt l (a + 1))=false):Lx l (.exp a p) (eC l (a + 1)) 0
 | b_end {a} : Lx l (.bq l.length a) a 7
 | b_q {i a} (hl:i < l.length) (h:bt l i=96):Lx l (.bq i a) (i + 1) 0
 | b_esc0 {i a} (h:bt l i=92) (h2:i + 1=l.length):Lx l (.bq i a) i 7
 | b_esc {i a r e} (h:bt l i=92) (h2:i + 1 < l.length) (k:Lx l (.bq (i + 2) a) r e):Lx l (.bq i a) r e
 | b_one {i a r e} (hl:i < l.length) (h:bt l i≠96) (h2:bt l i≠92) (k:Lx l (.bq (i + 1) a) r e):Lx l (.bq i a) r e
 | d_end {a} : Lx l (.dbl l.length a) a 7
 | d_q {i a} (hl:i < l.length) (h:bt l i=34):Lx l (.dbl i a) (i + 1) 0
 | d_err {i a r e} (hl:i < l.length) (h:bt l i≠34) (k:Lx l (.pass i 1) r e) (he:e≠0):Lx l (.dbl i a) r e
 | d_on {i a j r e} (hl:i < l.length) (h:bt l i≠34) (k:Lx l (.pass i 1) j 0) (k2:Lx l (.dbl j a) r e):Lx l (.dbl i a) r e
 | r_end {a p} : Lx l (.brc l.length a p) a 7
 | r_q {i a p} (hl:i < l.length) (h:bt l i=125):Lx l (.brc i a p) (i + 1) 0
 | r_bad {i a} (hl:i < l.length) (h:bt l i=34):Lx l (.brc i a 1) i 6
 | r_err {i a p r e} (hl:i < l.length) (h:bt l i≠125) (h2:p=1→bt l i≠34) (k:Lx l (.pass i p) r e) (he:e≠0):Lx l (.brc i a p) r e
 | r_on {i a p j r e} (hl:i < l.length) (h:bt l i≠125) (h2:p=1→bt l i≠34) (k:Lx l (.pass i p) j 0) (k2:Lx l (.brc j a p) r e):Lx l (.brc i a p) r e
 | c_end {a o b} : Lx l (.cmd l.length a o b) a 7
 | c_cmt {i a o r e} (hl:i < l.length) (h:bt l i=35) (k:Lx l (.cmd (cQ l 10 i) a o true) r e):Lx l (.cmd i a o true) r e
 | c_join {i a o b r e} (h:cX l i=true) (k:Lx l (.cmd (i + 2) a o b) r e):Lx l (.cmd i a o b) r e
 | c_q {i a b} (hl:i < l.length) (h:bt l i=41):Lx l (.cmd i a 1 b) (i + 1) 0
 | c_err {i a o b r e} (hl:i < l.length) (h:b=true→bt l i≠35) (h2:cX l i=false) (h3:bt l i=41→o≠1) (k:Lx l (.pass i 0) r e) (he:e≠0):Lx l (.cmd i a o b) r e
 | c_on {i a o b j r e} (hl:i < l.length) (h:b=true→bt l i≠35) (h2:cX l i=false) (h3:bt l i=41→o≠1) (k:Lx l (.pass i 0) j 0) (k2:Lx l (.cmd j a (di (bt l i) o) (cu (bt l i))) r e):Lx l (.cmd i a o b) r e
 | a_end {a o} : Lx l (.ari l.length a o) a 7
 | a_q0 {i a} (h:bt l i=41) (h2:i + 1=l.length):Lx l (.ari i a 0) a 7
 | a_q {i a} (h:bt l i=41) (h2:i + 1 < l.length) (h3:bt l (i + 1)=41):Lx l (.ari i a 0) (i + 2) 0
 | a_bad {i a} (h:bt l i=41) (h2:i + 1 < l.length) (h3:bt l (i + 1)≠41):Lx l (.ari i a 0) i 6
 | a_err {i a o r e} (hl:i < l.length) (h:bt l i=41→o≠0) (k:Lx l (.pass i 2) r e) (he:e≠0):Lx l (.ari i a o) r e
 | a_on {i a o j r e} (hl:i < l.length) (h:bt l i=41→o≠0) (k:Lx l (.pass i 2) j 0) (k2:Lx l (.ari j a (di (bt l i) o)) r e):Lx l (.ari i a o) r e
def gH.at:gH→Nat
 | .pass a _ | .exp a _=>a
 | .bq i _ | .dbl i _ | .brc i _ _ | .cmd i _ _ _ | .ari i _ _=>i
theorem ce {l:List UInt8}{a:Nat} (h:cG l a=true):a + 1 < l.length:=by
 unfold cG at h; simp at h; exact h.1.1
theorem yN {l:List UInt8}{a:Nat} (h:cG l a=true):bt l a=36:=by
 unfold cG at h; simp at h; exact h.1.2
theorem ij {l:List UInt8}{a:Nat} (h:cX l a=true):a + 1 < l.length:=by
 unfold cX at h; simp at h; exact h.1.1
theorem AM {l:List UInt8}{a:Nat} (h:cX l a=true):bt l a=92∧bt l (a + 1)=10:=by
 unfold cX at h; simp at h; exact⟨h.1.2,h.2⟩
end Go.Mir
namespace Go.Mir
theorem sF {l:List UInt8}{a:Nat} (h:cG l a=true) (h1:bt l (a + 1)≠123) (h2:bt l (a + 1)≠40) (h3:cJ (bt l (a + 1))=false):a + 2≤eC l (a + 1):=by
 have hl:=ce h;unfold cG at h;simp [h3,h1,h2] at h;unfold eC;rw [wU hl h.2];exact oJ _ _ _
def gH.ok (l:List UInt8):gH→Prop
 | .pass a _=>a < l.length
 | .exp a _=>cG l a=true
 | .bq i a | .dbl i a | .brc i a _ | .cmd i a _ _ | .ari i a _=>i≤l.length∧a < l.length
def gH.size (l:List UInt8):gH→Nat
 | .pass a _=>3 * (l.length - a) + 1
 | .exp a _=>3 * (l.length - a)
 | .bq i _ | .dbl i _ | .brc i _ _ | .cmd i _ _ _ | .ari i _ _=>3 * (l.length - i) + 2
theorem Lx.bound {l:List UInt8}{t:gH}{r e:Nat} (h:Lx l t r e):t.ok l→r≤l.length∧(e=0→t.at < r):=by
 induction h with
 | p_esc0 h h2=>intro ok; exact⟨by omega,by omega⟩
 | p_esc h h2=>intro ok; exact⟨by omega,fun _=>by simp only [gH.at]; omega⟩
 | p_bq hl h k ih=>intro ok; have:=ih ⟨by omega,hl⟩; exact⟨this.1,fun h=>by have:=this.2 h; simp only [gH.at] at this ⊢; omega⟩
 | p_exp h k ih=>intro ok; exact ih h
 | @p_sq a hl h h2=>intro ok; have:=oJ (fun x=>x != 39) l (a + 1); exact⟨by omega,fun _=>by simp only [gH.at]; unfold cQ; exact Nat.lt_succ_of_le (Nat.le_trans (Nat.le_succ _) this)⟩
 | p_sq0 hl h h2=>intro ok; exact⟨by omega,by omega⟩
 | p_dq hl h k ih=>intro ok; have:=ih ⟨by omega,hl⟩; exact⟨this.1,fun h=>by have:=this.2 h; simp only [gH.at] at this ⊢; omega⟩
 | p_one hl _ _ _ _=>intro ok; exact⟨by omega,fun _=>by simp only [gH.at]; omega⟩
 | e_brc h k ih=>intro ok; have hl:=ce ok; have:=ih ⟨by omega,by omega⟩; exact⟨this.1,fun h=>by have:=this.2 h; simp only [gH.at] at this ⊢; omega⟩
 | e_ari h h2 h3 k ih=>intro ok; have hl:=ce ok; have:=ih ⟨by omega,by omega⟩; exact⟨this.1,fun h=>by have:=this.2 h; simp only [gH.at] at this ⊢; omega⟩
 | e_cmd h h2 k ih=>intro ok; have hl:=ce ok; have:=ih ⟨by omega,by omega⟩; exact⟨this.1,fun h=>by have:=this.2 h; simp only [gH.at] at this ⊢; omega⟩
 | e_sp h=>intro ok; have hl:=ce ok; exact⟨by omega,fun _=>by simp only [gH.at]; omega⟩
 | e_nm h h2 h3=>intro ok; have hl:=ce ok; have:=sF ok h h2 h3; exact⟨kR (by omega),fun _=>by simp only [gH.at]; omega⟩
 | b_end=>intro ok; exact⟨by have:=ok.2; omega,by omega⟩
 | b_q hl h=>intro ok; exact⟨by omega,fun _=>by simp only [gH.at]; omega⟩
 | b_esc0 h h2=>intro ok; exact⟨by omega,by omega⟩
 | b_esc h h2 k ih=>intro ok; have:=ih ⟨by omega,ok.2⟩; exact⟨this.1,fun h=>by have:=this.2 h; simp only [gH.at] at this ⊢; omega⟩
 | b_one hl h h2 k ih=>intro ok; have:=ih ⟨by omega,ok.2⟩; exact⟨this.1,fun h=>by have:=this.2 h; simp only [gH.at] at this ⊢; omega⟩
 | d_end=>intro ok; exact⟨by have:=ok.2; omega,by omega⟩
 | d_q hl h=>intro ok; exact⟨by omega,fun _=>by simp only [gH.at]; omega⟩
 | d_err hl h k he ih=>intro ok; exact⟨(ih hl).1,fun h=>absurd h he⟩
 | d_on hl h k k2 ih ih2=>intro ok; have h1:=ih hl; have h3:=h1.2 rfl; have:=ih2 ⟨h1.1,ok.2⟩; exact⟨this.1,fun h=>by have:=this.2 h; simp only [gH.at] at this h3 ⊢; omega⟩
 | r_end=>intro ok; exact⟨by have:=ok.2; omega,by omega⟩
 | r_q hl h=>intro ok; exact⟨by omega,fun _=>by simp only [gH.at]; omega⟩
 | r_bad hl h=>intro ok; exact⟨by omega,by omega⟩
 | r_err hl h h2 k he ih=>intro ok; exact⟨(ih hl).1,fun h=>absurd h he⟩
 | r_on hl h h2 k k2 ih ih2=>intro ok; have h1:=ih hl; have h3:=h1.2 rfl; have:=ih2 ⟨h1.1,ok.2⟩; exact⟨this.1,fun h=>by have:=this.2 h; simp only [gH.at] at this h3 ⊢; omega⟩
 | c_end=>intro ok; exact⟨by have:=ok.2; omega,by omega⟩
 | @c_cmt i a o r e hl h k ih=>intro ok; have h1:=oJ (fun x=>x != 10) l i; have:=ih ⟨kR (by omega),ok.2⟩; exact⟨this.1,fun h=>by have:=this.2 h; simp only [gH.at,cQ] at this ⊢; omega⟩
 | c_join h k ih=>intro ok; have hl:=ij h; have:=ih ⟨by omega,ok.2⟩; exact⟨this.1,fun h=>by have:=this.2 h; simp only [gH.at] at this ⊢; omega⟩
 | c_q hl h=>intro ok; exact⟨by omega,fun _=>by simp only [gH.at]; omega⟩
 | c_err hl h h2 h3 k he ih=>intro ok; exact⟨(ih hl).1,fun h=>absurd h he⟩
 | c_on hl h h2 h3 k k2 ih ih2=>intro ok; have h1:=ih hl; have h3:=h1.2 rfl; have:=ih2 ⟨h1.1,ok.2⟩; exact⟨this.1,fun h=>by have:=this.2 h; simp only [gH.at] at this h3 ⊢; omega⟩
 | a_end=>intro ok; exact⟨by have:=ok.2; omega,by omega⟩
 | a_q0 h h2=>intro ok; exact⟨by have:=ok.2; omega,by omega⟩
 | a_q h h2 h3=>intro ok; exact⟨by omega,fun _=>by simp only [gH.at]; omega⟩
 | a_bad h h2 h3=>intro ok; exact⟨by omega,by omega⟩
 | a_err hl h k he ih=>intro ok; exact⟨(ih hl).1,fun h=>absurd h he⟩
 | a_on hl h k k2 ih ih2=>intro ok; have h1:=ih hl; have h3:=h1.2 rfl; have:=ih2 ⟨h1.1,ok.2⟩; exact⟨this.1,fun h=>by have:=this.2 h; simp only [gH.at] at this h3 ⊢; omega⟩
theorem Lx.total (l:List UInt8):∀(m:Nat) (t:gH),t.size l < m→t.ok l→∃r e,Lx l t r e:=by
 intro m
 induction m with
 | zero=>intro t h; omega
 | succ m ih=>
  intro t hm ok;cases t with
  | pass a p=>
   simp only [gH.size,gH.ok] at hm ok;by_cases h1:bt l a=92
   ·by_cases h2:a + 1=l.length
    ·exact⟨_,_,.p_esc0 h1 h2⟩
    ·exact⟨_,_,.p_esc h1 (by omega)⟩
   by_cases h2:bt l a=96
   ·obtain⟨r,e,k⟩:=ih (.bq (a + 1) a) (by simp only [gH.size]; omega) ⟨by omega,ok⟩;exact⟨r,e,.p_bq ok h2 k⟩
   cases h3:cG l a with
   | true=>
    obtain⟨r,e,k⟩:=ih (.exp a p) (by simp only [gH.size]; omega) h3;exact⟨r,e,.p_exp h3 k⟩
   | false=>
    by_cases hp:p=0
    ·subst hp;by_cases h4:bt l a=39
     ·have:=kR (q:=fun x=>x != 39) (l:=l) (i:=a + 1) (by omega);by_cases h5:cQ l 39 (a + 1)=l.length
      ·exact⟨_,_,.p_sq0 ok h4 h5⟩
      ·exact⟨_,_,.p_sq ok h4 (by unfold cQ at h5 ⊢; omega)⟩
     by_cases h5:bt l a=34
     ·obtain⟨r,e,k⟩:=ih (.dbl (a + 1) a) (by simp only [gH.size]; omega) ⟨by omega,ok⟩;exact⟨r,e,.p_dq ok h5 k⟩
     ·exact⟨_,_,.p_one ok h1 h2 h3 fun _=>⟨h4,h5⟩⟩
    ·exact⟨_,_,.p_one ok h1 h2 h3 fun h=>absurd h hp⟩
  | exp a p=>
   simp only [gH.size,gH.ok] at hm ok;have hl:=ce ok;by_cases h1:bt l (a + 1)=123
   ·obtain⟨r,e,k⟩:=ih (.brc (a + 2) a p) (by simp only [gH.size]; omega) ⟨by omega,by omega⟩;exact⟨r,e,.e_brc h1 k⟩
   by_cases h2:bt l (a + 1)=40
   ·by_cases h3:a + 2 < l.length∧bt l (a + 2)=40
    ·obtain⟨r,e,k⟩:=ih (.ari (a + 3) a 0) (by simp only [gH.size]; omega) ⟨by omega,by omega⟩;exact⟨r,e,.e_ari h2 h3.1 h3.2 k⟩
    ·obtain⟨r,e,k⟩:=ih (.cmd (a + 2) a 1 true) (by simp only [gH.size]; omega) ⟨by omega,by omega⟩;exact⟨r,e,.e_cmd h2 (fun h h'=>h3 ⟨h,h'⟩) k⟩
   cases h3:cJ (bt l (a + 1)) with
   | true=>exact⟨_,_,.e_sp h3⟩
   | false=>exact⟨_,_,.e_nm h1 h2 h3⟩
  | bq i a=>
   simp only [gH.size,gH.ok] at hm ok;by_cases hi:i=l.length
   ·subst hi; exact⟨_,_,.b_end⟩
   by_cases h1:bt l i=96
   ·exact⟨_,_,.b_q (by omega) h1⟩
   by_cases h2:bt l i=92
   ·by_cases h3:i + 1=l.length
    ·exact⟨_,_,.b_esc0 h2 h3⟩
    ·obtain⟨r,e,k⟩:=ih (.bq (i + 2) a) (by simp only [gH.size]; omega) ⟨by omega,ok.2⟩;exact⟨r,e,.b_esc h2 (by omega) k⟩
   ·obtain⟨r,e,k⟩:=ih (.bq (i + 1) a) (by simp only [gH.size]; omega) ⟨by omega,ok.2⟩;exact⟨r,e,.b_one (by omega) h1 h2 k⟩
  | dbl i a=>
   simp only [gH.size,gH.ok] at hm ok;by_cases hi:i=l.length
   ·subst hi; exact⟨_,_,.d_end⟩
   have hl:i < l.length:=by omega
   by_cases h1:bt l i=34
   ·exact⟨_,_,.d_q hl h1⟩
   obtain⟨j,e,k⟩:=ih (.pass i 1) (by simp only [gH.size]; omega) hl;by_cases he:e=0
   ·subst he;have hb:=k.bound hl;have hj:=hb.2 rfl;simp only [gH.at] at hj;obtain⟨r,e,k2⟩:=ih (.dbl j a) (by simp only [gH.size]; omega) ⟨hb.1,ok.2⟩;exact⟨r,e,.d_on hl h1 k k2⟩
   ·exact⟨_,_,.d_err hl h1 k he⟩
  | brc i a p=>
   simp only [gH.size,gH.ok] at hm ok;by_cases hi:i=l.length
   ·subst hi; exact⟨_,_,.r_end⟩
   have hl:i < l.length:=by omega
   by_cases h1:bt l i=125
   ·exact⟨_,_,.r_q hl h1⟩
   by_cases h2:p=1∧bt l i=34
   ·obtain⟨rfl,h2⟩:=h2;exact⟨_,_,.r_bad hl h2⟩
   obtain⟨j,e,k⟩:=ih (.pass i p) (by simp only [gH.size]; omega) hl;by_cases he:e=0
   ·subst he;have hb:=k.bound hl;have hj:=hb.2 rfl;simp only [gH.at] at hj;obtain⟨r,e,k2⟩:=ih (.brc j a p) (by simp only [gH.size]; omega) ⟨hb.1,ok.2⟩;exact⟨r,e,.r_on hl h1 (fun h h'=>h2 ⟨h,h'⟩) k k2⟩
   ·exact⟨_,_,.r_err hl h1 (fun h h'=>h2 ⟨h,h'⟩) k he⟩
  | cmd i a o b=>
   simp only [gH.size,gH.ok] at hm ok;by_cases hi:i=l.length
   ·subst hi; exact⟨_,_,.c_end⟩
   have hl:i < l.length:=by omega
   by_cases h1:b=true∧bt l i=35
   ·obtain⟨rfl,h1⟩:=h1;have hq:(fun x=>x != 10) (bt l i)=true:=by rw [h1]; rfl
    have e1:cQ l 10 i=cQ l 10 (i + 1):=wU hl hq;have g1:=oJ (fun x=>x != 10) l (i + 1);have g2:=kR (q:=fun x=>x != 10) (l:=l) (i:=i) (by omega);have g1':i + 1≤cQ l 10 i:=by rw [e1]; exact g1
    have g2':cQ l 10 i≤l.length:=g2;obtain⟨r,e,k⟩:=ih (.cmd (cQ l 10 i) a o true) (by simp only [gH.size]; omega) ⟨g2',ok.2⟩;exact⟨r,e,.c_cmt hl h1 k⟩
   cases h2:cX l i with
   | true=>
    have:=ij h2;obtain⟨r,e,k⟩:=ih (.cmd (i + 2) a o b) (by simp only [gH.size]; omega) ⟨by omega,ok.2⟩;exact⟨r,e,.c_join h2 k⟩
   | false=>
    by_cases h3:bt l i=41∧o=1
    ·obtain⟨h3,rfl⟩:=h3;exact⟨_,_,.c_q hl h3⟩
    obtain⟨j,e,k⟩:=ih (.pass i 0) (by simp only [gH.size]; omega) hl;by_cases he:e=0
    ·subst he;have hb:=k.bound hl;have hj:=hb.2 rfl;simp only [gH.at] at hj;obtain⟨r,e,k2⟩:=ih (.cmd j a (di (bt l i) o) (cu (bt l i))) (by simp only [gH.size]; omega) ⟨hb.1,ok.2⟩;exact⟨r,e,.c_on hl (fun h h'=>h1 ⟨h,h'⟩) h2 (fun h h'=>h3 ⟨h,h'⟩) k k2⟩
    ·exact⟨_,_,.c_err hl (fun h h'=>h1 ⟨h,h'⟩) h2 (fun h h'=>h3 ⟨h,h'⟩) k he⟩
  | ari i a o=>
   simp only [gH.size,gH.ok] at hm ok;by_cases hi:i=l.length
   ·subst hi; exact⟨_,_,.a_end⟩
   have hl:i < l.length:=by omega
   by_cases h1:bt l i=41∧o=0
   ·obtain⟨h1,rfl⟩:=h1;by_cases h2:i + 1=l.length
    ·exact⟨_,_,.a_q0 h1 h2⟩
    by_cases h3:bt l (i + 1)=41
    ·exact⟨_,_,.a_q h1 (by omega) h3⟩
    ·exact⟨_,_,.a_bad h1 (by omega) h3⟩
   obtain⟨j,e,k⟩:=ih (.pass i 2) (by simp only [gH.size]; omega) hl;by_cases he:e=0
   ·subst he;have hb:=k.bound hl;have hj:=hb.2 rfl;simp only [gH.at] at hj;obtain⟨r,e,k2⟩:=ih (.ari j a (di (bt l i) o)) (by simp only [gH.size]; omega) ⟨hb.1,ok.2⟩;exact⟨r,e,.a_on hl (fun h h'=>h1 ⟨h,h'⟩) k k2⟩
   ·exact⟨_,_,.a_err hl (fun h h'=>h1 ⟨h,h'⟩) k he⟩
end Go.Mir
namespace Go.PE
open Go Go.EvL
section
variable {P:Program}{Γ:Nat→Option gk}{ext:ar}
noncomputable def LP (P:Program) (Γ:Nat→Option gk) (ext:ar) (id:Nat) (body rest:bj) (f:aX) (s:PS):kY:=im (jC id (aT P Γ ext (.loop body) f s)) (aT P Γ ext rest)
noncomputable def Sx (P:Program) (Γ:Nat→Option gk) (ext:ar) (id:Nat) (body rest:bj) (r:kY):kY:=im (jC id (im r (aT P Γ ext (.loop body)))) (aT P Γ ext rest)
theorem Ov (id:Nat) (body rest:bj) (f:aX) (s:PS):im (jC id (aT P Γ ext (.loop body) f s)) (aT P Γ ext rest)=LP P Γ ext id body rest f s:=(rfl)
theorem pE (id:Nat) (body rest:bj) (f:aX) (s:PS):LP P Γ ext id body rest f s=Sx P Γ ext id body rest (aT P Γ ext body f s):=by
 unfold LP Sx; rw [gw]
theorem Cf (id:Nat) (body rest:bj) (f:aX) (s:PS):Sx P Γ ext id body rest (some (.normal,f,s))=LP P Γ ext id body rest f s:=(rfl)
theorem C5 (id j:Nat) (body rest:bj) (f:aX) (s:PS):Sx P Γ ext id body rest (some (.exit j,f,s))=if j=id then aT P Γ ext rest f s else some (.exit j,f,s):=by
 unfold Sx;rw [oh,wC];split
 ·rw [fW]
 ·rw [oh]
theorem BX (id:Nat) (body rest:bj) (f:aX) (s:PS):Sx P Γ ext id body rest (some (.ret,f,s))=some (.ret,f,s):=(rfl)
theorem KG (t:Nat) (x y:Operand) (a b:Int):fJ P .eql t x y (.sc (.int .u8 a)) (.sc (.int .u8 b))=some (.sc (.bool (a == b))):=(rfl)
theorem Jh (t:Nat) (x y:Operand) (a b:Int):fJ P .neq t x y (.sc (.int .u8 a)) (.sc (.int .u8 b))=some (.sc (.bool (a != b))):=(rfl)
theorem Jw (t:Nat) (x y:Operand) (a b:Int):fJ P .lss t x y (.sc (.int .u8 a)) (.sc (.int .u8 b))=some (.sc (.bool (decide (a < b)))):=(rfl)
theorem JJ (t:Nat) (x y:Operand) (a b:Int):fJ P .leq t x y (.sc (.int .u8 a)) (.sc (.int .u8 b))=some (.sc (.bool (decide (a≤b)))):=(rfl)
theorem Jf (t:Nat) (x y:Operand) (a b:Int):fJ P .gtr t x y (.sc (.int .u8 a)) (.sc (.int .u8 b))=some (.sc (.bool (decide (a > b)))):=(rfl)
theorem Jt (t:Nat) (x y:Operand) (a b:Int):fJ P .geq t x y (.sc (.int .u8 a)) (.sc (.int .u8 b))=some (.sc (.bool (decide (a ≥ b)))):=(rfl)
theorem U7 (c k:Nat):((c:Int) == (no_index (@OfNat.ofNat Int k instOfNat)))=(c == @OfNat.ofNat Nat k (instOfNatNat k)):=by
 rw [Bool.eq_iff_iff]; simp only [beq_iff_eq]; show (c:Int)=(k:Int)↔c=k; omega
theorem Wm (c k:Nat):((c:Int) != (no_index (@OfNat.ofNat Int k instOfNat)))=!(c == @OfNat.ofNat Nat k (instOfNatNat k)):=by
 show (!((c:Int) == (@OfNat.ofNat Int k instOfNat)))=_; rw [U7]
theorem Xz (c k:Nat):decide ((c:Int) < (no_index (@OfNat.ofNat Int k instOfNat)))=decide (c < @OfNat.ofNat Nat k (instOfNatNat k)):=by
 rw [Bool.eq_iff_iff]; simp only [decide_eq_true_iff]; show (c:Int) < (k:Int)↔c < k; omega
theorem Xy (c k:Nat):decide ((c:Int)≤(no_index (@OfNat.ofNat Int k instOfNat)))=decide (c≤@OfNat.ofNat Nat k (instOfNatNat k)):=by
 rw [Bool.eq_iff_iff]; simp only [decide_eq_true_iff]; show (c:Int)≤(k:Int)↔c≤k; omega
theorem XR (c k:Nat):decide ((c:Int) > (no_index (@OfNat.ofNat Int k instOfNat)))=decide (@OfNat.ofNat Nat k (instOfNatNat k) < c):=by
 rw [Bool.eq_iff_iff]; simp only [decide_eq_true_iff]; show (c:Int) > (k:Int)↔k < c; omega
theorem XN (c k:Nat):decide ((c:Int) ≥ (no_index (@OfNat.ofNat Int k instOfNat)))=decide (@OfNat.ofNat Nat k (instOfNatNat k)≤c):=by
 rw [Bool.eq_iff_iff]; simp only [decide_eq_true_iff]; show (c:Int) ≥ (k:Int)↔k≤c; omega
theorem Ur (a b:Nat):((a:Int) == (b:Int))=(a == b):=by
 rw [Bool.eq_iff_iff]; simp only [beq_iff_eq]; omega
theorem VN (a b:Nat):((a:Int) != (b:Int))=!(a == b):=by
 show (!((a:Int) == (b:Int)))=_; rw [Ur]
theorem Xu (a b:Nat):decide ((a:Int) < (b:Int))=decide (a < b):=by
 rw [Bool.eq_iff_iff]; simp only [decide_eq_true_iff]; omega
theorem Xx (a b:Nat):decide ((a:Int)≤(b:Int))=decide (a≤b):=by
 rw [Bool.eq_iff_iff]; simp only [decide_eq_true_iff]; omega
theorem Xm (a b:Nat):decide ((a:Int) > (b:Int))=decide (b < a):=by
 rw [Bool.eq_iff_iff]; simp only [decide_eq_true_iff]; omega
theorem Xn (a b:Nat):decide ((a:Int) ≥ (b:Int))=decide (b≤a):=by
 rw [Bool.eq_iff_iff]; simp only [decide_eq_true_iff]; omega
theorem B9 {z:Int} (h0 : 0≤z) (h:z < 9223372036854775808):IntKind.i64.wrap z=z:=by
 obtain⟨n,rfl⟩:=Int.eq_ofNat_of_zero_le h0;exact uR (by omega)
theorem Vv {i k:Nat} (h:i + @OfNat.ofNat Nat k (instOfNatNat k) < 9223372036854775808):IntKind.i64.wrap ((i:Int) + (no_index (@OfNat.ofNat Int k instOfNat)))=((i + @OfNat.ofNat Nat k (instOfNatNat k):Nat):Int):=by
 have:((i + @OfNat.ofNat Nat k (instOfNatNat k):Nat):Int)=(i:Int) + (@OfNat.ofNat Int k instOfNat):=Int.natCast_add i k;rw [this];exact B9 (by show 0≤(i:Int) + (k:Int); omega) (by change i + k < _ at h; show (i:Int) + (k:Int) < _; omega)
theorem We {i k:Nat} (h:i + k < 9223372036854775808):IntKind.i64.wrap ((i:Int) + (k:Int))=((i + k:Nat):Int):=by
 rw [B9 (by omega) (by omega)]; omega
theorem Ut {i k:Nat} (h : @OfNat.ofNat Nat k (instOfNatNat k)≤i∧i < 9223372036854775808):IntKind.i64.wrap ((i:Int) - (no_index (@OfNat.ofNat Int k instOfNat)))=((i - @OfNat.ofNat Nat k (instOfNatNat k):Nat):Int):=by
 have:((i - @OfNat.ofNat Nat k (instOfNatNat k):Nat):Int)=(i:Int) - (@OfNat.ofNat Int k instOfNat):=Int.ofNat_sub h.1;rw [this];exact B9 (by have h1:k≤i:=h.1; show 0≤(i:Int) - (k:Int); omega) (by show (i:Int) - (k:Int) < _; omega)
theorem Wj {i k:Nat} (h:k≤i∧i < 9223372036854775808):IntKind.i64.wrap ((i:Int) - (k:Int))=((i - k:Nat):Int):=by
 rw [B9 (by omega) (by omega)]; omega
theorem m8 (t:Nat) (x y:Operand) {a b:ByteArray} (h:a.size + b.size < 9223372036854775808):fJ P .add t x y (.sc (.string a)) (.sc (.string b))=some (.sc (.string (a ++ b))):=by
 have e:ry P .add t x y (.string a) (.string b)=some (.string (a ++ b)):=by
  show bH P (if ((a.size + b.size:Nat):Int) > IntKind.i64.max then _ else pure (Value.string (a ++ b)))=_;rw [if_neg (by show ¬ (((a.size + b.size:Nat):Int) > 9223372036854775807); omega)];rfl
 simp only [fJ,iD,e]; rfl
theorem Po (d t:Nat) (l:List PI) (f:aX) (s:PS):kT P Γ ext (mt d t :: l) f s=kT P Γ ext l (f.set d (f t)) s:=(rfl)
theorem MD (d:Nat) (v:Value) (l:List PI) (f:aX) (s:PS):kT P Γ ext (mk d v :: l) f s=kT P Γ ext l (f.set d (cI v)) s:=(rfl)
theorem HF (l:List PI) (t:Nat) (a b:bj) (f:aX) (s:PS):aT P Γ ext (tO l t a b) f s=im (KF (kT P Γ ext l f s)) (aT P Γ ext (.cond (.tmp t) a b)):=by
 unfold tO; rw [bV,dX]
theorem Jl (l:List PI) (c:bj) (f:aX) (s:PS):aT P Γ ext (sr l c) f s=im (KF (kT P Γ ext l f s)) (aT P Γ ext c):=by
 unfold sr; rw [bV,dX]
theorem Ki (id:Nat) (b r:bj) (f:aX) (s:PS):aT P Γ ext (lt id b r) f s=LP P Γ ext id b r f s:=by
 unfold lt LP; rw [bV,eM]
def Er (V:aX→PS→Prop) (r:kY):Prop:=∃f s,r=some (.ret,f,s)∧V f s
theorem MJ (V:aX→PS→Prop) (f:aX) (s:PS):Er V (some (.ret,f,s))↔V f s:=
 ⟨fun ⟨_,_,h,q⟩=>by injection h with h; injection h with _ h; injection h with h1 h2; subst h1; subst h2; exact q,fun q=>⟨_,_,rfl,q⟩⟩
theorem Er.mono {V V':aX→PS→Prop}{r:kY} (h:Er V r) (k:∀f s,V f s→V' f s):Er V' r:=
 let ⟨f,s,e,q⟩:=h; ⟨f,s,e,k f s q⟩
noncomputable def RU (P:Program) (Γ:Nat→Option gk) (ext:ar) (L:aX→PS→kY) (id:Nat) (rest:bj) (r:kY):kY:=r.bind fun q=>match q.1 with
 | .normal=>L q.2.1 q.2.2
 | .exit j=>if j=id then aT P Γ ext rest q.2.1 q.2.2 else some q
 | .ret=>some q
theorem Py (L:aX→PS→kY) (id:Nat) (rest:bj) (f:aX) (s:PS):RU P Γ ext L id rest (some (.normal,f,s))=L f s:=(rfl)
theorem TW (L:aX→PS→kY) (id j:Nat) (rest:bj) (f:aX) (s:PS):RU P Γ ext L id rest (some (.exit j,f,s))=if j=id then aT P Γ ext rest f s else some (.exit j,f,s):=(rfl)
theorem TF (L:aX→PS→kY) (id:Nat) (rest:bj) (f:aX) (s:PS):RU P Γ ext L id rest (some (.ret,f,s))=some (.ret,f,s):=(rfl)
theorem ad {id:Nat}{body rest:bj}{f:aX}{s:PS}{R:kY→Prop} (h:∀L,L=LP P Γ ext id body rest→R (RU P Γ ext L id rest (aT P Γ ext body f s))):R (LP P Γ ext id body rest f s):=by
 have e:LP P Γ ext id body rest f s=RU P Γ ext (LP P Γ ext id body rest) id rest (aT P Γ ext body f s):=by
  rw [pE];unfold Sx RU;cases aT P Γ ext body f s with
  | none=>rfl
  | some q=>
   obtain⟨x,f1,s1⟩:=q;cases x with
   | normal=>rfl
   | exit j=>
    rw [oh,wC];simp only [Option.bind_some];split
    ·rw [fW]
    ·rw [oh]
   | ret=>rfl
 rw [e];exact h _ rfl
theorem iQ {V:aX→PS→Prop}{g:Nat}{fn:gk}{args:List PV}{s:PS}{q:PV × PS} (hg:Γ g=some fn) (hl:args.length≤fn.nt) (h:Er V (aT P Γ ext fn.body (bC args 0) ⟨s.h,s.n,s.n⟩)) (hk:∀f s',V f s'→b9 fn s f s'=some q):aH P Γ ext g args s=some q:=by
 obtain⟨f,s',e,hv⟩:=h;rw [ej hg _ _ hl,e];exact hk f s' hv
theorem xb {g r:Nat}{fn:gk}{args:List PV}{s:PS}{u:Value} (hg:Γ g=some fn) (hl:args.length≤fn.nt) (hr:fn.res=[.tmp r]) (hk:fn.keep=false) (h:Er (fun f' s'=>s'=⟨s.h,s.n,s.n⟩∧f' r=.sc u) (aT P Γ ext fn.body (bC args 0) ⟨s.h,s.n,s.n⟩)):aH P Γ ext g args s=some (.sc u,s):=by
 refine iQ hg hl h ?_;rintro f s' ⟨rfl,h⟩;exact gx (vs:=[.sc u]) hk (by rw [hr]; simp only [cV,Option.map_some,h]) (Nat.le_refl _) rfl
theorem dF {g r r2:Nat}{fn:gk}{args:List PV}{s:PS}{u v:Value} (hg:Γ g=some fn) (hl:args.length≤fn.nt) (hr:fn.res=[.tmp r,.tmp r2]) (hk:fn.keep=false) (h:Er (fun f' s'=>s'=⟨s.h,s.n,s.n⟩∧f' r=.sc u∧f' r2=.sc v) (aT P Γ ext fn.body (bC args 0) ⟨s.h,s.n,s.n⟩)):aH P Γ ext g args s=some (.tup [.sc u,.sc v],s):=by
 refine iQ hg hl h ?_;rintro f s' ⟨rfl,h,h2⟩;exact gx (vs:=[.sc u,.sc v]) hk (by rw [hr]; simp only [cV,Option.map_some,h,h2]) (Nat.le_refl _) rfl
theorem DJ (l:List UInt8) (i:Nat):(l.getD i 0).toNat=Go.Mir.bt l i:=(rfl)
end
section
variable {P:Program}{Γ:Nat→Option gk}{ext:ar}
theorem Wc (j:Nat) (w:Bool) (d t:Nat):gt j w d t=⟨some d,.mv (.tmp t),some (j,w)⟩:=rfl
theorem VY (d:Nat) (p:lM):ob d p=⟨some d,p,none⟩:=rfl
theorem VA (j:Nat) (w:Bool) (d:Nat) (p:lM):og j w d p=⟨some d,p,some (j,w)⟩:=rfl
theorem VW (p:lM):o0 p=⟨none,p,none⟩:=rfl
theorem Ww (j:Nat) (w:Bool) (p:lM):g0 j w p=⟨none,p,some (j,w)⟩:=rfl
theorem Vz (o:BinOp) (t x y:Nat):bn o t x y=.bin o t (.tmp x) (.tmp y):=rfl
theorem Wi (o:BinOp) (x:Nat) (n:Int):bi o x n=.bin o 3 (.tmp x) (.const (.int .i64 n)):=rfl
theorem Wu (o:BinOp) (x:Nat) (n:Int):bc o x n=.bin o 5 (.tmp x) (.const (.int .u8 n)):=rfl
theorem VD (a b:Nat):pk a b=.pick (.tmp a) (.tmp b) (.const (.bool false)):=rfl
theorem Wn (a b:Nat):po a b=.pick (.tmp a) (.const (.bool true)) (.tmp b):=rfl
theorem VH (g:Nat) (l:List Operand):cl g l=.call (.func g) l:=rfl
theorem TL (f:aX):bG f none=some true:=rfl
theorem TM (f:aX) (d:Nat) (w:Bool):bG f (some (d,w))=match f d with
 | .sc (.bool b)=>some (b == w)
 | .sc (.tuple _)=>some false
 | _=>none:=rfl
theorem dp (cs:List PV):aC (.agg cs)=cs:=rfl
theorem UE (v:Value):aC (.sc v)=[.sc v]:=rfl
theorem Rb (k off n fin:Nat):aC (.own k off n fin)=[.own k off n fin]:=rfl
theorem RE (k off fin:Nat):aC (.ptr k off fin)=[.ptr k off fin]:=rfl
theorem Ts (g:Nat) (a c:List PV):aC (.fn g a c)=[.fn g a c]:=rfl
theorem SY (e n:Nat) (c:List PV):aC (.lit e n c)=[.lit e n c]:=rfl
theorem Ty:undef=.tuple #[]:=rfl
theorem Rz (i:Nat):bC [] i=fun _=>.sc undef:=rfl
theorem Qo (v:PV) (l:List PV) (i:Nat):bC (v :: l) i=aX.set (bC l (i + 1)) i v:=rfl
theorem K6 (d t:Nat) (ls un:List Nat) (l:List (PI × List Nat × List Nat)) (j:Nat) (acc:List (Nat × jt × Nat × Nat)) (f:aX) (s:PS):pd P Γ ext ((mt d t,ls,un) :: l) j acc f s=Fa P Γ ext (bE P (aH P Γ ext) (dI ls f) s (.mv (.tmp t))) (some d) (da (dI ls f) (.mv (.tmp t))) (gE (ek Γ) (dI ls f) ⟨some d,.mv (.tmp t),none⟩) un l j acc f s:=zR _ _ _ _ _ _ _ _ _
theorem KO (d:Nat) (v:Value) (ls un:List Nat) (l:List (PI × List Nat × List Nat)) (j:Nat) (acc:List (Nat × jt × Nat × Nat)) (f:aX) (s:PS):pd P Γ ext ((mk d v,ls,un) :: l) j acc f s=Fa P Γ ext (bE P (aH P Γ ext) (dI ls f) s (.mv (.const v))) (some d) (da (dI ls f) (.mv (.const v))) (gE (ek Γ) (dI ls f) ⟨some d,.mv (.const v),none⟩) un l j acc f s:=zR _ _ _ _ _ _ _ _ _
def ZA:=And.intro (@bV)<|And.intro (@dX)<|And.intro (@ff)<|And.intro (@dx)<|And.intro (@gX)<|And.intro (@dr)<|And.intro (@eM)<|And.intro (@dA)<|And.intro (@Sa)<|And.intro (@bY)<|And.intro (@bD)<|And.intro (@qd)<|And.intro (@Gy)<|And.intro (@EG)<|And.intro (@Cd)<|And.intro (@Nat.zero_add)<|And.intro (@Nat.add_zero)<|And.intro (@Option.map_some.{0,0})<|And.intro (@Option.bind_some.{0,0})<|And.intro (@du)<|And.intro (@ci)<|And.intro (@Hk)<|And.intro (@aZ)<|And.intro (@fW)<|And.intro (@lz)<|And.intro (@oh)<|And.intro (@Kf)<|And.intro (@BP)<|And.intro (@wC)<|And.intro (@oM)<|And.intro (@kM)<|And.intro (@eQ)<|And.intro (@de)<|And.intro (@eY)<|And.intro (@dN)<|And.intro (@kq)<|And.intro (@eZ)<|And.intro (@eU)<|And.intro (@mo)<|And.intro (@yY)<|And.intro (@List.length_cons.{0})<|And.intro (@List.length_nil.{0})<|And.intro (@Nat.left_eq_add)<|And.intro (@Nat.add_eq_left)<|And.intro (@Nat.add_left_cancel_iff)<|And.intro (@Nat.one_ne_zero)<|And.intro (@Nat.zero_le)<|And.intro (@and_self)<|And.intro (@true_and)<|And.intro (@and_true)<|And.intro (@List.drop_succ_cons.{0})<|And.intro (@List.drop_zero.{0})<|And.intro (@List.take_succ_cons.{0})<|And.intro (@List.take_zero.{0})<|And.intro (@Nat.le_refl)<|And.intro (@uJ)<|And.intro (@O8)<|And.intro (@lg)<|And.intro (@MK)<|And.intro (@M8)<|And.intro (@MU)<|And.intro (@NU)<|And.intro (@jJ)<|And.intro (@Jn)<|And.intro (@Kw)<|And.intro (@EJ)<|And.intro (@beq_self_eq_true.{0})<|And.intro (@Bool.not_true)<|And.intro (@Bool.not_false)<|And.intro (@VS)<|And.intro (@Wt)<|And.intro (@Nat.min_eq_left)<|And.intro (@Nat.le_add_right)<|And.intro (@Nat.min_self)<|And.intro (@List.map_cons.{0,0})<|And.intro (@List.map_nil.{0,0})<|And.intro (@List.nil_append.{0})<|And.intro (@List.append_nil.{0})<|And.intro (@List.cons_append.{0})<|And.intro (@ke)<|And.intro (@RR)<|And.intro (@Bool.true_eq_false)<|And.intro (@Bool.false_eq_true)<|And.intro (@ne_eq.{1})<|And.intro (@not_true_eq_false)<|And.intro (@not_false_eq_true)<|And.intro (@bne_self_eq_false.{0})<|And.intro (@DZ)<|And.intro (@sO)<|And.intro (@H5)<|And.intro (@decide_true)<|And.intro (@decide_false)<|And.intro (@Qt)<|And.intro (@UA)<|And.intro (@Uv)<|And.intro (@UG)<|And.intro (@Pi)<|And.intro (@List.getElem?_cons_zero.{0})<|And.intro (@List.getElem?_cons_succ.{0})<|And.intro (@HF)<|And.intro (@Jl)<|And.intro (@Ki)<|And.intro (@Py)<|And.intro (@TW)<|And.intro (@TF)<|And.intro (@MJ)<|And.intro (@Ov)<|And.intro (@KG)<|And.intro (@Jh)<|And.intro (@Jw)<|And.intro (@JJ)<|And.intro (@Jf)<|And.intro (@Jt)<|And.intro (@U7)<|And.intro (@Wm)<|And.intro (@Xz)<|And.intro (@Xy)<|And.intro (@XR)<|And.intro (@XN)<|And.intro (@Ur)<|And.intro (@VN)<|And.intro (@Xu)<|And.intro (@Xx)<|And.intro (@Xm)<|And.intro (@Xn)<|And.intro (@Vv)<|And.intro (@We)<|And.intro (@Ut)<|And.intro (@Wj)<|And.intro (@DJ)<|And.intro (@Wc)<|And.intro (@VY)<|And.intro (@VA)<|And.intro (@VW)<|And.intro (@Ww)<|And.intro (@Vz)<|And.intro (@Wi)<|And.intro (@Wu)<|And.intro (@VD)<|And.intro (@Wn)<|And.intro (@VH)<|And.intro (@TL)<|And.intro (@TM)<|And.intro (@Ty)<|And.intro (@Rz)<|And.intro (@Qo)<|And.intro (@Po)<|And.intro (@MD)<|And.intro (@dp)<|And.intro (@UE)<|And.intro (@Rb)<|And.intro (@RE)<|And.intro (@Ts)<|@SY
def ZD:=And.intro (@Ma)<|And.intro (@Hu)<|And.intro (@zR)<|And.intro (@OT)<|And.intro (@K3)<|And.intro (@IV)<|And.intro (@Je)<|And.intro (@I3)<|And.intro (@OY)<|And.intro (@Hd)<|And.intro (@KN)<|And.intro (@OH)<|And.intro (@Ec)<|And.intro (@Jy)<|And.intro (@GY)<|And.intro (@Hz)<|And.intro (@List.mem_cons.{0})<|And.intro (@List.not_mem_nil.{0})<|And.intro (@or_false)<|And.intro (@false_or)<|And.intro (@or_true)<|And.intro (@true_or)<|And.intro (@or_self)<|And.intro (@implies_true.{0})<|And.intro (@false_implies)<|And.intro (@forall_const.{1})<|And.intro (@true_implies)<|And.intro (@K6)<|@KO
end
theorem XT:(∀P q f s a,bE P q f s (.mv a)=cg P f s (.mv a))∧(∀P q f s a b c,bE P q f s (.pick a b c)=cg P f s (.pick a b c))∧(∀P q f s a b,bE P q f s (.alloc a b)=cg P f s (.alloc a b))∧(∀P q f s a b,bE P q f s (.box a b)=cg P f s (.box a b))∧(∀P q f s a b,bE P q f s (.build a b)=cg P f s (.build a b))∧(∀P q f s a b c d,bE P q f s (.bslice a b c d)=cg P f s (.bslice a b c d))∧(∀P q f s a b c d,bE P q f s (.load a b c d)=cg P f s (.load a b c d))∧(∀P q f s a b c d,bE P q f s (.store a b c d)=cg P f s (.store a b c d))∧(∀P q f s a b,bE P q f s (.faddr a b)=cg P f s (.faddr a b))∧(∀P q f s a b c d,bE P q f s (.fld a b c d)=cg P f s (.fld a b c d))∧(∀P q f s a b c,bE P q f s (.iaddr a b c)=cg P f s (.iaddr a b c))∧(∀P q f s a b,bE P q f s (.sidx a b)=cg P f s (.sidx a b))∧(∀P q f s a b c d,bE P q f s (.bin a b c d)=cg P f s (.bin a b c d))∧(∀P q f s a b,bE P q f s (.un a b)=cg P f s (.un a b))∧(∀P q f s a b,bE P q f s (.len a b)=cg P f s (.len a b))∧(∀P q f s a b c d e,bE P q f s (.app a b c d e)=cg P f s (.app a b c d e))∧(∀P q f s a b c d e,bE P q f s (.slc a b c d e)=cg P f s (.slc a b c d e))∧(∀P q f s a b c d e,bE P q f s (.slc3 a b c d e)=cg P f s (.slc3 a b c d e))∧(∀P q f s a b c,bE P q f s (.sslc a b c)=cg P f s (.sslc a b c))∧(∀P q f s a b c,bE P q f s (.mkfn a b c)=cg P f s (.mkfn a b c))∧(∀P q f s a b,bE P q f s (.ext a b)=cg P f s (.ext a b))∧(∀P q f s a b,bE P q f s (.conv a b)=cg P f s (.conv a b))∧(∀P q f s a b c,bE P q f s (.mnx a b c)=cg P f s (.mnx a b c))∧(∀P q f s a,bE P q f s (.nck a)=cg P f s (.nck a))∧(∀P q f s a b c d e g,bE P q f s (.mks a b c d e g)=cg P f s (.mks a b c d e g))∧(∀P q f s a b c,bE P q f s (.cpy a b c)=cg P f s (.cpy a b c)):=by
 refine⟨?_,?_,?_,?_,?_,?_,?_,?_,?_,?_,?_,?_,?_,?_,?_,?_,?_,?_,?_,?_,?_,?_,?_,?_,?_,?_⟩<;>intros<;>rfl
theorem XE:(∀a b,cI (.int a b)=.sc (.int a b))∧(∀a,cI (.string a)=.sc (.string a))∧(∀a,cI (.bool a)=.sc (.bool a))∧(∀a b c,cI (.slice a b c)=.sc (.slice a b c))∧(∀a,cI (.tuple a)=.sc (.tuple a))∧(∀a,cI (.pointer a)=.sc (.pointer a))∧(cI .nilIface=.sc .nilIface)∧(∀a b,cI (.iface a b)=.sc (.iface a b))∧(∀a,cI (.map a)=.sc (.map a))∧(∀v,aW true v=some (.agg v))∧(∀v,aW false [v]=some v)∧(∀v,bz [v]=v)∧(bz []=.tup [])∧(∀v w l,bz (v :: w :: l)=.tup (v :: w :: l))∧(∀n s a,cT n s (.sc a)=cM n s (.sc a))∧(∀n s a,cT n s (.tup a)=cM n s (.tup a))∧(∀n s a b c,cT n s (.lit a b c)=cM n s (.lit a b c))∧(∀n s a,cT n s (.litp a)=cM n s (.litp a))∧(∀n s a b c,cT n s (.litx a b c)=cM n s (.litx a b c))∧(∀n s a b c d,cT n s (.own a b c d)=cM n s (.own a b c d))∧(∀n s a b c,cT n s (.ptr a b c)=cM n s (.ptr a b c))∧(∀n s a b c,cT n s (.fn a b c)=cM n s (.fn a b c))∧(∀n s a,PE.frz n s (.sc a)=cT n s (.sc a))∧(∀n s a,PE.frz n s (.agg a)=cT n s (.agg a))∧(∀n s a b c,PE.frz n s (.lit a b c)=cT n s (.lit a b c))∧(∀n s a,PE.frz n s (.litp a)=cT n s (.litp a))∧(∀n s a b c,PE.frz n s (.litx a b c)=cT n s (.litx a b c))∧(∀n s a b c d,PE.frz n s (.own a b c d)=cT n s (.own a b c d))∧(∀n s a b c,PE.frz n s (.ptr a b c)=cT n s (.ptr a b c))∧(∀n s a b c,PE.frz n s (.fn a b c)=cT n s (.fn a b c)):=by
 refine⟨?_,?_,?_,?_,?_,?_,?_,?_,?_,?_,?_,?_,?_,?_,?_,?_,?_,?_,?_,?_,?_,?_,?_,?_,?_,?_,?_,?_,?_,?_⟩<;>intros<;>rfl
theorem Xv:(∀f a,da f (.mv a)=⟨[],[],false,false⟩)∧(∀f a b c,da f (.pick a b c)=⟨[],[],false,false⟩)∧(∀f a b,da f (.alloc a b)=⟨[],[],false,false⟩)∧(∀f a b,da f (.box a b)=⟨[],[],false,false⟩)∧(∀f a b,da f (.build a b)=⟨[],[],false,false⟩)∧(∀f a b c d,da f (.bslice a b c d)=⟨[],[],false,false⟩)∧(∀f a b,da f (.faddr a b)=⟨[],[],false,false⟩)∧(∀f a b c d,da f (.fld a b c d)=⟨[],[],false,false⟩)∧(∀f a b c,da f (.iaddr a b c)=⟨[],[],false,false⟩)∧(∀f a b,da f (.sidx a b)=⟨[],[],false,false⟩)∧(∀f a b c d,da f (.bin a b c d)=⟨[],[],false,false⟩)∧(∀f a b,da f (.un a b)=⟨[],[],false,false⟩)∧(∀f a b,da f (.len a b)=⟨[],[],false,false⟩)∧(∀f a b c,da f (.sslc a b c)=⟨[],[],false,false⟩)∧(∀f a b c,da f (.mkfn a b c)=⟨[],[],false,false⟩)∧(∀f a b,da f (.ext a b)=⟨[],[],false,false⟩)∧(∀f a b,da f (.conv a b)=⟨[],[],false,false⟩)∧(∀f a b c,da f (.mnx a b c)=⟨[],[],false,false⟩)∧(∀f a,da f (.nck a)=⟨[],[],false,false⟩)∧(∀f a b c d e g,da f (.mks a b c d e g)=⟨[],[],false,false⟩)∧(∀a,eS (.sc a)=⟨[],[],false,false⟩)∧(∀a,eS (.agg a)=⟨[],[],false,false⟩)∧(∀a,eS (.tup a)=⟨[],[],false,false⟩)∧(∀a b c,eS (.fn a b c)=⟨[],[],false,false⟩):=by
 refine⟨?_,?_,?_,?_,?_,?_,?_,?_,?_,?_,?_,?_,?_,?_,?_,?_,?_,?_,?_,?_,?_,?_,?_,?_⟩<;>intros<;>rfl
def ZS:=And.intro (@ZA)<|And.intro (@XT)<|And.intro (@XE)<|And.intro (@bE.eq_1)<|And.intro (@cg.eq_1)<|And.intro (@cg.eq_2)<|And.intro (@cg.eq_3)<|And.intro (@cg.eq_4)<|And.intro (@cg.eq_5)<|And.intro (@cg.eq_6)<|And.intro (@cg.eq_7)<|And.intro (@cg.eq_8)<|And.intro (@cg.eq_9)<|And.intro (@cg.eq_10)<|And.intro (@cg.eq_11)<|And.intro (@cg.eq_12)<|And.intro (@cg.eq_13)<|And.intro (@cg.eq_14)<|And.intro (@cg.eq_15)<|And.intro (@cg.eq_16)<|And.intro (@cg.eq_17)<|And.intro (@cg.eq_18)<|And.intro (@cg.eq_19)<|And.intro (@cg.eq_20)<|And.intro (@cg.eq_21)<|And.intro (@cg.eq_22)<|And.intro (@cg.eq_23)<|And.intro (@cg.eq_24)<|And.intro (@cg.eq_25)<|And.intro (@cg.eq_26)<|And.intro (@cg.eq_27)<|And.intro (@cI.eq_1)<|And.intro (@cI.eq_2)<|And.intro (@cP.eq_1)<|And.intro (@b9.eq_1)<|And.intro (@cV.eq_1)<|And.intro (@cV.eq_2)<|And.intro (@cV.eq_3)<|And.intro (@frz.eq_1)<|And.intro (@cT.eq_1)<|And.intro (@cM.eq_1)<|And.intro (@cM.eq_2)<|And.intro (@cM.eq_3)<|And.intro (@cM.eq_4)<|And.intro (@cM.eq_5)<|And.intro (@cM.eq_6)<|And.intro (@cM.eq_7)<|And.intro (@cM.eq_8)<|And.intro (@er.eq_1)<|And.intro (@er.eq_2)<|And.intro (@gB.eq_1)<|And.intro (@gB.eq_2)<|And.intro (@gB.eq_3)<|And.intro (@gB.eq_4)<|And.intro (@gB.eq_5)<|And.intro (@gB.eq_6)<|And.intro (@fV.eq_1)<|And.intro (@fV.eq_2)<|And.intro (@js.eq_1)<|And.intro (@js.eq_2)<|And.intro (@i6.eq_1)<|And.intro (@i6.eq_2)<|And.intro (@Dx.eq_1)<|And.intro (@Dx.eq_2)<|And.intro (@Dx.eq_3)<|And.intro (@Dx.eq_4)<|And.intro (@iy.eq_1)<|And.intro (@iy.eq_2)<|And.intro (@iy.eq_3)<|@iy.eq_4
def ZT:=And.intro (@ZD)<|And.intro (@Xv)<|And.intro (@da.eq_1)<|And.intro (@da.eq_2)<|And.intro (@da.eq_3)<|And.intro (@da.eq_4)<|And.intro (@da.eq_5)<|And.intro (@da.eq_6)<|And.intro (@da.eq_7)<|And.intro (@eS.eq_1)<|And.intro (@eS.eq_2)<|And.intro (@eS.eq_3)<|And.intro (@eS.eq_4)<|And.intro (@eS.eq_5)<|@gE.eq_1
def ZX:=And.intro (@Bool.false_and)<|And.intro (@Bool.true_and)<|And.intro (@Bool.true_or)<|And.intro (@Bool.false_or)<|And.intro (@Bool.and_self)<|And.intro (@Bool.or_false)<|And.intro (@Bool.and_false)<|And.intro (@Bool.and_true)<|And.intro (@Bool.or_true)<|And.intro (@Bool.false_eq_true)<|And.intro (@Bool.not_true)<|And.intro (@Bool.not_false)<|And.intro (@List.all_cons.{0})<|And.intro (@List.drop_nil.{0})<|And.intro (@List.take_nil.{0})<|And.intro (@List.all_nil.{0})<|And.intro (@List.length_nil.{0})<|And.intro (@List.length_cons.{0})<|And.intro (@beq_self_eq_true.{0})<|And.intro (@List.drop_zero.{0})<|And.intro (@Option.map_some.{0,0})<|And.intro (@Option.bind_some.{0,0})<|And.intro (@Option.map_none.{0,0})<|And.intro (@Option.bind_none.{0,0})<|And.intro (@Bool.or_self)<|And.intro (@List.take_succ_cons.{0})<|And.intro (@List.drop_succ_cons.{0})<|And.intro (@List.take_zero.{0})<|And.intro (@Nat.zero_add)<|And.intro (@List.nil_append.{0})<|And.intro (@List.cons_append.{0})<|And.intro (@if_true.{1})<|And.intro (@if_false.{1})<|And.intro (@bD)<|And.intro (@qd)<|@bY
theorem tv:True:=trivial
theorem cj {α:Type} [BEq α] (a b:α):(a != b)=!(a == b):=rfl
theorem fp {P:Prop}  (h:P:=by simp -implicitDefEqProofs (disch:=omega) only [ZA,Nat.reduceAdd,Nat.reduceEqDiff,↓reduceIte,Nat.reduceLeDiff,reduceCtorEq,Nat.reduceBEq,Nat.reduceLT,bE,cg,cI,aW,cP,b9,cV,bz,frz,cT,cM,er]<;>first | rfl | exact Nat.le_refl _ | assumption | omega):P:=h
theorem LD {P Q:Prop}  (q:Q) (h:Q→P:=by intro  q; simp -implicitDefEqProofs (disch:=omega) only [ZA,Nat.reduceAdd,Nat.reduceEqDiff,↓reduceIte,Nat.reduceLeDiff,reduceCtorEq,Nat.reduceBEq,Nat.reduceLT,bE,cg,cI,aW,cP,b9,cV,bz,frz,cT,cM,er]; exact q):P:=h  q
theorem bw {P:Prop}  (h:P:=by simp -implicitDefEqProofs (disch:=omega) only [ZS,seval,ZX]<;>first | rfl | exact Nat.le_refl _ | assumption | omega):P:=h
theorem Gq {P Q:Prop}  (q:Q) (h:Q→P:=by intro  q; simp -implicitDefEqProofs (disch:=omega) only [ZS,seval,ZX]; exact q):P:=h  q
theorem fP {p0 P:Prop} (h0:p0) (h:p0→P:=by intro h0; simp -implicitDefEqProofs (disch:=omega) only [ZA,Nat.reduceAdd,Nat.reduceEqDiff,↓reduceIte,Nat.reduceLeDiff,reduceCtorEq,Nat.reduceBEq,Nat.reduceLT,bE,cg,cI,aW,cP,b9,cV,bz,frz,cT,cM,er,h0]<;>first | rfl | exact Nat.le_refl _ | assumption | omega):P:=h h0
theorem U1 {p0 P Q:Prop} (h0:p0) (q:Q) (h:p0→Q→P:=by intro h0 q; simp -implicitDefEqProofs (disch:=omega) only [ZA,Nat.reduceAdd,Nat.reduceEqDiff,↓reduceIte,Nat.reduceLeDiff,reduceCtorEq,Nat.reduceBEq,Nat.reduceLT,bE,cg,cI,aW,cP,b9,cV,bz,frz,cT,cM,er,h0]; exact q):P:=h h0 q
theorem bm {p0 P:Prop} (h0:p0) (h:p0→P:=by intro h0; simp -implicitDefEqProofs (disch:=omega) only [ZS,seval,ZX,h0]<;>first | rfl | exact Nat.le_refl _ | assumption | omega):P:=h h0
theorem uA {p0 P Q:Prop} (h0:p0) (q:Q) (h:p0→Q→P:=by intro h0 q; simp -implicitDefEqProofs (disch:=omega) only [ZS,seval,ZX,h0]; exact q):P:=h h0 q
theorem qO {p0 p1 P:Prop} (h0:p0)(h1:p1) (h:p0→p1→P:=by intro h0 h1; simp -implicitDefEqProofs (disch:=omega) only [ZS,seval,ZX,h0,h1]<;>first | rfl | exact Nat.le_refl _ | assumption | omega):P:=h h0 h1
theorem vp {p0 p1 P Q:Prop} (h0:p0)(h1:p1) (q:Q) (h:p0→p1→Q→P:=by intro h0 h1 q; simp -implicitDefEqProofs (disch:=omega) only [ZS,seval,ZX,h0,h1]; exact q):P:=h h0 h1 q
theorem TJ {p0 p1 p2 P Q:Prop} (h0:p0)(h1:p1)(h2:p2) (q:Q) (h:p0→p1→p2→Q→P:=by intro h0 h1 h2 q; simp -implicitDefEqProofs (disch:=omega) only [ZA,Nat.reduceAdd,Nat.reduceEqDiff,↓reduceIte,Nat.reduceLeDiff,reduceCtorEq,Nat.reduceBEq,Nat.reduceLT,bE,cg,cI,aW,cP,b9,cV,bz,frz,cT,cM,er,h0,h1,h2]; exact q):P:=h h0 h1 h2 q
theorem jB {p0 p1 p2 P:Prop} (h0:p0)(h1:p1)(h2:p2) (h:p0→p1→p2→P:=by intro h0 h1 h2; simp -implicitDefEqProofs (disch:=omega) only [ZS,seval,ZX,h0,h1,h2]<;>first | rfl | exact Nat.le_refl _ | assumption | omega):P:=h h0 h1 h2
theorem QY {p0 p1 p2 P Q:Prop} (h0:p0)(h1:p1)(h2:p2) (q:Q) (h:p0→p1→p2→Q→P:=by intro h0 h1 h2 q; simp -implicitDefEqProofs (disch:=omega) only [ZS,seval,ZX,h0,h1,h2]; exact q):P:=h h0 h1 h2 q
theorem qN {p0 p1 p2 p3 P:Prop} (h0:p0)(h1:p1)(h2:p2)(h3:p3) (h:p0→p1→p2→p3→P:=by intro h0 h1 h2 h3; simp -implicitDefEqProofs (disch:=omega) only [ZS,seval,ZX,h0,h1,h2,h3]<;>first | rfl | exact Nat.le_refl _ | assumption | omega):P:=h h0 h1 h2 h3
theorem CJ {p0 p1 p2 p3 P Q:Prop} (h0:p0)(h1:p1)(h2:p2)(h3:p3) (q:Q) (h:p0→p1→p2→p3→Q→P:=by intro h0 h1 h2 h3 q; simp -implicitDefEqProofs (disch:=omega) only [ZS,seval,ZX,h0,h1,h2,h3]; exact q):P:=h h0 h1 h2 h3 q
theorem ub {p0 p1 p2 p3 p4 P:Prop} (h0:p0)(h1:p1)(h2:p2)(h3:p3)(h4:p4) (h:p0→p1→p2→p3→p4→P:=by intro h0 h1 h2 h3 h4; simp -implicitDefEqProofs (disch:=omega) only [ZS,seval,ZX,h0,h1,h2,h3,h4]<;>first | rfl | exact Nat.le_refl _ | assumption | omega):P:=h h0 h1 h2 h3 h4
theorem He {p0 p1 p2 p3 p4 P Q:Prop} (h0:p0)(h1:p1)(h2:p2)(h3:p3)(h4:p4) (q:Q) (h:p0→p1→p2→p3→p4→Q→P:=by intro h0 h1 h2 h3 h4 q; simp -implicitDefEqProofs (disch:=omega) only [ZS,seval,ZX,h0,h1,h2,h3,h4]; exact q):P:=h h0 h1 h2 h3 h4 q
theorem Wo {p0 p1 p2 p3 p4 p5 P:Prop} (h0:p0)(h1:p1)(h2:p2)(h3:p3)(h4:p4)(h5:p5) (h:p0→p1→p2→p3→p4→p5→P:=by intro h0 h1 h2 h3 h4 h5; simp -implicitDefEqProofs (disch:=omega) only [ZA,Nat.reduceAdd,Nat.reduceEqDiff,↓reduceIte,Nat.reduceLeDiff,reduceCtorEq,Nat.reduceBEq,Nat.reduceLT,bE,cg,cI,aW,cP,b9,cV,bz,frz,cT,cM,er,h0,h1,h2,h3,h4,h5]<;>first | rfl | exact Nat.le_refl _ | assumption | omega):P:=h h0 h1 h2 h3 h4 h5
theorem Nc {p0 p1 p2 p3 p4 p5 P Q:Prop} (h0:p0)(h1:p1)(h2:p2)(h3:p3)(h4:p4)(h5:p5) (q:Q) (h:p0→p1→p2→p3→p4→p5→Q→P:=by intro h0 h1 h2 h3 h4 h5 q; simp -implicitDefEqProofs (disch:=omega) only [ZA,Nat.reduceAdd,Nat.reduceEqDiff,↓reduceIte,Nat.reduceLeDiff,reduceCtorEq,Nat.reduceBEq,Nat.reduceLT,bE,cg,cI,aW,cP,b9,cV,bz,frz,cT,cM,er,h0,h1,h2,h3,h4,h5]; exact q):P:=h h0 h1 h2 h3 h4 h5 q
theorem lW {p0 p1 p2 p3 p4 p5 P:Prop} (h0:p0)(h1:p1)(h2:p2)(h3:p3)(h4:p4)(h5:p5) (h:p0→p1→p2→p3→p4→p5→P:=by intro h0 h1 h2 h3 h4 h5; simp -implicitDefEqProofs (disch:=omega) only [ZS,seval,ZX,h0,h1,h2,h3,h4,h5]<;>first | rfl | exact Nat.le_refl _ | assumption | omega):P:=h h0 h1 h2 h3 h4 h5
theorem Ej {p0 p1 p2 p3 p4 p5 P Q:Prop} (h0:p0)(h1:p1)(h2:p2)(h3:p3)(h4:p4)(h5:p5) (q:Q) (h:p0→p1→p2→p3→p4→p5→Q→P:=by intro h0 h1 h2 h3 h4 h5 q; simp -implicitDefEqProofs (disch:=omega) only [ZS,seval,ZX,h0,h1,h2,h3,h4,h5]; exact q):P:=h h0 h1 h2 h3 h4 h5 q
theorem H3 {p0 p1 p2 p3 p4 p5 p6 P Q:Prop} (h0:p0)(h1:p1)(h2:p2)(h3:p3)(h4:p4)(h5:p5)(h6:p6) (q:Q) (h:p0→p1→p2→p3→p4→p5→p6→Q→P:=by intro h0 h1 h2 h3 h4 h5 h6 q; simp -implicitDefEqProofs (disch:=omega) only [ZA,Nat.reduceAdd,Nat.reduceEqDiff,↓reduceIte,Nat.reduceLeDiff,reduceCtorEq,Nat.reduceBEq,Nat.reduceLT,bE,cg,cI,aW,cP,b9,cV,bz,frz,cT,cM,er,h0,h1,h2,h3,h4,h5,h6]; exact q):P:=h h0 h1 h2 h3 h4 h5 h6 q
theorem uP {p0 p1 p2 p3 p4 p5 p6 P:Prop} (h0:p0)(h1:p1)(h2:p2)(h3:p3)(h4:p4)(h5:p5)(h6:p6) (h:p0→p1→p2→p3→p4→p5→p6→P:=by intro h0 h1 h2 h3 h4 h5 h6; simp -implicitDefEqProofs (disch:=omega) only [ZS,seval,ZX,h0,h1,h2,h3,h4,h5,h6]<;>first | rfl | exact Nat.le_refl _ | assumption | omega):P:=h h0 h1 h2 h3 h4 h5 h6
theorem Fy {p0 p1 p2 p3 p4 p5 p6 P Q:Prop} (h0:p0)(h1:p1)(h2:p2)(h3:p3)(h4:p4)(h5:p5)(h6:p6) (q:Q) (h:p0→p1→p2→p3→p4→p5→p6→Q→P:=by intro h0 h1 h2 h3 h4 h5 h6 q; simp -implicitDefEqProofs (disch:=omega) only [ZS,seval,ZX,h0,h1,h2,h3,h4,h5,h6]; exact q):P:=h h0 h1 h2 h3 h4 h5 h6 q
theorem HA {p0 p1 p2 p3 p4 p5 p6 p7 P Q:Prop} (h0:p0)(h1:p1)(h2:p2)(h3:p3)(h4:p4)(h5:p5)(h6:p6)(h7:p7) (q:Q) (h:p0→p1→p2→p3→p4→p5→p6→p7→Q→P:=by intro h0 h1 h2 h3 h4 h5 h6 h7 q; simp -implicitDefEqProofs (disch:=omega) only [ZA,Nat.reduceAdd,Nat.reduceEqDiff,↓reduceIte,Nat.reduceLeDiff,reduceCtorEq,Nat.reduceBEq,Nat.reduceLT,bE,cg,cI,aW,cP,b9,cV,bz,frz,cT,cM,er,h0,h1,h2,h3,h4,h5,h6,h7]; exact q):P:=h h0 h1 h2 h3 h4 h5 h6 h7 q
theorem Az {p0 p1 p2 p3 p4 p5 p6 p7 P:Prop} (h0:p0)(h1:p1)(h2:p2)(h3:p3)(h4:p4)(h5:p5)(h6:p6)(h7:p7) (h:p0→p1→p2→p3→p4→p5→p6→p7→P:=by intro h0 h1 h2 h3 h4 h5 h6 h7; simp -implicitDefEqProofs (disch:=omega) only [ZS,seval,ZX,h0,h1,h2,h3,h4,h5,h6,h7]<;>first | rfl | exact Nat.le_refl _ | assumption | omega):P:=h h0 h1 h2 h3 h4 h5 h6 h7
theorem Cc {p0 p1 p2 p3 p4 p5 p6 p7 P Q:Prop} (h0:p0)(h1:p1)(h2:p2)(h3:p3)(h4:p4)(h5:p5)(h6:p6)(h7:p7) (q:Q) (h:p0→p1→p2→p3→p4→p5→p6→p7→Q→P:=by intro h0 h1 h2 h3 h4 h5 h6 h7 q; simp -implicitDefEqProofs (disch:=omega) only [ZS,seval,ZX,h0,h1,h2,h3,h4,h5,h6,h7]; exact q):P:=h h0 h1 h2 h3 h4 h5 h6 h7 q
theorem UP {p0 p1 p2 p3 p4 p5 p6 p7 p8 P Q:Prop} (h0:p0)(h1:p1)(h2:p2)(h3:p3)(h4:p4)(h5:p5)(h6:p6)(h7:p7)(h8:p8) (q:Q) (h:p0→p1→p2→p3→p4→p5→p6→p7→p8→Q→P:=by intro h0 h1 h2 h3 h4 h5 h6 h7 h8 q; simp -implicitDefEqProofs (disch:=omega) only [ZA,Nat.reduceAdd,Nat.reduceEqDiff,↓reduceIte,Nat.reduceLeDiff,reduceCtorEq,Nat.reduceBEq,Nat.reduceLT,bE,cg,cI,aW,cP,b9,cV,bz,frz,cT,cM,er,h0,h1,h2,h3,h4,h5,h6,h7,h8]; exact q):P:=h h0 h1 h2 h3 h4 h5 h6 h7 h8 q
theorem sL {p0 p1 p2 p3 p4 p5 p6 p7 p8 P:Prop} (h0:p0)(h1:p1)(h2:p2)(h3:p3)(h4:p4)(h5:p5)(h6:p6)(h7:p7)(h8:p8) (h:p0→p1→p2→p3→p4→p5→p6→p7→p8→P:=by intro h0 h1 h2 h3 h4 h5 h6 h7 h8; simp -implicitDefEqProofs (disch:=omega) only [ZS,seval,ZX,h0,h1,h2,h3,h4,h5,h6,h7,h8]<;>first | rfl | exact Nat.le_refl _ | assumption | omega):P:=h h0 h1 h2 h3 h4 h5 h6 h7 h8
theorem DV {p0 p1 p2 p3 p4 p5 p6 p7 p8 P Q:Prop} (h0:p0)(h1:p1)(h2:p2)(h3:p3)(h4:p4)(h5:p5)(h6:p6)(h7:p7)(h8:p8) (q:Q) (h:p0→p1→p2→p3→p4→p5→p6→p7→p8→Q→P:=by intro h0 h1 h2 h3 h4 h5 h6 h7 h8 q; simp -implicitDefEqProofs (disch:=omega) only [ZS,seval,ZX,h0,h1,h2,h3,h4,h5,h6,h7,h8]; exact q):P:=h h0 h1 h2 h3 h4 h5 h6 h7 h8 q
theorem ue {p0 p1 p2 p3 p4 p5 p6 p7 p8 p9 P:Prop} (h0:p0)(h1:p1)(h2:p2)(h3:p3)(h4:p4)(h5:p5)(h6:p6)(h7:p7)(h8:p8)(h9:p9) (h:p0→p1→p2→p3→p4→p5→p6→p7→p8→p9→P:=by intro h0 h1 h2 h3 h4 h5 h6 h7 h8 h9; simp -implicitDefEqProofs (disch:=omega) only [ZS,seval,ZX,h0,h1,h2,h3,h4,h5,h6,h7,h8,h9]<;>first | rfl | exact Nat.le_refl _ | assumption | omega):P:=h h0 h1 h2 h3 h4 h5 h6 h7 h8 h9
theorem AZ {p0 p1 p2 p3 p4 p5 p6 p7 p8 p9 P Q:Prop} (h0:p0)(h1:p1)(h2:p2)(h3:p3)(h4:p4)(h5:p5)(h6:p6)(h7:p7)(h8:p8)(h9:p9) (q:Q) (h:p0→p1→p2→p3→p4→p5→p6→p7→p8→p9→Q→P:=by intro h0 h1 h2 h3 h4 h5 h6 h7 h8 h9 q; simp -implicitDefEqProofs (disch:=omega) only [ZS,seval,ZX,h0,h1,h2,h3,h4,h5,h6,h7,h8,h9]; exact q):P:=h h0 h1 h2 h3 h4 h5 h6 h7 h8 h9 q
theorem FL {p0 p1 p2 p3 p4 p5 p6 p7 p8 p9 fN fS P Q:Prop} (h0:p0)(h1:p1)(h2:p2)(h3:p3)(h4:p4)(h5:p5)(h6:p6)(h7:p7)(h8:p8)(h9:p9)(h10:fN)(h11:fS) (q:Q) (h:p0→p1→p2→p3→p4→p5→p6→p7→p8→p9→fN→fS→Q→P:=by intro h0 h1 h2 h3 h4 h5 h6 h7 h8 h9 h10 h11 q; simp -implicitDefEqProofs (disch:=omega) only [ZA,Nat.reduceAdd,Nat.reduceEqDiff,↓reduceIte,Nat.reduceLeDiff,reduceCtorEq,Nat.reduceBEq,Nat.reduceLT,bE,cg,cI,aW,cP,b9,cV,bz,frz,cT,cM,er,h0,h1,h2,h3,h4,h5,h6,h7,h8,h9,h10,h11]; exact q):P:=h h0 h1 h2 h3 h4 h5 h6 h7 h8 h9 h10 h11 q
theorem qj {p0 p1 p2 p3 p4 p5 p6 p7 p8 p9 fN fS P:Prop} (h0:p0)(h1:p1)(h2:p2)(h3:p3)(h4:p4)(h5:p5)(h6:p6)(h7:p7)(h8:p8)(h9:p9)(h10:fN)(h11:fS) (h:p0→p1→p2→p3→p4→p5→p6→p7→p8→p9→fN→fS→P:=by intro h0 h1 h2 h3 h4 h5 h6 h7 h8 h9 h10 h11; simp -implicitDefEqProofs (disch:=omega) only [ZS,seval,ZX,h0,h1,h2,h3,h4,h5,h6,h7,h8,h9,h10,h11]<;>first | rfl | exact Nat.le_refl _ | assumption | omega):P:=h h0 h1 h2 h3 h4 h5 h6 h7 h8 h9 h10 h11
theorem jU {p0 p1 p2 p3 p4 p5 p6 p7 p8 p9 fN fS P Q:Prop} (h0:p0)(h1:p1)(h2:p2)(h3:p3)(h4:p4)(h5:p5)(h6:p6)(h7:p7)(h8:p8)(h9:p9)(h10:fN)(h11:fS) (q:Q) (h:p0→p1→p2→p3→p4→p5→p6→p7→p8→p9→fN→fS→Q→P:=by intro h0 h1 h2 h3 h4 h5 h6 h7 h8 h9 h10 h11 q; simp -implicitDefEqProofs (disch:=omega) only [ZS,seval,ZX,h0,h1,h2,h3,h4,h5,h6,h7,h8,h9,h10,h11]; exact q):P:=h h0 h1 h2 h3 h4 h5 h6 h7 h8 h9 h10 h11 q
theorem To {p0 p1 p2 p3 p4 p5 p6 p7 p8 p9 fN fS gL p13 P:Prop} (h0:p0)(h1:p1)(h2:p2)(h3:p3)(h4:p4)(h5:p5)(h6:p6)(h7:p7)(h8:p8)(h9:p9)(h10:fN)(h11:fS)(h12:gL)(h13:p13) (h:p0→p1→p2→p3→p4→p5→p6→p7→p8→p9→fN→fS→gL→p13→P:=by intro h0 h1 h2 h3 h4 h5 h6 h7 h8 h9 h10 h11 h12 h13; simp -implicitDefEqProofs (disch:=omega) only [ZA,Nat.reduceAdd,Nat.reduceEqDiff,↓reduceIte,Nat.reduceLeDiff,reduceCtorEq,Nat.reduceBEq,Nat.reduceLT,bE,cg,cI,aW,cP,b9,cV,bz,frz,cT,cM,er,h0,h1,h2,h3,h4,h5,h6,h7,h8,h9,h10,h11,h12,h13]<;>first | rfl | exact Nat.le_refl _ | assumption | omega):P:=h h0 h1 h2 h3 h4 h5 h6 h7 h8 h9 h10 h11 h12 h13
theorem Pz {p0 p1 p2 p3 p4 p5 p6 p7 p8 p9 fN fS gL p13 P Q:Prop} (h0:p0)(h1:p1)(h2:p2)(h3:p3)(h4:p4)(h5:p5)(h6:p6)(h7:p7)(h8:p8)(h9:p9)(h10:fN)(h11:fS)(h12:gL)(h13:p13) (q:Q) (h:p0→p1→p2→p3→p4→p5→p6→p7→p8→p9→fN→fS→gL→p13→Q→P:=by intro h0 h1 h2 h3 h4 h5 h6 h7 h8 h9 h10 h11 h12 h13 q; simp -implicitDefEqProofs (disch:=omega) only [ZA,Nat.reduceAdd,Nat.reduceEqDiff,↓reduceIte,Nat.reduceLeDiff,reduceCtorEq,Nat.reduceBEq,Nat.reduceLT,bE,cg,cI,aW,cP,b9,cV,bz,frz,cT,cM,er,h0,h1,h2,h3,h4,h5,h6,h7,h8,h9,h10,h11,h12,h13]; exact q):P:=h h0 h1 h2 h3 h4 h5 h6 h7 h8 h9 h10 h11 h12 h13 q
theorem BR {p0 p1 p2 p3 p4 p5 p6 p7 p8 p9 fN fS gL p13 P:Prop} (h0:p0)(h1:p1)(h2:p2)(h3:p3)(h4:p4)(h5:p5)(h6:p6)(h7:p7)(h8:p8)(h9:p9)(h10:fN)(h11:fS)(h12:gL)(h13:p13) (h:p0→p1→p2→p3→p4→p5→p6→p7→p8→p9→fN→fS→gL→p13→P:=by intro h0 h1 h2 h3 h4 h5 h6 h7 h8 h9 h10 h11 h12 h13; simp -implicitDefEqProofs (disch:=omega) only [ZS,seval,ZX,h0,h1,h2,h3,h4,h5,h6,h7,h8,h9,h10,h11,h12,h13]<;>first | rfl | exact Nat.le_refl _ | assumption | omega):P:=h h0 h1 h2 h3 h4 h5 h6 h7 h8 h9 h10 h11 h12 h13
theorem sa {p0 p1 p2 p3 p4 p5 p6 p7 p8 p9 fN fS gL p13 P Q:Prop} (h0:p0)(h1:p1)(h2:p2)(h3:p3)(h4:p4)(h5:p5)(h6:p6)(h7:p7)(h8:p8)(h9:p9)(h10:fN)(h11:fS)(h12:gL)(h13:p13) (q:Q) (h:p0→p1→p2→p3→p4→p5→p6→p7→p8→p9→fN→fS→gL→p13→Q→P:=by intro h0 h1 h2 h3 h4 h5 h6 h7 h8 h9 h10 h11 h12 h13 q; simp -implicitDefEqProofs (disch:=omega) only [ZS,seval,ZX,h0,h1,h2,h3,h4,h5,h6,h7,h8,h9,h10,h11,h12,h13]; exact q):P:=h h0 h1 h2 h3 h4 h5 h6 h7 h8 h9 h10 h11 h12 h13 q
theorem sB {p0 p1 p2 p3 p4 p5 p6 p7 p8 p9 fN fS gL p13 p14 p15 P:Prop} (h0:p0)(h1:p1)(h2:p2)(h3:p3)(h4:p4)(h5:p5)(h6:p6)(h7:p7)(h8:p8)(h9:p9)(h10:fN)(h11:fS)(h12:gL)(h13:p13)(h14:p14)(h15:p15) (h:p0→p1→p2→p3→p4→p5→p6→p7→p8→p9→fN→fS→gL→p13→p14→p15→P:=by intro h0 h1 h2 h3 h4 h5 h6 h7 h8 h9 h10 h11 h12 h13 h14 h15; simp -implicitDefEqProofs (disch:=omega) only [ZS,seval,ZX,h0,h1,h2,h3,h4,h5,h6,h7,h8,h9,h10,h11,h12,h13,h14,h15]<;>first | rfl | exact Nat.le_refl _ | assumption | omega):P:=h h0 h1 h2 h3 h4 h5 h6 h7 h8 h9 h10 h11 h12 h13 h14 h15
theorem Dg {p0 p1 p2 p3 p4 p5 p6 p7 p8 p9 fN fS gL p13 p14 p15 P Q:Prop} (h0:p0)(h1:p1)(h2:p2)(h3:p3)(h4:p4)(h5:p5)(h6:p6)(h7:p7)(h8:p8)(h9:p9)(h10:fN)(h11:fS)(h12:gL)(h13:p13)(h14:p14)(h15:p15) (q:Q) (h:p0→p1→p2→p3→p4→p5→p6→p7→p8→p9→fN→fS→gL→p13→p14→p15→Q→P:=by intro h0 h1 h2 h3 h4 h5 h6 h7 h8 h9 h10 h11 h12 h13 h14 h15 q; simp -implicitDefEqProofs (disch:=omega) only [ZS,seval,ZX,h0,h1,h2,h3,h4,h5,h6,h7,h8,h9,h10,h11,h12,h13,h14,h15]; exact q):P:=h h0 h1 h2 h3 h4 h5 h6 h7 h8 h9 h10 h11 h12 h13 h14 h15 q
theorem FY {p0 p1 p2 p3 p4 p5 p6 p7 p8 p9 fN fS gL p13 p14 p15 ko kh kj P Q:Prop} (h0:p0)(h1:p1)(h2:p2)(h3:p3)(h4:p4)(h5:p5)(h6:p6)(h7:p7)(h8:p8)(h9:p9)(h10:fN)(h11:fS)(h12:gL)(h13:p13)(h14:p14)(h15:p15)(h16:ko)(h17:kh)(h18:kj) (q:Q) (h:p0→p1→p2→p3→p4→p5→p6→p7→p8→p9→fN→fS→gL→p13→p14→p15→ko→kh→kj→Q→P:=by intro h0 h1 h2 h3 h4 h5 h6 h7 h8 h9 h10 h11 h12 h13 h14 h15 h16 h17 h18 q; simp -implicitDefEqProofs (disch:=omega) only [ZA,Nat.reduceAdd,Nat.reduceEqDiff,↓reduceIte,Nat.reduceLeDiff,reduceCtorEq,Nat.reduceBEq,Nat.reduceLT,bE,cg,cI,aW,cP,b9,cV,bz,frz,cT,cM,er,h0,h1,h2,h3,h4,h5,h6,h7,h8,h9,h10,h11,h12,h13,h14,h15,h16,h17,h18]; exact q):P:=h h0 h1 h2 h3 h4 h5 h6 h7 h8 h9 h10 h11 h12 h13 h14 h15 h16 h17 h18 q
theorem my {p0 p1 p2 p3 p4 p5 p6 p7 p8 p9 fN fS gL p13 p14 p15 ko kh kj P:Prop} (h0:p0)(h1:p1)(h2:p2)(h3:p3)(h4:p4)(h5:p5)(h6:p6)(h7:p7)(h8:p8)(h9:p9)(h10:fN)(h11:fS)(h12:gL)(h13:p13)(h14:p14)(h15:p15)(h16:ko)(h17:kh)(h18:kj) (h:p0→p1→p2→p3→p4→p5→p6→p7→p8→p9→fN→fS→gL→p13→p14→p15→ko→kh→kj→P:=by intro h0 h1 h2 h3 h4 h5 h6 h7 h8 h9 h10 h11 h12 h13 h14 h15 h16 h17 h18; simp -implicitDefEqProofs (disch:=omega) only [ZS,seval,ZX,h0,h1,h2,h3,h4,h5,h6,h7,h8,h9,h10,h11,h12,h13,h14,h15,h16,h17,h18]<;>first | rfl | exact Nat.le_refl _ | assumption | omega):P:=h h0 h1 h2 h3 h4 h5 h6 h7 h8 h9 h10 h11 h12 h13 h14 h15 h16 h17 h18
theorem rO {p0 p1 p2 p3 p4 p5 p6 p7 p8 p9 fN fS gL p13 p14 p15 ko kh kj P Q:Prop} (h0:p0)(h1:p1)(h2:p2)(h3:p3)(h4:p4)(h5:p5)(h6:p6)(h7:p7)(h8:p8)(h9:p9)(h10:fN)(h11:fS)(h12:gL)(h13:p13)(h14:p14)(h15:p15)(h16:ko)(h17:kh)(h18:kj) (q:Q) (h:p0→p1→p2→p3→p4→p5→p6→p7→p8→p9→fN→fS→gL→p13→p14→p15→ko→kh→kj→Q→P:=by intro h0 h1 h2 h3 h4 h5 h6 h7 h8 h9 h10 h11 h12 h13 h14 h15 h16 h17 h18 q; simp -implicitDefEqProofs (disch:=omega) only [ZS,seval,ZX,h0,h1,h2,h3,h4,h5,h6,h7,h8,h9,h10,h11,h12,h13,h14,h15,h16,h17,h18]; exact q):P:=h h0 h1 h2 h3 h4 h5 h6 h7 h8 h9 h10 h11 h12 h13 h14 h15 h16 h17 h18 q
theorem Pw {p0 p1 p2 p3 p4 p5 p6 p7 p8 p9 fN fS gL p13 p14 p15 ko kh kj nq nF nK P Q:Prop} (h0:p0)(h1:p1)(h2:p2)(h3:p3)(h4:p4)(h5:p5)(h6:p6)(h7:p7)(h8:p8)(h9:p9)(h10:fN)(h11:fS)(h12:gL)(h13:p13)(h14:p14)(h15:p15)(h16:ko)(h17:kh)(h18:kj)(h19:nq)(h20:nF)(h21:nK) (q:Q) (h:p0→p1→p2→p3→p4→p5→p6→p7→p8→p9→fN→fS→gL→p13→p14→p15→ko→kh→kj→nq→nF→nK→Q→P:=by intro h0 h1 h2 h3 h4 h5 h6 h7 h8 h9 h10 h11 h12 h13 h14 h15 h16 h17 h18 h19 h20 h21 q; simp -implicitDefEqProofs (disch:=omega) only [ZA,Nat.reduceAdd,Nat.reduceEqDiff,↓reduceIte,Nat.reduceLeDiff,reduceCtorEq,Nat.reduceBEq,Nat.reduceLT,bE,cg,cI,aW,cP,b9,cV,bz,frz,cT,cM,er,h0,h1,h2,h3,h4,h5,h6,h7,h8,h9,h10,h11,h12,h13,h14,h15,h16,h17,h18,h19,h20,h21]; exact q):P:=h h0 h1 h2 h3 h4 h5 h6 h7 h8 h9 h10 h11 h12 h13 h14 h15 h16 h17 h18 h19 h20 h21 q
theorem Cm {p0 p1 p2 p3 p4 p5 p6 p7 p8 p9 fN fS gL p13 p14 p15 ko kh kj nq nF nK P:Prop} (h0:p0)(h1:p1)(h2:p2)(h3:p3)(h4:p4)(h5:p5)(h6:p6)(h7:p7)(h8:p8)(h9:p9)(h10:fN)(h11:fS)(h12:gL)(h13:p13)(h14:p14)(h15:p15)(h16:ko)(h17:kh)(h18:kj)(h19:nq)(h20:nF)(h21:nK) (h:p0→p1→p2→p3→p4→p5→p6→p7→p8→p9→fN→fS→gL→p13→p14→p15→ko→kh→kj→nq→nF→nK→P:=by intro h0 h1 h2 h3 h4 h5 h6 h7 h8 h9 h10 h11 h12 h13 h14 h15 h16 h17 h18 h19 h20 h21; simp -implicitDefEqProofs (disch:=omega) only [ZS,seval,ZX,h0,h1,h2,h3,h4,h5,h6,h7,h8,h9,h10,h11,h12,h13,h14,h15,h16,h17,h18,h19,h20,h21]<;>first | rfl | exact Nat.le_refl _ | assumption | omega):P:=h h0 h1 h2 h3 h4 h5 h6 h7 h8 h9 h10 h11 h12 h13 h14 h15 h16 h17 h18 h19 h20 h21
theorem ME {p0 p1 p2 p3 p4 p5 p6 p7 p8 p9 fN fS gL p13 p14 p15 ko kh kj nq nF nK P Q:Prop} (h0:p0)(h1:p1)(h2:p2)(h3:p3)(h4:p4)(h5:p5)(h6:p6)(h7:p7)(h8:p8)(h9:p9)(h10:fN)(h11:fS)(h12:gL)(h13:p13)(h14:p14)(h15:p15)(h16:ko)(h17:kh)(h18:kj)(h19:nq)(h20:nF)(h21:nK) (q:Q) (h:p0→p1→p2→p3→p4→p5→p6→p7→p8→p9→fN→fS→gL→p13→p14→p15→ko→kh→kj→nq→nF→nK→Q→P:=by intro h0 h1 h2 h3 h4 h5 h6 h7 h8 h9 h10 h11 h12 h13 h14 h15 h16 h17 h18 h19 h20 h21 q; simp -implicitDefEqProofs (disch:=omega) only [ZS,seval,ZX,h0,h1,h2,h3,h4,h5,h6,h7,h8,h9,h10,h11,h12,h13,h14,h15,h16,h17,h18,h19,h20,h21]; exact q):P:=h h0 h1 h2 h3 h4 h5 h6 h7 h8 h9 h10 h11 h12 h13 h14 h15 h16 h17 h18 h19 h20 h21 q
theorem Ib {p0 p1 p2 p3 p4 p5 p6 p7 p8 p9 fN fS gL p13 p14 p15 ko kh kj nq nF nK sN ur ui tr P:Prop} (h0:p0)(h1:p1)(h2:p2)(h3:p3)(h4:p4)(h5:p5)(h6:p6)(h7:p7)(h8:p8)(h9:p9)(h10:fN)(h11:fS)(h12:gL)(h13:p13)(h14:p14)(h15:p15)(h16:ko)(h17:kh)(h18:kj)(h19:nq)(h20:nF)(h21:nK)(h22:sN)(h23:ur)(h24:ui)(h25:tr) (h:p0→p1→p2→p3→p4→p5→p6→p7→p8→p9→fN→fS→gL→p13→p14→p15→ko→kh→kj→nq→nF→nK→sN→ur→ui→tr→P:=by intro h0 h1 h2 h3 h4 h5 h6 h7 h8 h9 h10 h11 h12 h13 h14 h15 h16 h17 h18 h19 h20 h21 h22 h23 h24 h25; simp -implicitDefEqProofs (disch:=omega) only [ZS,seval,ZX,h0,h1,h2,h3,h4,h5,h6,h7,h8,h9,h10,h11,h12,h13,h14,h15,h16,h17,h18,h19,h20,h21,h22,h23,h24,h25]<;>first | rfl | exact Nat.le_refl _ | assumption | omega):P:=h h0 h1 h2 h3 h4 h5 h6 h7 h8 h9 h10 h11 h12 h13 h14 h15 h16 h17 h18 h19 h20 h21 h22 h23 h24 h25
theorem VB {p0 p1 p2 p3 p4 p5 p6 p7 p8 p9 fN fS gL p13 p14 p15 ko kh kj nq nF nK sN ur ui tr P Q:Prop} (h0:p0)(h1:p1)(h2:p2)(h3:p3)(h4:p4)(h5:p5)(h6:p6)(h7:p7)(h8:p8)(h9:p9)(h10:fN)(h11:fS)(h12:gL)(h13:p13)(h14:p14)(h15:p15)(h16:ko)(h17:kh)(h18:kj)(h19:nq)(h20:nF)(h21:nK)(h22:sN)(h23:ur)(h24:ui)(h25:tr) (q:Q) (h:p0→p1→p2→p3→p4→p5→p6→p7→p8→p9→fN→fS→gL→p13→p14→p15→ko→kh→kj→nq→nF→nK→sN→ur→ui→tr→Q→P:=by intro h0 h1 h2 h3 h4 h5 h6 h7 h8 h9 h10 h11 h12 h13 h14 h15 h16 h17 h18 h19 h20 h21 h22 h23 h24 h25 q; simp -implicitDefEqProofs (disch:=omega) only [ZS,seval,ZX,h0,h1,h2,h3,h4,h5,h6,h7,h8,h9,h10,h11,h12,h13,h14,h15,h16,h17,h18,h19,h20,h21,h22,h23,h24,h25]; exact q):P:=h h0 h1 h2 h3 h4 h5 h6 h7 h8 h9 h10 h11 h12 h13 h14 h15 h16 h17 h18 h19 h20 h21 h22 h23 h24 h25 q
theorem eR {p0 p1 p2 p3 p4 p5 p6 p7 p8 p9 fN fS gL p13 p14 p15 ko kh kj nq nF nK sN ur ui tr xh xi xg xj xR AA P:Prop} (h0:p0)(h1:p1)(h2:p2)(h3:p3)(h4:p4)(h5:p5)(h6:p6)(h7:p7)(h8:p8)(h9:p9)(h10:fN)(h11:fS)(h12:gL)(h13:p13)(h14:p14)(h15:p15)(h16:ko)(h17:kh)(h18:kj)(h19:nq)(h20:nF)(h21:nK)(h22:sN)(h23:ur)(h24:ui)(h25:tr)(h26:xh)(h27:xi)(h28:xg)(h29:xj)(h30:xR)(h31:AA) (h:p0→p1→p2→p3→p4→p5→p6→p7→p8→p9→fN→fS→gL→p13→p14→p15→ko→kh→kj→nq→nF→nK→sN→ur→ui→tr→xh→xi→xg→xj→xR→AA→P:=by intro h0 h1 h2 h3 h4 h5 h6 h7 h8 h9 h10 h11 h12 h13 h14 h15 h16 h17 h18 h19 h20 h21 h22 h23 h24 h25 h26 h27 h28 h29 h30 h31; simp -implicitDefEqProofs (disch:=omega) only [ZS,seval,ZX,h0,h1,h2,h3,h4,h5,h6,h7,h8,h9,h10,h11,h12,h13,h14,h15,h16,h17,h18,h19,h20,h21,h22,h23,h24,h25,h26,h27,h28,h29,h30,h31]<;>first | rfl | exact Nat.le_refl _ | assumption | omega):P:=h h0 h1 h2 h3 h4 h5 h6 h7 h8 h9 h10 h11 h12 h13 h14 h15 h16 h17 h18 h19 h20 h21 h22 h23 h24 h25 h26 h27 h28 h29 h30 h31
theorem P3 {p0 p1 p2 p3 p4 p5 p6 p7 p8 p9 fN fS gL p13 p14 p15 ko kh kj nq nF nK sN ur ui tr xh xi xg xj xR AA P Q:Prop} (h0:p0)(h1:p1)(h2:p2)(h3:p3)(h4:p4)(h5:p5)(h6:p6)(h7:p7)(h8:p8)(h9:p9)(h10:fN)(h11:fS)(h12:gL)(h13:p13)(h14:p14)(h15:p15)(h16:ko)(h17:kh)(h18:kj)(h19:nq)(h20:nF)(h21:nK)(h22:sN)(h23:ur)(h24:ui)(h25:tr)(h26:xh)(h27:xi)(h28:xg)(h29:xj)(h30:xR)(h31:AA) (q:Q) (h:p0→p1→p2→p3→p4→p5→p6→p7→p8→p9→fN→fS→gL→p13→p14→p15→ko→kh→kj→nq→nF→nK→sN→ur→ui→tr→xh→xi→xg→xj→xR→AA→Q→P:=by intro h0 h1 h2 h3 h4 h5 h6 h7 h8 h9 h10 h11 h12 h13 h14 h15 h16 h17 h18 h19 h20 h21 h22 h23 h24 h25 h26 h27 h28 h29 h30 h31 q; simp -implicitDefEqProofs (disch:=omega) only [ZS,seval,ZX,h0,h1,h2,h3,h4,h5,h6,h7,h8,h9,h10,h11,h12,h13,h14,h15,h16,h17,h18,h19,h20,h21,h22,h23,h24,h25,h26,h27,h28,h29,h30,h31]; exact q):P:=h h0 h1 h2 h3 h4 h5 h6 h7 h8 h9 h10 h11 h12 h13 h14 h15 h16 h17 h18 h19 h20 h21 h22 h23 h24 h25 h26 h27 h28 h29 h30 h31 q
theorem kU {p0 p1 p2 p3 p4 p5 p6 p7 p8 p9 fN fS gL p13 p14 p15 ko kh kj nq nF nK sN ur ui tr xh xi xg xj xR AA LN LL Oz Lg p36 p37 p38 p39 P:Prop} (h0:p0)(h1:p1)(h2:p2)(h3:p3)(h4:p4)(h5:p5)(h6:p6)(h7:p7)(h8:p8)(h9:p9)(h10:fN)(h11:fS)(h12:gL)(h13:p13)(h14:p14)(h15:p15)(h16:ko)(h17:kh)(h18:kj)(h19:nq)(h20:nF)(h21:nK)(h22:sN)(h23:ur)(h24:ui)(h25:tr)(h26:xh)(h27:xi)(h28:xg)(h29:xj)(h30:xR)(h31:AA)(OG:LN)(h33:LL)(h34:Oz)(h35:Lg)(h36:p36)(h37:p37)(h38:p38)(h39:p39) (h:p0→p1→p2→p3→p4→p5→p6→p7→p8→p9→fN→fS→gL→p13→p14→p15→ko→kh→kj→nq→nF→nK→sN→ur→ui→tr→xh→xi→xg→xj→xR→AA→LN→LL→Oz→Lg→p36→p37→p38→p39→P:=by intro h0 h1 h2 h3 h4 h5 h6 h7 h8 h9 h10 h11 h12 h13 h14 h15 h16 h17 h18 h19 h20 h21 h22 h23 h24 h25 h26 h27 h28 h29 h30 h31 OG h33 h34 h35 h36 h37 h38 h39; simp -implicitDefEqProofs (disch:=omega) only [ZS,seval,ZX,h0,h1,h2,h3,h4,h5,h6,h7,h8,h9,h10,h11,h12,h13,h14,h15,h16,h17,h18,h19,h20,h21,h22,h23,h24,h25,h26,h27,h28,h29,h30,h31,OG,h33,h34,h35,h36,h37,h38,h39]<;>first | rfl | exact Nat.le_refl _ | assumption | omega):P:=h h0 h1 h2 h3 h4 h5 h6 h7 h8 h9 h10 h11 h12 h13 h14 h15 h16 h17 h18 h19 h20 h21 h22 h23 h24 h25 h26 h27 h28 h29 h30 h31 OG h33 h34 h35 h36 h37 h38 h39
theorem nT {p0 p1 p2 p3 p4 p5 p6 p7 p8 p9 fN fS gL p13 p14 p15 ko kh kj nq nF nK sN ur ui tr xh xi xg xj xR AA LN LL Oz Lg p36 p37 p38 p39 P Q:Prop} (h0:p0)(h1:p1)(h2:p2)(h3:p3)(h4:p4)(h5:p5)(h6:p6)(h7:p7)(h8:p8)(h9:p9)(h10:fN)(h11:fS)(h12:gL)(h13:p13)(h14:p14)(h15:p15)(h16:ko)(h17:kh)(h18:kj)(h19:nq)(h20:nF)(h21:nK)(h22:sN)(h23:ur)(h24:ui)(h25:tr)(h26:xh)(h27:xi)(h28:xg)(h29:xj)(h30:xR)(h31:AA)(OG:LN)(h33:LL)(h34:Oz)(h35:Lg)(h36:p36)(h37:p37)(h38:p38)(h39:p39) (q:Q) (h:p0→p1→p2→p3→p4→p5→p6→p7→p8→p9→fN→fS→gL→p13→p14→p15→ko→kh→kj→nq→nF→nK→sN→ur→ui→tr→xh→xi→xg→xj→xR→AA→LN→LL→Oz→Lg→p36→p37→p38→p39→Q→P:=by intro h0 h1 h2 h3 h4 h5 h6 h7 h8 h9 h10 h11 h12 h13 h14 h15 h16 h17 h18 h19 h20 h21 h22 h23 h24 h25 h26 h27 h28 h29 h30 h31 OG h33 h34 h35 h36 h37 h38 h39 q; simp -implicitDefEqProofs (disch:=omega) only [ZS,seval,ZX,h0,h1,h2,h3,h4,h5,h6,h7,h8,h9,h10,h11,h12,h13,h14,h15,h16,h17,h18,h19,h20,h21,h22,h23,h24,h25,h26,h27,h28,h29,h30,h31,OG,h33,h34,h35,h36,h37,h38,h39]; exact q):P:=h h0 h1 h2 h3 h4 h5 h6 h7 h8 h9 h10 h11 h12 h13 h14 h15 h16 h17 h18 h19 h20 h21 h22 h23 h24 h25 h26 h27 h28 h29 h30 h31 OG h33 h34 h35 h36 h37 h38 h39 q
def Ux:=And.intro (@xr.eq_1)<|And.intro (@xr.eq_2)<|@xr.eq_3
def wv:=And.intro (@gB.eq_1)<|And.intro (@gB.eq_2)<|And.intro (@gB.eq_3)<|And.intro (@gB.eq_4)<|And.intro (@gB.eq_5)<|@gB.eq_6
def Eh:=And.intro (@js.eq_1)<|@js.eq_2
def Aa:=And.intro (@i6.eq_1)<|@i6.eq_2
section
variable {P:Program}{Γ:Nat→Option gk}{ext:ar}
theorem om {P:Prop} (h:P:=by omega):P:=h
theorem dt {p:Prop} [Decidable p] (h:p:=by omega):decide p=true:=decide_eq_true h
theorem df {p:Prop} [Decidable p] (h:¬ p:=by omega):decide p=false:=decide_eq_false h
theorem bf {a b:Nat} (h:a≠b:=by omega):(a == b)=false:=beq_eq_false_iff_ne.2 h
abbrev iN (a:Nat):PV:=.sc (.int .i64 (a:Int))
abbrev sS (a:ByteArray):PV:=.sc (.string a)
end
theorem q1 (fn:gk) (r:Nat) {P:Program}{Γ:Nat→Option gk}{ext:ar}{g:Nat}{args:List PV}{s:PS}{u:Value} (h:Er (fun f' s'=>s'=⟨s.h,s.n,s.n⟩∧f' r=.sc u) (aT P Γ ext fn.body (bC args 0) ⟨s.h,s.n,s.n⟩)) (hg:Γ g=some fn:=by rfl) (hl:args.length≤fn.nt:=by exact Nat.le_of_ble_eq_true rfl) (hr:fn.res=[.tmp r]:=by rfl) (hk:fn.keep=false:=by rfl):aH P Γ ext g args s=some (.sc u,s):=xb hg hl hr hk h
section
variable {P:Program}
theorem uH {α:Type} (a:α):bH P (pure a:Sem α)=some a:=rfl
theorem pQ {d t:Nat}{xs ys:Array Value}{fs:Array Field} (ht:P.underlying t=some (.struct fs)) (hp:P.stoodInHeld t=false):bH P (Op.equalIn (d + 1) t (.agg xs) (.agg ys))=bH P (Op.eqFields d xs ys fs.toList):=by
 simp only [Op.equalIn,ch,fM ht,Option.bind_some];rw [show bH P program=some P from rfl];simp only [Option.bind_some,hp,Bool.false_eq_true,if_false];rw [← Array.forIn_toList];generalize fs.toList=l;clear ht
 induction l with
 | nil=>simp [Op.eqFields,uH]
 | cons f l ih=>
  simp only [List.forIn_cons,Op.eqFields];split
  ·simp only [ch];cases bH P (part f.type xs f.offset) with
   | none=>rfl
   | some a=>
    cases bH P (part f.type ys f.offset) with
    | none=>rfl
    | some b=>
     simp only [Option.bind_some];cases bH P (Op.equalIn d f.type a b) with
     | none=>rfl
     | some r=>
      cases r
      ·simp [uH]
      ·simp only [Option.bind_some,Bool.not_true,Bool.false_eq_true,if_false,uH];rw [← ih,ch]
  ·simp only [ch,uH,Option.bind_some];rw [← ih,ch]
theorem Fc {t i:Nat}{xs:Array Value}{d:TypeDesc}{v:Value} (hu:P.underlying t=some d) (ha:jy (some d)=false) (hv:xs[i]?=some v):bH P (part t xs i)=some v:=by
 have h1:bH P (isAgg t)=some false:=by
  unfold isAgg;rw [ch,fM hu];cases d<;>first | rfl | cases ha
 unfold part;rw [ch,h1];simp only [Option.bind_some,Bool.false_eq_true,if_false,hv];rfl
theorem Tb {d:Nat}{f:Field}{fs:List Field}{xs ys:Array Value}{a b:Value}{r:Bool}{dd:TypeDesc} (hn:f.name≠ "_") (hu:P.underlying f.type=some dd) (ha:jy (some dd)=false) (h1:xs[f.offset]?=some a) (h2:ys[f.offset]?=some b) (he:bH P (Op.equalIn d f.type a b)=some r) :
  bH P (Op.eqFields d xs ys (f :: fs))=if r then bH P (Op.eqFields d xs ys fs) else some false:=by
 simp only [Op.eqFields];rw [if_pos hn];simp only [ch,Fc hu ha h1,Fc hu ha h2,he,Option.bind_some];cases r<;>rfl
inductive Vs (P:Program) (d:Nat) (xs ys:Array Value):List Field→List Bool→Prop
 | nil:Vs P d xs ys [] []
 | cons (f:Field) (fs:List Field) (r:Bool) (rs:List Bool) (h:f.name≠ "_"∧∃dd a b,P.underlying f.type=some dd∧jy (some dd)=false∧xs[f.offset]?=some a∧ys[f.offset]?=some b∧bH P (Op.equalIn d f.type a b)=some r) (t:Vs P d xs ys fs rs):Vs P d xs ys (f :: fs) (r :: rs)
def zU:List Bool→Bool
 | []=>true
 | [r]=>r
 | r :: rs=>r && zU rs
theorem H6 (r:Bool) (rs:List Bool):zU (r :: rs)=(r && zU rs):=by
 cases rs with
 | nil=>simp [zU]
 | cons=>rfl
theorem q9 {d:Nat}{xs ys:Array Value}{fs:List Field}{rs:List Bool} (h:Vs P d xs ys fs rs):bH P (Op.eqFields d xs ys fs)=some (zU rs):=by
 induction h with
 | nil=>rfl
 | cons f fs r rs h _ ih=>
  obtain⟨hn,dd,a,b,hu,ha,h1,h2,he⟩:=h;rw [Tb hn hu ha h1 h2 he,ih,H6];cases r<;>rfl
theorem mf {d t:Nat} (hu:P.underlying t=some .string) (a b:ByteArray):bH P (Op.equalIn (d + 1) t (.string a) (.string b))=some (a.toList == b.toList):=by
 simp only [Op.equalIn,ch,fM hu,Option.bind_some];rw [← beq_toListBytes];rfl
theorem Dk {d t:Nat}{k k':IntKind} (hu:P.underlying t=some (.int k')) (a b:Int):bH P (Op.equalIn (d + 1) t (.int k a) (.int k b))=some (a == b):=by
 simp only [Op.equalIn,ch,fM hu,Option.bind_some,if_true];rfl
theorem Ac {d t:Nat} (hu:P.underlying t=some .bool) (a b:Bool):bH P (Op.equalIn (d + 1) t (.bool a) (.bool b))=some (a == b):=by
 simp only [Op.equalIn,ch,fM hu,Option.bind_some];rfl
theorem rX {t:Nat}{x y:Operand}{xs ys:Array Value}{r:Bool} (hg:P.eqGuardType P.depth t=false) (he:bH P (Op.equalIn 10000 t (.agg xs) (.agg ys))=some r):ry P .neq t x y (.agg xs) (.agg ys)=some (.bool (!r))∧ry P .eql t x y (.agg xs) (.agg ys)=some (.bool r):=by
 have g1:bH P (eqGuard .neq t x y (.agg xs) (.agg ys))=some ():=by
  unfold eqGuard;simp only [Bool.not_true,Bool.false_eq_true,if_false,ch];rw [show bH P program=some P from rfl];simp only [Option.bind_some,hg,Bool.not_false,if_true];rfl
 have g2:bH P (eqGuard .eql t x y (.agg xs) (.agg ys))=some ():=by
  unfold eqGuard;simp only [Bool.not_true,Bool.false_eq_true,if_false,ch];rw [show bH P program=some P from rfl];simp only [Option.bind_some,hg,Bool.not_false,if_true];rfl
 unfold ry;rw [ch,ch,g1,g2];simp only [Option.bind_some,binOp];have h2:bH P (Op.equal t (.agg xs) (.agg ys))=some r:=he;simp only [ch,h2,Option.bind_some];exact⟨rfl,rfl⟩
end
end Go.PE
