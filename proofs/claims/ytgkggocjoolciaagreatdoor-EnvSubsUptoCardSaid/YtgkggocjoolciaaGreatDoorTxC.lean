/- What functions of the program and of the reference compute, on values. No statement is proved here. -/
import Derived.Test.YtgkggocjoolciaaGreatDoorTxA
import Derived.Test.YtgkggocjoolciaaGreatDoorTxB
import Derived.Test.YtgkggocjoolciaaGreatDoorProg
import Derived.KernelRfl
import Derived.Laws.StructEq
set_option linter.unusedSimpArgs false
set_option linter.unusedVariables false
set_option linter.defProp false
namespace Go.Proofs.YtgkggocjoolciaaGreatDoor
open Go Go.EvL Go.PE
def Γ1:Nat→Option fJ
 | 3=>some p3
 | 4=>some p4
 | 6=>some p6
 | 7=>some p7
 | 8=>some p8
 | 9=>some p9
 | 10=>some i3
 | 11=>some i4
 | 12=>some jb
 | 13=>some iQ
 | 18=>some lu
 | 19=>some pM
 | 20=>some pG
 | 21=>some qh
 | 22=>some tU
 | 23=>some s6
 | 24=>some s5
 | 25=>some s7
 | 26=>some zb
 | 27=>some Ae
 | 28=>some DN
 | 29=>some BO
 | 30=>some BN
 | 31=>some DU
 | 32=>some OQ
 | 45=>some US
 | 46=>some Hq
 | 47=>some Xe
 | 48=>some WO
 | 49=>some WV
 | 50=>some Xd
 | 51=>some X1
 | 52=>some Wn
 | 53=>some Wp
 | 54=>some WJ
 | 55=>some WL
 | 56=>some WM
 | 57=>some Vj
 | 58=>some UP
 | 59=>some Hp
 | 60=>some Vq
 | 61=>some Vx
 | 62=>some Rn
 | 63=>some BV
 | 64=>some Tb
 | 65=>some S5
 | 66=>some TL
 | 81=>some WY
 | 82=>some Sz
 | 83=>some Uw
 | 84=>some X3
 | 85=>some WR
 | 86=>some S7
 | 87=>some Wo
 | 88=>some X7
 | 89=>some Uh
 | 90=>some Xf
 | 91=>some WG
 | 92=>some VD
 | 93=>some UO
 | 94=>some X2
 | 95=>some X9
 | 96=>some Vn
 | 97=>some WQ
 | 98=>some WT
 | 99=>some VJ
 | 100=>some Vm
 | 101=>some Vd
 | 102=>some VB
 | 103=>some VA
 | 104=>some Vf
 | 105=>some FN
 | 106=>some Cr
 | 107=>some PM
 | 108=>some QK
 | 109=>some Qk
 | 110=>some Rx
 | 111=>some ME
 | _=>none
def Γ2:Nat→Option fJ
 | 112=>some pH
 | 141=>some Dg
 | 142=>some Vo
 | 143=>some VF
 | 144=>some PO
 | 145=>some Vv
 | 146=>some Vz
 | 147=>some Vh
 | 148=>some UD
 | 149=>some Sq
 | 150=>some wX
 | 151=>some Q7
 | 152=>some Pg
 | 153=>some R9
 | 154=>some QS
 | 176=>some Va
 | 177=>some B0
 | 178=>some VE
 | 179=>some QX
 | 214=>some RH
 | 215=>some Lk
 | 216=>some Lc
 | 217=>some Mn
 | 218=>some RD
 | 234=>some Q0
 | 235=>some Qj
 | 236=>some RR
 | 237=>some Ni
 | 238=>some Po
 | 239=>some QT
 | 240=>some P8
 | 241=>some Nk
 | 242=>some QU
 | 250=>some N7
 | 251=>some NI
 | 252=>some wT
 | 253=>some MJ
 | 254=>some QM
 | 261=>some wK
 | 262=>some Mb
 | 263=>some Pj
 | 264=>some Qu
 | 265=>some PX
 | 266=>some R2
 | 275=>some PY
 | 276=>some NQ
 | 277=>some PW
 | 278=>some j5
 | 279=>some Nb
 | 280=>some PK
 | 281=>some S0
 | 282=>some Pv
 | 294=>some QQ
 | 295=>some mg
 | 296=>some Dj
 | 297=>some vq
 | 298=>some vT
 | 299=>some GE
 | 300=>some vz
 | 301=>some Ph
 | 311=>some jN
 | 312=>some QV
 | 313=>some Qe
 | 314=>some lg
 | 319=>some Lj
 | 320=>some pI
 | 321=>some My
 | 322=>some Lb
 | 323=>some Ry
 | 324=>some UU
 | 325=>some Ru
 | 328=>some MC
 | 329=>some NP
 | 330=>some Od
 | 331=>some Pd
 | 332=>some O8
 | 341=>some S1
 | 342=>some Rm
 | 343=>some ND
 | _=>none
def Γ (g:Nat):Option fJ:=(Γ1 g).or (Γ2 g)
theorem kf {g:FuncId}{f:Func}{c:fJ} (h:Tryz.prog.funcs[g]?=some f) (h2:sX Tryz.prog f c.keep=some c:=by kernel_rfl):∃fn k,Tryz.prog.funcs[g]?=some fn∧sX Tryz.prog fn k=some c:=⟨_,_,h,h2⟩
theorem UQ:xJ Tryz.prog Γ1:=by
 intro g pf h;unfold Γ1 at h;split at h
 all_goals first | cases h; done | injection h with h; subst h
 ·exact kf Tryz.func3
 ·exact kf Tryz.func4
 ·exact kf Tryz.func6
 ·exact kf Tryz.func7
 ·exact kf Tryz.func8
 ·exact kf Tryz.func9
 ·exact kf Tryz.func10
 ·exact kf Tryz.func11
 ·exact kf Tryz.func12
 ·exact kf Tryz.func13
 ·exact kf Tryz.func18
 ·exact kf Tryz.func19
 ·exact kf Tryz.func20
 ·exact kf Tryz.func21
 ·exact kf Tryz.func22
 ·exact kf Tryz.func23
 ·exact kf Tryz.func24
 ·exact kf Tryz.func25
 ·exact kf Tryz.func26
 ·exact kf Tryz.func27
 ·exact kf Tryz.func28
 ·exact kf Tryz.func29
 ·exact kf Tryz.func30
 ·exact kf Tryz.func31
 ·exact kf Tryz.func32
 ·exact kf Tryz.func45
 ·exact kf Tryz.func46
 ·exact kf Tryz.func47
 ·exact kf Tryz.func48
 ·exact kf Tryz.func49
 ·exact kf Tryz.func50
 ·exact kf Tryz.func51
 ·exact kf Tryz.func52
 ·exact kf Tryz.func53
 ·exact kf Tryz.func54
 ·exact kf Tryz.func55
 ·exact kf Tryz.func56
 ·exact kf Tryz.func57
 ·exact kf Tryz.func58
 ·exact kf Tryz.func59
 ·exact kf Tryz.func60
 ·exact kf Tryz.func61
 ·exact kf Tryz.func62
 ·exact kf Tryz.func63
 ·exact kf Tryz.func64
 ·exact kf Tryz.func65
 ·exact kf Tryz.func66
 ·exact kf Tryz.func81
 ·exact kf Tryz.func82
 ·exact kf Tryz.func83
 ·exact kf Tryz.func84
 ·exact kf Tryz.func85
 ·exact kf Tryz.func86
 ·exact kf Tryz.func87
 ·exact kf Tryz.func88
 ·exact kf Tryz.func89
 ·exact kf Tryz.func90
 ·exact kf Tryz.func91
 ·exact kf Tryz.func92
 ·exact kf Tryz.func93
 ·exact kf Tryz.func94
 ·exact kf Tryz.func95
 ·exact kf Tryz.func96
 ·exact kf Tryz.func97
 ·exact kf Tryz.func98
 ·exact kf Tryz.func99
 ·exact kf Tryz.func100
 ·exact kf Tryz.func101
 ·exact kf Tryz.func102
 ·exact kf Tryz.func103
 ·exact kf Tryz.func104
 ·exact kf Tryz.func105
 ·exact kf Tryz.func106
 ·exact kf Tryz.func107
 ·exact kf Tryz.func108
 ·exact kf Tryz.func109
 ·exact kf Tryz.func110
 ·exact kf Tryz.func111
theorem Vs:xJ Tryz.prog Γ2:=by
 intro g pf h;unfold Γ2 at h;split at h
 all_goals first | cases h; done | injection h with h; subst h
 ·exact kf Tryz.func112
 ·exact kf Tryz.func141
 ·exact kf Tryz.func142
 ·exact kf Tryz.func143
 ·exact kf Tryz.func144
 ·exact kf Tryz.func145
 ·exact kf Tryz.func146
 ·exact kf Tryz.func147
 ·exact kf Tryz.func148
 ·exact kf Tryz.func149
 ·exact kf Tryz.func150
 ·exact kf Tryz.func151
 ·exact kf Tryz.func152
 ·exact kf Tryz.func153
 ·exact kf Tryz.func154
 ·exact kf Tryz.func176
 ·exact kf Tryz.func177
 ·exact kf Tryz.func178
 ·exact kf Tryz.func179
 ·exact kf Tryz.func214
 ·exact kf Tryz.func215
 ·exact kf Tryz.func216
 ·exact kf Tryz.func217
 ·exact kf Tryz.func218
 ·exact kf Tryz.func234
 ·exact kf Tryz.func235
 ·exact kf Tryz.func236
 ·exact kf Tryz.func237
 ·exact kf Tryz.func238
 ·exact kf Tryz.func239
 ·exact kf Tryz.func240
 ·exact kf Tryz.func241
 ·exact kf Tryz.func242
 ·exact kf Tryz.func250
 ·exact kf Tryz.func251
 ·exact kf Tryz.func252
 ·exact kf Tryz.func253
 ·exact kf Tryz.func254
 ·exact kf Tryz.func261
 ·exact kf Tryz.func262
 ·exact kf Tryz.func263
 ·exact kf Tryz.func264
 ·exact kf Tryz.func265
 ·exact kf Tryz.func266
 ·exact kf Tryz.func275
 ·exact kf Tryz.func276
 ·exact kf Tryz.func277
 ·exact kf Tryz.func278
 ·exact kf Tryz.func279
 ·exact kf Tryz.func280
 ·exact kf Tryz.func281
 ·exact kf Tryz.func282
 ·exact kf Tryz.func294
 ·exact kf Tryz.func295
 ·exact kf Tryz.func296
 ·exact kf Tryz.func297
 ·exact kf Tryz.func298
 ·exact kf Tryz.func299
 ·exact kf Tryz.func300
 ·exact kf Tryz.func301
 ·exact kf Tryz.func311
 ·exact kf Tryz.func312
 ·exact kf Tryz.func313
 ·exact kf Tryz.func314
 ·exact kf Tryz.func319
 ·exact kf Tryz.func320
 ·exact kf Tryz.func321
 ·exact kf Tryz.func322
 ·exact kf Tryz.func323
 ·exact kf Tryz.func324
 ·exact kf Tryz.func325
 ·exact kf Tryz.func328
 ·exact kf Tryz.func329
 ·exact kf Tryz.func330
 ·exact kf Tryz.func331
 ·exact kf Tryz.func332
 ·exact kf Tryz.func341
 ·exact kf Tryz.func342
 ·exact kf Tryz.func343
theorem QD:xJ Tryz.prog Γ:=by
 intro g pf h;unfold Γ at h;cases h1:Γ1 g with
 | some x=>rw [h1] at h; exact UQ g pf (h1.trans h)
 | none=>rw [h1] at h; exact Vs g pf h
abbrev Pc (ext:aq) (g:Nat) (a:List PV) (v:PV) (s:PS):Prop:=aD Tryz.prog Γ ext g a s=some (v,s)
end Go.Proofs.YtgkggocjoolciaaGreatDoor
namespace Go.Mir
def bt (l:List UInt8) (i:Nat):Nat:=(l.getD i 0).toNat
def ig (c:Nat):Bool:=decide (97≤c) && decide (c≤122) || decide (65≤c) && decide (c≤90)
def bD (c:Nat):Bool:=decide (48≤c) && decide (c≤57)
def eX (c:Nat):Bool:=c == 9 || c == 32
def di (c:Nat):Bool:=c == 38 || c == 124 || c == 59 || c == 40 || c == 41 || c == 60 || c == 62
def eo (c:Nat):Bool:=ig c || bD c || c == 95
def cm (c:Nat):Bool:=bD c || c == 64 || c == 42 || c == 35 || c == 63 || c == 45 || c == 36 || c == 33
def cj (l:List UInt8) (a:Nat):Bool:=decide (a + 1 < l.length) && bt l a == 36 && (eo (bt l (a + 1)) || cm (bt l (a + 1)) || bt l (a + 1) == 123 || bt l (a + 1) == 40)
def cH (l:List UInt8) (i:Nat):Bool:=decide (i + 1 < l.length) && bt l i == 92 && bt l (i + 1) == 10
def run (q:Nat→Bool) (l:List UInt8) (i:Nat):Nat:=i + ((l.drop i).takeWhile fun c=>q c.toNat).length
def dY (l:List UInt8) (i:Nat):Nat:=run eo l i
def cB (l:List UInt8) (c i:Nat):Nat:=run (fun x=>x != c) l i
theorem pj {l:List UInt8}{i:Nat} (h:i < l.length):l.drop i=l[i] :: l.drop (i + 1):=List.drop_eq_getElem_cons h
theorem nU {l:List UInt8}{i:Nat} (h:i < l.length):bt l i=(l[i]).toNat:=by
 unfold bt; rw [List.getD_eq_getElem?_getD,List.getElem?_eq_getElem h]; rfl
theorem yA {q:Nat→Bool}{l:List UInt8}{i:Nat} (h:l.length≤i):run q l i=i:=by
 unfold run; rw [List.drop_eq_nil_of_le h]; rfl
theorem wc {q:Nat→Bool}{l:List UInt8}{i:Nat} (h:i < l.length) (hq:q (bt l i)=true):run q l i=run q l (i + 1):=by
 unfold run;rw [pj h,List.takeWhile_cons,if_pos (by rw [← nU h]; exact hq),List.length_cons];omega
theorem yX {q:Nat→Bool}{l:List UInt8}{i:Nat} (h:i < l.length) (hq:q (bt l i)=false):run q l i=i:=by
 unfold run;rw [pj h,List.takeWhile_cons,if_neg (by rw [← nU h,hq]; simp)];rfl
theorem md (q:Nat→Bool) (l:List UInt8) (i:Nat):i≤run q l i:=Nat.le_add_right _ _
theorem jH {q:Nat→Bool}{l:List UInt8}{i:Nat} (h:i≤l.length):run q l i≤l.length:=by
 unfold run;have h1:=List.Sublist.length_le (List.takeWhile_sublist (fun c:UInt8=>q c.toNat) (l:=l.drop i));rw [List.length_drop] at h1;omega
inductive fX where
 | pass (a p:Nat)
 | exp (a p:Nat)
 | bq (i a:Nat)
 | dbl (i a:Nat)
 | brc (i a p:Nat)
 | cmd (i a o:Nat) (b:Bool)
 | ari (i a o:Nat)
def cM (c o:Nat):Nat:=if c=40 then o + 1 else if c=41 then o - 1 else o
def ce (c:Nat):Bool:=eX c || c == 10 || di c
inductive Lx (l:List UInt8):fX→Nat→Nat→Prop where
 | p_esc0 {a p} (h:bt l a=92) (h2:a + 1=l.length):Lx l (.pass a p) a 7
 | p_esc {a p} (h:bt l a=92) (h2:a + 1 < l.length):Lx l (.pass a p) (a + 2) 0
 | p_bq {a p r e} (hl:a < l.length) (h:bt l a=96) (k:Lx l (.bq (a + 1) a) r e):Lx l (.pass a p) r e
 | p_exp {a p r e} (h:cj l a=true) (k:Lx l (.exp a p) r e):Lx l (.pass a p) r e
 | p_sq {a} (hl:a < l.length) (h:bt l a=39) (h2:cB l 39 (a + 1) < l.length):Lx l (.pass a 0) (cB l 39 (a + 1) + 1) 0
 | p_sq0 {a} (hl:a < l.length) (h:bt l a=39) (h2:cB l 39 (a + 1)=l.length):Lx l (.pass a 0) a 7
 | p_dq {a r e} (hl:a < l.length) (h:bt l a=34) (k:Lx l (.dbl (a + 1) a) r e):Lx l (.pass a 0) r e
 | p_one {a p} (hl:a < l.length) (h1:bt l a≠92) (h2:bt l a≠96) (h3:cj l a=false) (h4:p=0→bt l a≠39∧bt l a≠34):Lx l (.pass a p) (a + 1) 0
 | e_brc {a p r e} (h:bt l (a + 1)=123) (k:Lx l (.brc (a + 2) a p) r e):Lx l (.exp a p) r e
 | e_ari {a p r e} (h:bt l (a + 1)=40) (h2:a + 2 < l.length) (h3:bt l (a + 2)=40) (k:Lx l (.ari (a + 3) a 0) r e):Lx l (.exp a p) r e
 | e_cmd {a p r e} (h:bt l (a + 1)=40) (h2:a + 2 < l.length→bt l (a + 2)≠40) (k:Lx l (.cmd (a + 2) a 1 true) r e):Lx l (.exp a p) r e
 | e_sp {a p} (h:cm (bt l (a + 1))=true):Lx l (.exp a p) (a + 2) 0
 | e_nm {a p} (h:bt l (a + 1)≠123) (h2:bt l (a + 1)≠40) (h3:cm (bt l (a + 1))=false):Lx l (.exp a p) (dY l (a + 1)) 0
 | b_end {a} : Lx l (.bq l.length a) a 7
 | b_q {i a} (hl:i < l.length) (h:bt l i=96):Lx l (.bq i a) (i + 1) 0
 | b_esc0 {i a} (h:bt l i=92) (h2:i + 1=l.length):Lx l (.bq i a) i 7
 | b_esc {i a r e} (h:bt l i=92) (h2:i + 1 < l.length) (k:Lx l (.bq (i + 2) a) r e):Lx l (.bq i a) r e
 | b_one {i a r e} (hl:i < l.length) (h:bt l i≠96) (h2:bt l i≠92) (k:Lx l (.bq (i + 1) a) r e):Lx l (.bq i a) r e
 | d_end {a} : Lx l (.dbl l.length a) a 7
 | d_q {i a} (hl:i < l.length) (h:bt l i=34):Lx l (.dbl i a) (i + 1) 0
 | d_err {i a r e} (hl:i < l.length) (h:bt l i≠34) (k:Lx l (.pass i 1) r e) (he:e≠0):Lx l (.dbl i a) r e
 | d_on {i a j r e} (hl:i < l.length) (h:bt l i≠34) (k:Lx l (.pass i 1) j 0) (k2:Lx l (.dbl j a) r e):Lx l (.dbl i a) r e
 | r_end {a p} : Lx l (.brc l.length a p) a 7
 | r_q {i a p} (hl:i < l.length) (h:bt l i=125):Lx l (.brc i a p) (i + 1) 0
 | r_bad {i a} (hl:i < l.length) (h:bt l i=34):Lx l (.brc i a 1) i 6
 | r_err {i a p r e} (hl:i < l.length) (h:bt l i≠125) (h2:p=1→bt l i≠34) (k:Lx l (.pass i p) r e) (he:e≠0):Lx l (.brc i a p) r e
 | r_on {i a p j r e} (hl:i < l.length) (h:bt l i≠125) (h2:p=1→bt l i≠34) (k:Lx l (.pass i p) j 0) (k2:Lx l (.brc j a p) r e):Lx l (.brc i a p) r e
 | c_end {a o b} : Lx l (.cmd l.length a o b) a 7
 | c_cmt {i a o r e} (hl:i < l.length) (h:bt l i=35) (k:Lx l (.cmd (cB l 10 i) a o true) r e):Lx l (.cmd i a o true) r e
 | c_join {i a o b r e} (h:cH l i=true) (k:Lx l (.cmd (i + 2) a o b) r e):Lx l (.cmd i a o b) r e
 | c_q {i a b} (hl:i < l.length) (h:bt l i=41):Lx l (.cmd i a 1 b) (i + 1) 0
 | c_err {i a o b r e} (hl:i < l.length) (h:b=true→bt l i≠35) (h2:cH l i=false) (h3:bt l i=41→o≠1) (k:Lx l (.pass i 0) r e) (he:e≠0):Lx l (.cmd i a o b) r e
 | c_on {i a o b j r e} (hl:i < l.length) (h:b=true→bt l i≠35) (h2:cH l i=false) (h3:bt l i=41→o≠1) (k:Lx l (.pass i 0) j 0) (k2:Lx l (.cmd j a (cM (bt l i) o) (ce (bt l i))) r e):Lx l (.cmd i a o b) r e
 | a_end {a o} : Lx l (.ari l.length a o) a 7
 | a_q0 {i a} (h:bt l i=41) (h2:i + 1=l.length):Lx l (.ari i a 0) a 7
 | a_q {i a} (h:bt l i=41) (h2:i + 1 < l.length) (h3:bt l (i + 1)=41):Lx l (.ari i a 0) (i + 2) 0
 | a_bad {i a} (h:bt l i=41) (h2:i + 1 < l.length) (h3:bt l (i + 1)≠41):Lx l (.ari i a 0) i 6
 | a_err {i a o r e} (hl:i < l.length) (h:bt l i=41→o≠0) (k:Lx l (.pass i 2) r e) (he:e≠0):Lx l (.ari i a o) r e
 | a_on {i a o j r e} (hl:i < l.length) (h:bt l i=41→o≠0) (k:Lx l (.pass i 2) j 0) (k2:Lx l (.ari j a (cM (bt l i) o)) r e):Lx l (.ari i a o) r e
def fX.at:fX→Nat
 | .pass a _ | .exp a _=>a
 | .bq i _ | .dbl i _ | .brc i _ _ | .cmd i _ _ _ | .ari i _ _=>i
theorem bS {l:List UInt8}{a:Nat} (h:cj l a=true):a + 1 < l.length:=by
 unfold cj at h; simp at h; exact h.1.1
theorem zG {l:List UInt8}{a:Nat} (h:cj l a=true):bt l a=36:=by
 unfold cj at h; simp at h; exact h.1.2
theorem gm {l:List UInt8}{a:Nat} (h:cH l a=true):a + 1 < l.length:=by
 unfold cH at h; simp at h; exact h.1.1
theorem AL {l:List UInt8}{a:Nat} (h:cH l a=true):bt l a=92∧bt l (a + 1)=10:=by
 unfold cH at h; simp at h; exact⟨h.1.2,h.2⟩
end Go.Mir
namespace Go.Mir
theorem re {l:List UInt8}{a:Nat} (h:cj l a=true) (h1:bt l (a + 1)≠123) (h2:bt l (a + 1)≠40) (h3:cm (bt l (a + 1))=false):a + 2≤dY l (a + 1):=by
 have hl:=bS h;unfold cj at h;simp [h3,h1,h2] at h;unfold dY;rw [wc hl h.2];exact md _ _ _
def fX.ok (l:List UInt8):fX→Prop
 | .pass a _=>a < l.length
 | .exp a _=>cj l a=true
 | .bq i a | .dbl i a | .brc i a _ | .cmd i a _ _ | .ari i a _=>i≤l.length∧a < l.length
def fX.size (l:List UInt8):fX→Nat
 | .pass a _=>3 * (l.length - a) + 1
 | .exp a _=>3 * (l.length - a)
 | .bq i _ | .dbl i _ | .brc i _ _ | .cmd i _ _ _ | .ari i _ _=>3 * (l.length - i) + 2
theorem Lx.bound {l:List UInt8}{t:fX}{r e:Nat} (h:Lx l t r e):t.ok l→r≤l.length∧(e=0→t.at < r):=by
 induction h with
 | p_esc0 h h2=>intro ok; exact⟨by omega,by omega⟩
 | p_esc h h2=>intro ok; exact⟨by omega,fun _=>by simp only [fX.at]; omega⟩
 | p_bq hl h k ih=>intro ok; have:=ih ⟨by omega,hl⟩; exact⟨this.1,fun h=>by have:=this.2 h; simp only [fX.at] at this ⊢; omega⟩
 | p_exp h k ih=>intro ok; exact ih h
 | @p_sq a hl h h2=>intro ok; have:=md (fun x=>x != 39) l (a + 1); exact⟨by omega,fun _=>by simp only [fX.at]; unfold cB; exact Nat.lt_succ_of_le (Nat.le_trans (Nat.le_succ _) this)⟩
 | p_sq0 hl h h2=>intro ok; exact⟨by omega,by omega⟩
 | p_dq hl h k ih=>intro ok; have:=ih ⟨by omega,hl⟩; exact⟨this.1,fun h=>by have:=this.2 h; simp only [fX.at] at this ⊢; omega⟩
 | p_one hl _ _ _ _=>intro ok; exact⟨by omega,fun _=>by simp only [fX.at]; omega⟩
 | e_brc h k ih=>intro ok; have hl:=bS ok; have:=ih ⟨by omega,by omega⟩; exact⟨this.1,fun h=>by have:=this.2 h; simp only [fX.at] at this ⊢; omega⟩
 | e_ari h h2 h3 k ih=>intro ok; have hl:=bS ok; have:=ih ⟨by omega,by omega⟩; exact⟨this.1,fun h=>by have:=this.2 h; simp only [fX.at] at this ⊢; omega⟩
 | e_cmd h h2 k ih=>intro ok; have hl:=bS ok; have:=ih ⟨by omega,by omega⟩; exact⟨this.1,fun h=>by have:=this.2 h; simp only [fX.at] at this ⊢; omega⟩
 | e_sp h=>intro ok; have hl:=bS ok; exact⟨by omega,fun _=>by simp only [fX.at]; omega⟩
 | e_nm h h2 h3=>intro ok; have hl:=bS ok; have:=re ok h h2 h3; exact⟨jH (by omega),fun _=>by simp only [fX.at]; omega⟩
 | b_end=>intro ok; exact⟨by have:=ok.2; omega,by omega⟩
 | b_q hl h=>intro ok; exact⟨by omega,fun _=>by simp only [fX.at]; omega⟩
 | b_esc0 h h2=>intro ok; exact⟨by omega,by omega⟩
 | b_esc h h2 k ih=>intro ok; have:=ih ⟨by omega,ok.2⟩; exact⟨this.1,fun h=>by have:=this.2 h; simp only [fX.at] at this ⊢; omega⟩
 | b_one hl h h2 k ih=>intro ok; have:=ih ⟨by omega,ok.2⟩; exact⟨this.1,fun h=>by have:=this.2 h; simp only [fX.at] at this ⊢; omega⟩
 | d_end=>intro ok; exact⟨by have:=ok.2; omega,by omega⟩
 | d_q hl h=>intro ok; exact⟨by omega,fun _=>by simp only [fX.at]; omega⟩
 | d_err hl h k he ih=>intro ok; exact⟨(ih hl).1,fun h=>absurd h he⟩
 | d_on hl h k k2 ih ih2=>intro ok; have h1:=ih hl; have h3:=h1.2 rfl; have:=ih2 ⟨h1.1,ok.2⟩; exact⟨this.1,fun h=>by have:=this.2 h; simp only [fX.at] at this h3 ⊢; omega⟩
 | r_end=>intro ok; exact⟨by have:=ok.2; omega,by omega⟩
 | r_q hl h=>intro ok; exact⟨by omega,fun _=>by simp only [fX.at]; omega⟩
 | r_bad hl h=>intro ok; exact⟨by omega,by omega⟩
 | r_err hl h h2 k he ih=>intro ok; exact⟨(ih hl).1,fun h=>absurd h he⟩
 | r_on hl h h2 k k2 ih ih2=>intro ok; have h1:=ih hl; have h3:=h1.2 rfl; have:=ih2 ⟨h1.1,ok.2⟩; exact⟨this.1,fun h=>by have:=this.2 h; simp only [fX.at] at this h3 ⊢; omega⟩
 | c_end=>intro ok; exact⟨by have:=ok.2; omega,by omega⟩
 | @c_cmt i a o r e hl h k ih=>intro ok; have h1:=md (fun x=>x != 10) l i; have:=ih ⟨jH (by omega),ok.2⟩; exact⟨this.1,fun h=>by have:=this.2 h; simp only [fX.at,cB] at this ⊢; omega⟩
 | c_join h k ih=>intro ok; have hl:=gm h; have:=ih ⟨by omega,ok.2⟩; exact⟨this.1,fun h=>by have:=this.2 h; simp only [fX.at] at this ⊢; omega⟩
 | c_q hl h=>intro ok; exact⟨by omega,fun _=>by simp only [fX.at]; omega⟩
 | c_err hl h h2 h3 k he ih=>intro ok; exact⟨(ih hl).1,fun h=>absurd h he⟩
 | c_on hl h h2 h3 k k2 ih ih2=>intro ok; have h1:=ih hl; have h3:=h1.2 rfl; have:=ih2 ⟨h1.1,ok.2⟩; exact⟨this.1,fun h=>by have:=this.2 h; simp only [fX.at] at this h3 ⊢; omega⟩
 | a_end=>intro ok; exact⟨by have:=ok.2; omega,by omega⟩
 | a_q0 h h2=>intro ok; exact⟨by have:=ok.2; omega,by omega⟩
 | a_q h h2 h3=>intro ok; exact⟨by omega,fun _=>by simp only [fX.at]; omega⟩
 | a_bad h h2 h3=>intro ok; exact⟨by omega,by omega⟩
 | a_err hl h k he ih=>intro ok; exact⟨(ih hl).1,fun h=>absurd h he⟩
 | a_on hl h k k2 ih ih2=>intro ok; have h1:=ih hl; have h3:=h1.2 rfl; have:=ih2 ⟨h1.1,ok.2⟩; exact⟨this.1,fun h=>by have:=this.2 h; simp only [fX.at] at this h3 ⊢; omega⟩
theorem Lx.total (l:List UInt8):∀(m:Nat) (t:fX),t.size l < m→t.ok l→∃r e,Lx l t r e:=by
 intro m
 induction m with
 | zero=>intro t h; omega
 | succ m ih=>
  intro t hm ok;cases t with
  | pass a p=>
   simp only [fX.size,fX.ok] at hm ok;by_cases h1:bt l a=92
   ·by_cases h2:a + 1=l.length
    ·exact⟨_,_,.p_esc0 h1 h2⟩
    ·exact⟨_,_,.p_esc h1 (by omega)⟩
   by_cases h2:bt l a=96
   ·obtain⟨r,e,k⟩:=ih (.bq (a + 1) a) (by simp only [fX.size]; omega) ⟨by omega,ok⟩;exact⟨r,e,.p_bq ok h2 k⟩
   cases h3:cj l a with
   | true=>
    obtain⟨r,e,k⟩:=ih (.exp a p) (by simp only [fX.size]; omega) h3;exact⟨r,e,.p_exp h3 k⟩
   | false=>
    by_cases hp:p=0
    ·subst hp;by_cases h4:bt l a=39
     ·have:=jH (q:=fun x=>x != 39) (l:=l) (i:=a + 1) (by omega);by_cases h5:cB l 39 (a + 1)=l.length
      ·exact⟨_,_,.p_sq0 ok h4 h5⟩
      ·exact⟨_,_,.p_sq ok h4 (by unfold cB at h5 ⊢; omega)⟩
     by_cases h5:bt l a=34
     ·obtain⟨r,e,k⟩:=ih (.dbl (a + 1) a) (by simp only [fX.size]; omega) ⟨by omega,ok⟩;exact⟨r,e,.p_dq ok h5 k⟩
     ·exact⟨_,_,.p_one ok h1 h2 h3 fun _=>⟨h4,h5⟩⟩
    ·exact⟨_,_,.p_one ok h1 h2 h3 fun h=>absurd h hp⟩
  | exp a p=>
   simp only [fX.size,fX.ok] at hm ok;have hl:=bS ok;by_cases h1:bt l (a + 1)=123
   ·obtain⟨r,e,k⟩:=ih (.brc (a + 2) a p) (by simp only [fX.size]; omega) ⟨by omega,by omega⟩;exact⟨r,e,.e_brc h1 k⟩
   by_cases h2:bt l (a + 1)=40
   ·by_cases h3:a + 2 < l.length∧bt l (a + 2)=40
    ·obtain⟨r,e,k⟩:=ih (.ari (a + 3) a 0) (by simp only [fX.size]; omega) ⟨by omega,by omega⟩;exact⟨r,e,.e_ari h2 h3.1 h3.2 k⟩
    ·obtain⟨r,e,k⟩:=ih (.cmd (a + 2) a 1 true) (by simp only [fX.size]; omega) ⟨by omega,by omega⟩;exact⟨r,e,.e_cmd h2 (fun h h'=>h3 ⟨h,h'⟩) k⟩
   cases h3:cm (bt l (a + 1)) with
   | true=>exact⟨_,_,.e_sp h3⟩
   | false=>exact⟨_,_,.e_nm h1 h2 h3⟩
  | bq i a=>
   simp only [fX.size,fX.ok] at hm ok;by_cases hi:i=l.length
   ·subst hi; exact⟨_,_,.b_end⟩
   by_cases h1:bt l i=96
   ·exact⟨_,_,.b_q (by omega) h1⟩
   by_cases h2:bt l i=92
   ·by_cases h3:i + 1=l.length
    ·exact⟨_,_,.b_esc0 h2 h3⟩
    ·obtain⟨r,e,k⟩:=ih (.bq (i + 2) a) (by simp only [fX.size]; omega) ⟨by omega,ok.2⟩;exact⟨r,e,.b_esc h2 (by omega) k⟩
   ·obtain⟨r,e,k⟩:=ih (.bq (i + 1) a) (by simp only [fX.size]; omega) ⟨by omega,ok.2⟩;exact⟨r,e,.b_one (by omega) h1 h2 k⟩
  | dbl i a=>
   simp only [fX.size,fX.ok] at hm ok;by_cases hi:i=l.length
   ·subst hi; exact⟨_,_,.d_end⟩
   have hl:i < l.length:=by omega
   by_cases h1:bt l i=34
   ·exact⟨_,_,.d_q hl h1⟩
   obtain⟨j,e,k⟩:=ih (.pass i 1) (by simp only [fX.size]; omega) hl;by_cases he:e=0
   ·subst he;have hb:=k.bound hl;have hj:=hb.2 rfl;simp only [fX.at] at hj;obtain⟨r,e,k2⟩:=ih (.dbl j a) (by simp only [fX.size]; omega) ⟨hb.1,ok.2⟩;exact⟨r,e,.d_on hl h1 k k2⟩
   ·exact⟨_,_,.d_err hl h1 k he⟩
  | brc i a p=>
   simp only [fX.size,fX.ok] at hm ok;by_cases hi:i=l.length
   ·subst hi; exact⟨_,_,.r_end⟩
   have hl:i < l.length:=by omega
   by_cases h1:bt l i=125
   ·exact⟨_,_,.r_q hl h1⟩
   by_cases h2:p=1∧bt l i=34
   ·obtain⟨rfl,h2⟩:=h2;exact⟨_,_,.r_bad hl h2⟩
   obtain⟨j,e,k⟩:=ih (.pass i p) (by simp only [fX.size]; omega) hl;by_cases he:e=0
   ·subst he;have hb:=k.bound hl;have hj:=hb.2 rfl;simp only [fX.at] at hj;obtain⟨r,e,k2⟩:=ih (.brc j a p) (by simp only [fX.size]; omega) ⟨hb.1,ok.2⟩;exact⟨r,e,.r_on hl h1 (fun h h'=>h2 ⟨h,h'⟩) k k2⟩
   ·exact⟨_,_,.r_err hl h1 (fun h h'=>h2 ⟨h,h'⟩) k he⟩
  | cmd i a o b=>
   simp only [fX.size,fX.ok] at hm ok;by_cases hi:i=l.length
   ·subst hi; exact⟨_,_,.c_end⟩
   have hl:i < l.length:=by omega
   by_cases h1:b=true∧bt l i=35
   ·obtain⟨rfl,h1⟩:=h1;have hq:(fun x=>x != 10) (bt l i)=true:=by rw [h1]; rfl
    have e1:cB l 10 i=cB l 10 (i + 1):=wc hl hq;have g1:=md (fun x=>x != 10) l (i + 1);have g2:=jH (q:=fun x=>x != 10) (l:=l) (i:=i) (by omega);have g1':i + 1≤cB l 10 i:=by rw [e1]; exact g1
    have g2':cB l 10 i≤l.length:=g2;obtain⟨r,e,k⟩:=ih (.cmd (cB l 10 i) a o true) (by simp only [fX.size]; omega) ⟨g2',ok.2⟩;exact⟨r,e,.c_cmt hl h1 k⟩
   cases h2:cH l i with
   | true=>
    have:=gm h2;obtain⟨r,e,k⟩:=ih (.cmd (i + 2) a o b) (by simp only [fX.size]; omega) ⟨by omega,ok.2⟩;exact⟨r,e,.c_join h2 k⟩
   | false=>
    by_cases h3:bt l i=41∧o=1
    ·obtain⟨h3,rfl⟩:=h3;exact⟨_,_,.c_q hl h3⟩
    obtain⟨j,e,k⟩:=ih (.pass i 0) (by simp only [fX.size]; omega) hl;by_cases he:e=0
    ·subst he;have hb:=k.bound hl;have hj:=hb.2 rfl;simp only [fX.at] at hj;obtain⟨r,e,k2⟩:=ih (.cmd j a (cM (bt l i) o) (ce (bt l i))) (by simp only [fX.size]; omega) ⟨hb.1,ok.2⟩;exact⟨r,e,.c_on hl (fun h h'=>h1 ⟨h,h'⟩) h2 (fun h h'=>h3 ⟨h,h'⟩) k k2⟩
    ·exact⟨_,_,.c_err hl (fun h h'=>h1 ⟨h,h'⟩) h2 (fun h h'=>h3 ⟨h,h'⟩) k he⟩
  | ari i a o=>
   simp only [fX.size,fX.ok] at hm ok;by_cases hi:i=l.length
   ·subst hi; exact⟨_,_,.a_end⟩
   have hl:i < l.length:=by omega
   by_cases h1:bt l i=41∧o=0
   ·obtain⟨h1,rfl⟩:=h1;by_cases h2:i + 1=l.length
    ·exact⟨_,_,.a_q0 h1 h2⟩
    by_cases h3:bt l (i + 1)=41
    ·exact⟨_,_,.a_q h1 (by omega) h3⟩
    ·exact⟨_,_,.a_bad h1 (by omega) h3⟩
   obtain⟨j,e,k⟩:=ih (.pass i 2) (by simp only [fX.size]; omega) hl;by_cases he:e=0
   ·subst he;have hb:=k.bound hl;have hj:=hb.2 rfl;simp only [fX.at] at hj;obtain⟨r,e,k2⟩:=ih (.ari j a (cM (bt l i) o)) (by simp only [fX.size]; omega) ⟨hb.1,ok.2⟩;exact⟨r,e,.a_on hl (fun h h'=>h1 ⟨h,h'⟩) k k2⟩
   ·exact⟨_,_,.a_err hl (fun h h'=>h1 ⟨h,h'⟩) k he⟩
end Go.Mir
namespace Go.PE
open Go Go.EvL
section
variable {P:Program}{Γ:Nat→Option fJ}{ext:aq}
noncomputable def LP (P:Program) (Γ:Nat→Option fJ) (ext:aq) (id:Nat) (body rest:aW) (f:aR) (s:PS):kD:=gR (jm id (aN P Γ ext (.loop body) f s)) (aN P Γ ext rest)
noncomputable def S8 (P:Program) (Γ:Nat→Option fJ) (ext:aq) (id:Nat) (body rest:aW) (r:kD):kD:=gR (jm id (gR r (aN P Γ ext (.loop body)))) (aN P Γ ext rest)
theorem Nc (id:Nat) (body rest:aW) (f:aR) (s:PS):gR (jm id (aN P Γ ext (.loop body) f s)) (aN P Γ ext rest)=LP P Γ ext id body rest f s:=(rfl)
theorem pC (id:Nat) (body rest:aW) (f:aR) (s:PS):LP P Γ ext id body rest f s=S8 P Γ ext id body rest (aN P Γ ext body f s):=by
 unfold LP S8; rw [fO]
theorem OM (id:Nat) (body rest:aW) (f:aR) (s:PS):S8 P Γ ext id body rest (some (.normal,f,s))=LP P Γ ext id body rest f s:=(rfl)
theorem IF (id j:Nat) (body rest:aW) (f:aR) (s:PS):S8 P Γ ext id body rest (some (.exit j,f,s))=if j=id then aN P Γ ext rest f s else some (.exit j,f,s):=by
 unfold S8;rw [nb,vL];split
 ·rw [fu]
 ·rw [nb]
theorem Kq (t:Nat) (x y:Operand) (a b:Int):fw P .eql t x y (.sc (.int .u8 a)) (.sc (.int .u8 b))=some (.sc (.bool (a == b))):=(rfl)
theorem Im (t:Nat) (x y:Operand) (a b:Int):fw P .neq t x y (.sc (.int .u8 a)) (.sc (.int .u8 b))=some (.sc (.bool (a != b))):=(rfl)
theorem Jx (t:Nat) (x y:Operand) (a b:Int):fw P .lss t x y (.sc (.int .u8 a)) (.sc (.int .u8 b))=some (.sc (.bool (decide (a < b)))):=(rfl)
theorem K8 (t:Nat) (x y:Operand) (a b:Int):fw P .leq t x y (.sc (.int .u8 a)) (.sc (.int .u8 b))=some (.sc (.bool (decide (a≤b)))):=(rfl)
theorem Jv (t:Nat) (x y:Operand) (a b:Int):fw P .gtr t x y (.sc (.int .u8 a)) (.sc (.int .u8 b))=some (.sc (.bool (decide (a > b)))):=(rfl)
theorem Jl (t:Nat) (x y:Operand) (a b:Int):fw P .geq t x y (.sc (.int .u8 a)) (.sc (.int .u8 b))=some (.sc (.bool (decide (a ≥ b)))):=(rfl)
theorem SH (c k:Nat):((c:Int) == (no_index (@OfNat.ofNat Int k instOfNat)))=(c == @OfNat.ofNat Nat k (instOfNatNat k)):=by
 rw [Bool.eq_iff_iff]; simp only [beq_iff_eq]; show (c:Int)=(k:Int)↔c=k; omega
theorem Vi (c k:Nat):((c:Int) != (no_index (@OfNat.ofNat Int k instOfNat)))=!(c == @OfNat.ofNat Nat k (instOfNatNat k)):=by
 show (!((c:Int) == (@OfNat.ofNat Int k instOfNat)))=_; rw [SH]
theorem WI (c k:Nat):decide ((c:Int) < (no_index (@OfNat.ofNat Int k instOfNat)))=decide (c < @OfNat.ofNat Nat k (instOfNatNat k)):=by
 rw [Bool.eq_iff_iff]; simp only [decide_eq_true_iff]; show (c:Int) < (k:Int)↔c < k; omega
theorem Wz (c k:Nat):decide ((c:Int)≤(no_index (@OfNat.ofNat Int k instOfNat)))=decide (c≤@OfNat.ofNat Nat k (instOfNatNat k)):=by
 rw [Bool.eq_iff_iff]; simp only [decide_eq_true_iff]; show (c:Int)≤(k:Int)↔c≤k; omega
theorem WF (c k:Nat):decide ((c:Int) > (no_index (@OfNat.ofNat Int k instOfNat)))=decide (@OfNat.ofNat Nat k (instOfNatNat k) < c):=by
 rw [Bool.eq_iff_iff]; simp only [decide_eq_true_iff]; show (c:Int) > (k:Int)↔k < c; omega
theorem WX (c k:Nat):decide ((c:Int) ≥ (no_index (@OfNat.ofNat Int k instOfNat)))=decide (@OfNat.ofNat Nat k (instOfNatNat k)≤c):=by
 rw [Bool.eq_iff_iff]; simp only [decide_eq_true_iff]; show (c:Int) ≥ (k:Int)↔k≤c; omega
theorem U0 (a b:Nat):((a:Int) == (b:Int))=(a == b):=by
 rw [Bool.eq_iff_iff]; simp only [beq_iff_eq]; omega
theorem UR (a b:Nat):((a:Int) != (b:Int))=!(a == b):=by
 show (!((a:Int) == (b:Int)))=_; rw [U0]
theorem X0 (a b:Nat):decide ((a:Int) < (b:Int))=decide (a < b):=by
 rw [Bool.eq_iff_iff]; simp only [decide_eq_true_iff]; omega
theorem Ww (a b:Nat):decide ((a:Int)≤(b:Int))=decide (a≤b):=by
 rw [Bool.eq_iff_iff]; simp only [decide_eq_true_iff]; omega
theorem WP (a b:Nat):decide ((a:Int) > (b:Int))=decide (b < a):=by
 rw [Bool.eq_iff_iff]; simp only [decide_eq_true_iff]; omega
theorem WH (a b:Nat):decide ((a:Int) ≥ (b:Int))=decide (b≤a):=by
 rw [Bool.eq_iff_iff]; simp only [decide_eq_true_iff]; omega
theorem xe {z:Int} (h0 : 0≤z) (h:z < 9223372036854775808):IntKind.i64.wrap z=z:=by
 obtain⟨n,rfl⟩:=Int.eq_ofNat_of_zero_le h0;exact w9 (by omega)
theorem Vt {i k:Nat} (h:i + @OfNat.ofNat Nat k (instOfNatNat k) < 9223372036854775808):IntKind.i64.wrap ((i:Int) + (no_index (@OfNat.ofNat Int k instOfNat)))=((i + @OfNat.ofNat Nat k (instOfNatNat k):Nat):Int):=by
 have:((i + @OfNat.ofNat Nat k (instOfNatNat k):Nat):Int)=(i:Int) + (@OfNat.ofNat Int k instOfNat):=Int.natCast_add i k;rw [this];exact xe (by show 0≤(i:Int) + (k:Int); omega) (by change i + k < _ at h; show (i:Int) + (k:Int) < _; omega)
theorem UM {i k:Nat} (h:i + k < 9223372036854775808):IntKind.i64.wrap ((i:Int) + (k:Int))=((i + k:Nat):Int):=by
 rw [xe (by omega) (by omega)]; omega
theorem Se {i k:Nat} (h : @OfNat.ofNat Nat k (instOfNatNat k)≤i∧i < 9223372036854775808):IntKind.i64.wrap ((i:Int) - (no_index (@OfNat.ofNat Int k instOfNat)))=((i - @OfNat.ofNat Nat k (instOfNatNat k):Nat):Int):=by
 have:((i - @OfNat.ofNat Nat k (instOfNatNat k):Nat):Int)=(i:Int) - (@OfNat.ofNat Int k instOfNat):=Int.ofNat_sub h.1;rw [this];exact xe (by have h1:k≤i:=h.1; show 0≤(i:Int) - (k:Int); omega) (by show (i:Int) - (k:Int) < _; omega)
theorem Vu {i k:Nat} (h:k≤i∧i < 9223372036854775808):IntKind.i64.wrap ((i:Int) - (k:Int))=((i - k:Nat):Int):=by
 rw [xe (by omega) (by omega)]; omega
theorem nR (t:Nat) (x y:Operand) {a b:ByteArray} (h:a.size + b.size < 9223372036854775808):fw P .add t x y (.sc (.string a)) (.sc (.string b))=some (.sc (.string (a ++ b))):=by
 have e:qF P .add t x y (.string a) (.string b)=some (.string (a ++ b)):=by
  show bx P (if ((a.size + b.size:Nat):Int) > IntKind.i64.max then _ else pure (Value.string (a ++ b)))=_;rw [if_neg (by show ¬ (((a.size + b.size:Nat):Int) > 9223372036854775807); omega)];rfl
 simp only [fw,i9,e]; rfl
theorem NZ (d t:Nat) (l:List PI) (f:aR) (s:PS):ke P Γ ext (mt d t :: l) f s=ke P Γ ext l (f.set d (f t)) s:=(rfl)
theorem Lr (d:Nat) (v:Value) (l:List PI) (f:aR) (s:PS):ke P Γ ext (mk d v :: l) f s=ke P Γ ext l (f.set d (bY v)) s:=(rfl)
theorem GT (l:List PI) (t:Nat) (a b:aW) (f:aR) (s:PS):aN P Γ ext (t7 l t a b) f s=gR (Jz (ke P Γ ext l f s)) (aN P Γ ext (.cond (.tmp t) a b)):=by
 unfold t7; rw [bN,dL]
theorem HN (l:List PI) (c:aW) (f:aR) (s:PS):aN P Γ ext (sr l c) f s=gR (Jz (ke P Γ ext l f s)) (aN P Γ ext c):=by
 unfold sr; rw [bN,dL]
theorem JO (id:Nat) (b r:aW) (f:aR) (s:PS):aN P Γ ext (lt id b r) f s=LP P Γ ext id b r f s:=by
 unfold lt LP; rw [bN,eA]
def Er (V:aR→PS→Prop) (r:kD):Prop:=∃f s,r=some (.ret,f,s)∧V f s
theorem L6 (V:aR→PS→Prop) (f:aR) (s:PS):Er V (some (.ret,f,s))↔V f s:=
 ⟨fun ⟨_,_,h,q⟩=>by injection h with h; injection h with _ h; injection h with h1 h2; subst h1; subst h2; exact q,fun q=>⟨_,_,rfl,q⟩⟩
theorem Er.mono {V V':aR→PS→Prop}{r:kD} (h:Er V r) (k:∀f s,V f s→V' f s):Er V' r:=
 let ⟨f,s,e,q⟩:=h; ⟨f,s,e,k f s q⟩
noncomputable def Qn (P:Program) (Γ:Nat→Option fJ) (ext:aq) (L:aR→PS→kD) (id:Nat) (rest:aW) (r:kD):kD:=r.bind fun q=>match q.1 with
 | .normal=>L q.2.1 q.2.2
 | .exit j=>if j=id then aN P Γ ext rest q.2.1 q.2.2 else some q
 | .ret=>some q
theorem OO (L:aR→PS→kD) (id:Nat) (rest:aW) (f:aR) (s:PS):Qn P Γ ext L id rest (some (.normal,f,s))=L f s:=(rfl)
theorem SN (L:aR→PS→kD) (id j:Nat) (rest:aW) (f:aR) (s:PS):Qn P Γ ext L id rest (some (.exit j,f,s))=if j=id then aN P Γ ext rest f s else some (.exit j,f,s):=(rfl)
theorem Ul (L:aR→PS→kD) (id:Nat) (rest:aW) (f:aR) (s:PS):Qn P Γ ext L id rest (some (.ret,f,s))=some (.ret,f,s):=(rfl)
theorem ad {id:Nat}{body rest:aW}{f:aR}{s:PS}{R:kD→Prop} (h:∀L,L=LP P Γ ext id body rest→R (Qn P Γ ext L id rest (aN P Γ ext body f s))):R (LP P Γ ext id body rest f s):=by
 have e:LP P Γ ext id body rest f s=Qn P Γ ext (LP P Γ ext id body rest) id rest (aN P Γ ext body f s):=by
  rw [pC];unfold S8 Qn;cases aN P Γ ext body f s with
  | none=>rfl
  | some q=>
   obtain⟨x,f1,s1⟩:=q;cases x with
   | normal=>rfl
   | exit j=>
    rw [nb,vL];simp only [Option.bind_some];split
    ·rw [fu]
    ·rw [nb]
   | ret=>rfl
 rw [e];exact h _ rfl
theorem ir {V:aR→PS→Prop}{g:Nat}{fn:fJ}{args:List PV}{s:PS}{q:PV × PS} (hg:Γ g=some fn) (hl:args.length≤fn.nt) (h:Er V (aN P Γ ext fn.body (br args 0) ⟨s.h,s.n,s.n⟩)) (hk:∀f s',V f s'→ek fn s f s'=some q):aD P Γ ext g args s=some q:=by
 obtain⟨f,s',e,hv⟩:=h;rw [dT hg _ _ hl,e];exact hk f s' hv
theorem vg {g r:Nat}{fn:fJ}{args:List PV}{s:PS}{u:Value} (hg:Γ g=some fn) (hl:args.length≤fn.nt) (hr:fn.res=[.tmp r]) (hk:fn.keep=false) (h:Er (fun f' s'=>s'=⟨s.h,s.n,s.n⟩∧f' r=.sc u) (aN P Γ ext fn.body (br args 0) ⟨s.h,s.n,s.n⟩)):aD P Γ ext g args s=some (.sc u,s):=by
 refine ir hg hl h ?_;rintro f s' ⟨rfl,h⟩;exact fM (vs:=[.sc u]) hk (by rw [hr]; simp only [ii,Option.map_some,h]) (Nat.le_refl _) rfl
theorem dj {g r r2:Nat}{fn:fJ}{args:List PV}{s:PS}{u v:Value} (hg:Γ g=some fn) (hl:args.length≤fn.nt) (hr:fn.res=[.tmp r,.tmp r2]) (hk:fn.keep=false) (h:Er (fun f' s'=>s'=⟨s.h,s.n,s.n⟩∧f' r=.sc u∧f' r2=.sc v) (aN P Γ ext fn.body (br args 0) ⟨s.h,s.n,s.n⟩)):aD P Γ ext g args s=some (.tup [.sc u,.sc v],s):=by
 refine ir hg hl h ?_;rintro f s' ⟨rfl,h,h2⟩;exact fM (vs:=[.sc u,.sc v]) hk (by rw [hr]; simp only [ii,Option.map_some,h,h2]) (Nat.le_refl _) rfl
theorem Dh (l:List UInt8) (i:Nat):(l.getD i 0).toNat=Go.Mir.bt l i:=(rfl)
end
section
variable {P:Program}{Γ:Nat→Option fJ}{ext:aq}
theorem UE (j:Nat) (w:Bool) (d t:Nat):gt j w d t=⟨some d,.mv (.tmp t),some (j,w)⟩:=rfl
theorem UK (d:Nat) (p:lc):ob d p=⟨some d,p,none⟩:=rfl
theorem Vw (j:Nat) (w:Bool) (d:Nat) (p:lc):og j w d p=⟨some d,p,some (j,w)⟩:=rfl
theorem UF (p:lc):o0 p=⟨none,p,none⟩:=rfl
theorem UN (j:Nat) (w:Bool) (p:lc):g0 j w p=⟨none,p,some (j,w)⟩:=rfl
theorem V7 (o:BinOp) (t x y:Nat):bn o t x y=.bin o t (.tmp x) (.tmp y):=rfl
theorem UV (o:BinOp) (x:Nat) (n:Int):bi o x n=.bin o 3 (.tmp x) (.const (.int .i64 n)):=rfl
theorem V8 (o:BinOp) (x:Nat) (n:Int):bc o x n=.bin o 5 (.tmp x) (.const (.int .u8 n)):=rfl
theorem V6 (a b:Nat):pk a b=.pick (.tmp a) (.tmp b) (.const (.bool false)):=rfl
theorem UW (a b:Nat):po a b=.pick (.tmp a) (.const (.bool true)) (.tmp b):=rfl
theorem UH (g:Nat) (l:List Operand):cl g l=.call (.func g) l:=rfl
theorem Tc (f:aR):bw f none=some true:=rfl
theorem Ss (f:aR) (d:Nat) (w:Bool):bw f (some (d,w))=match f d with
 | .sc (.bool b)=>some (b == w)
 | .sc (.tuple _)=>some false
 | _=>none:=rfl
theorem Pq (cs:List PV):az (.agg cs)=cs:=rfl
theorem Tj (v:Value):az (.sc v)=[.sc v]:=rfl
theorem Rf (k off n fin:Nat):az (.own k off n fin)=[.own k off n fin]:=rfl
theorem Rq (k off fin:Nat):az (.ptr k off fin)=[.ptr k off fin]:=rfl
theorem U3 (g:Nat) (a c:List PV):az (.fn g a c)=[.fn g a c]:=rfl
theorem QO (e n:Nat) (c:List PV):az (.lit e n c)=[.lit e n c]:=rfl
theorem SG:undef=.tuple #[]:=rfl
theorem QG (i:Nat):br [] i=fun _=>.sc undef:=rfl
theorem Qs (v:PV) (l:List PV) (i:Nat):br (v :: l) i=aR.set (br l (i + 1)) i v:=rfl
theorem IP (d t:Nat) (ls un:List Nat) (l:List (PI × List Nat × List Nat)) (j:Nat) (acc:List (Nat × jc × Nat × Nat)) (f:aR) (s:PS):ng P Γ ext ((mt d t,ls,un) :: l) j acc f s=EQ P Γ ext (aY P (aD P Γ ext) (dl ls f) s (.mv (.tmp t))) (some d) (cI (dl ls f) (.mv (.tmp t))) (fR (ei Γ) (dl ls f) ⟨some d,.mv (.tmp t),none⟩) un l j acc f s:=zo _ _ _ _ _ _ _ _ _
theorem Jb (d:Nat) (v:Value) (ls un:List Nat) (l:List (PI × List Nat × List Nat)) (j:Nat) (acc:List (Nat × jc × Nat × Nat)) (f:aR) (s:PS):ng P Γ ext ((mk d v,ls,un) :: l) j acc f s=EQ P Γ ext (aY P (aD P Γ ext) (dl ls f) s (.mv (.const v))) (some d) (cI (dl ls f) (.mv (.const v))) (fR (ei Γ) (dl ls f) ⟨some d,.mv (.const v),none⟩) un l j acc f s:=zo _ _ _ _ _ _ _ _ _
def ZA:=And.intro (@bN)<|And.intro (@dL)<|And.intro (@eJ)<|And.intro (@cX)<|And.intro (@gF)<|And.intro (@db)<|And.intro (@eA)<|And.intro (@de)<|And.intro (@Qx)<|And.intro (@bO)<|And.intro (@bj)<|And.intro (@oD)<|And.intro (@Gp)<|And.intro (@Cy)<|And.intro (@BB)<|And.intro (@Nat.zero_add)<|And.intro (@Nat.add_zero)<|And.intro (@Option.map_some.{0,0})<|And.intro (@Option.bind_some.{0,0})<|And.intro (@cZ)<|And.intro (@bT)<|And.intro (@Gs)<|And.intro (@aU)<|And.intro (@fu)<|And.intro (@kL)<|And.intro (@nb)<|And.intro (@J8)<|And.intro (@AZ)<|And.intro (@vL)<|And.intro (@nQ)<|And.intro (@ko)<|And.intro (@eu)<|And.intro (@cJ)<|And.intro (@dG)<|And.intro (@cD)<|And.intro (@ip)<|And.intro (@dz)<|And.intro (@dn)<|And.intro (@jz)<|And.intro (@yb)<|And.intro (@List.length_cons.{0})<|And.intro (@List.length_nil.{0})<|And.intro (@Nat.left_eq_add)<|And.intro (@Nat.add_eq_left)<|And.intro (@Nat.add_left_cancel_iff)<|And.intro (@Nat.one_ne_zero)<|And.intro (@Nat.zero_le)<|And.intro (@and_self)<|And.intro (@true_and)<|And.intro (@and_true)<|And.intro (@List.drop_succ_cons.{0})<|And.intro (@List.drop_zero.{0})<|And.intro (@List.take_succ_cons.{0})<|And.intro (@List.take_zero.{0})<|And.intro (@Nat.le_refl)<|And.intro (@u9)<|And.intro (@NE)<|And.intro (@kK)<|And.intro (@O3)<|And.intro (@Lv)<|And.intro (@KO)<|And.intro (@Oo)<|And.intro (@jt)<|And.intro (@Kz)<|And.intro (@JG)<|And.intro (@C9)<|And.intro (@beq_self_eq_true.{0})<|And.intro (@Bool.not_true)<|And.intro (@Bool.not_false)<|And.intro (@Vl)<|And.intro (@Ve)<|And.intro (@Nat.min_eq_left)<|And.intro (@Nat.le_add_right)<|And.intro (@Nat.min_self)<|And.intro (@List.map_cons.{0,0})<|And.intro (@List.map_nil.{0,0})<|And.intro (@List.nil_append.{0})<|And.intro (@List.append_nil.{0})<|And.intro (@List.cons_append.{0})<|And.intro (@jI)<|And.intro (@Pu)<|And.intro (@Bool.true_eq_false)<|And.intro (@Bool.false_eq_true)<|And.intro (@ne_eq.{1})<|And.intro (@not_true_eq_false)<|And.intro (@not_false_eq_true)<|And.intro (@bne_self_eq_false.{0})<|And.intro (@CW)<|And.intro (@sA)<|And.intro (@Gv)<|And.intro (@decide_true)<|And.intro (@decide_false)<|And.intro (@QI)<|And.intro (@Up)<|And.intro (@TV)<|And.intro (@U4)<|And.intro (@Ma)<|And.intro (@List.getElem?_cons_zero.{0})<|And.intro (@List.getElem?_cons_succ.{0})<|And.intro (@GT)<|And.intro (@HN)<|And.intro (@JO)<|And.intro (@OO)<|And.intro (@SN)<|And.intro (@Ul)<|And.intro (@L6)<|And.intro (@Nc)<|And.intro (@Kq)<|And.intro (@Im)<|And.intro (@Jx)<|And.intro (@K8)<|And.intro (@Jv)<|And.intro (@Jl)<|And.intro (@SH)<|And.intro (@Vi)<|And.intro (@WI)<|And.intro (@Wz)<|And.intro (@WF)<|And.intro (@WX)<|And.intro (@U0)<|And.intro (@UR)<|And.intro (@X0)<|And.intro (@Ww)<|And.intro (@WP)<|And.intro (@WH)<|And.intro (@Vt)<|And.intro (@UM)<|And.intro (@Se)<|And.intro (@Vu)<|And.intro (@Dh)<|And.intro (@UE)<|And.intro (@UK)<|And.intro (@Vw)<|And.intro (@UF)<|And.intro (@UN)<|And.intro (@V7)<|And.intro (@UV)<|And.intro (@V8)<|And.intro (@V6)<|And.intro (@UW)<|And.intro (@UH)<|And.intro (@Tc)<|And.intro (@Ss)<|And.intro (@SG)<|And.intro (@QG)<|And.intro (@Qs)<|And.intro (@NZ)<|And.intro (@Lr)<|And.intro (@Pq)<|And.intro (@Tj)<|And.intro (@Rf)<|And.intro (@Rq)<|And.intro (@U3)<|@QO
def ZD:=And.intro (@Lt)<|And.intro (@H7)<|And.intro (@zo)<|And.intro (@LS)<|And.intro (@Kx)<|And.intro (@JC)<|And.intro (@Kj)<|And.intro (@Hl)<|And.intro (@MA)<|And.intro (@H3)<|And.intro (@Ky)<|And.intro (@Mq)<|And.intro (@Du)<|And.intro (@J2)<|And.intro (@GY)<|And.intro (@Gi)<|And.intro (@List.mem_cons.{0})<|And.intro (@List.not_mem_nil.{0})<|And.intro (@or_false)<|And.intro (@false_or)<|And.intro (@or_true)<|And.intro (@true_or)<|And.intro (@or_self)<|And.intro (@implies_true.{0})<|And.intro (@false_implies)<|And.intro (@forall_const.{1})<|And.intro (@true_implies)<|And.intro (@IP)<|@Jb
end
theorem Wv:(∀P q f s a,aY P q f s (.mv a)=bM P f s (.mv a))∧(∀P q f s a b c,aY P q f s (.pick a b c)=bM P f s (.pick a b c))∧(∀P q f s a b,aY P q f s (.alloc a b)=bM P f s (.alloc a b))∧(∀P q f s a b,aY P q f s (.box a b)=bM P f s (.box a b))∧(∀P q f s a b,aY P q f s (.build a b)=bM P f s (.build a b))∧(∀P q f s a b c d,aY P q f s (.bslice a b c d)=bM P f s (.bslice a b c d))∧(∀P q f s a b c d,aY P q f s (.load a b c d)=bM P f s (.load a b c d))∧(∀P q f s a b c d,aY P q f s (.store a b c d)=bM P f s (.store a b c d))∧(∀P q f s a b,aY P q f s (.faddr a b)=bM P f s (.faddr a b))∧(∀P q f s a b c d,aY P q f s (.fld a b c d)=bM P f s (.fld a b c d))∧(∀P q f s a b c,aY P q f s (.iaddr a b c)=bM P f s (.iaddr a b c))∧(∀P q f s a b,aY P q f s (.sidx a b)=bM P f s (.sidx a b))∧(∀P q f s a b c d,aY P q f s (.bin a b c d)=bM P f s (.bin a b c d))∧(∀P q f s a b,aY P q f s (.un a b)=bM P f s (.un a b))∧(∀P q f s a b,aY P q f s (.len a b)=bM P f s (.len a b))∧(∀P q f s a b c d e,aY P q f s (.app a b c d e)=bM P f s (.app a b c d e))∧(∀P q f s a b c d e,aY P q f s (.slc a b c d e)=bM P f s (.slc a b c d e))∧(∀P q f s a b c d e,aY P q f s (.slc3 a b c d e)=bM P f s (.slc3 a b c d e))∧(∀P q f s a b c,aY P q f s (.sslc a b c)=bM P f s (.sslc a b c))∧(∀P q f s a b c,aY P q f s (.mkfn a b c)=bM P f s (.mkfn a b c))∧(∀P q f s a b,aY P q f s (.ext a b)=bM P f s (.ext a b))∧(∀P q f s a b,aY P q f s (.conv a b)=bM P f s (.conv a b))∧(∀P q f s a b c,aY P q f s (.mnx a b c)=bM P f s (.mnx a b c))∧(∀P q f s a,aY P q f s (.nck a)=bM P f s (.nck a))∧(∀P q f s a b c d e g,aY P q f s (.mks a b c d e g)=bM P f s (.mks a b c d e g))∧(∀P q f s a b c,aY P q f s (.cpy a b c)=bM P f s (.cpy a b c)):=by
 refine⟨?_,?_,?_,?_,?_,?_,?_,?_,?_,?_,?_,?_,?_,?_,?_,?_,?_,?_,?_,?_,?_,?_,?_,?_,?_,?_⟩<;>intros<;>rfl
theorem Xc:(∀a b,bY (.int a b)=.sc (.int a b))∧(∀a,bY (.string a)=.sc (.string a))∧(∀a,bY (.bool a)=.sc (.bool a))∧(∀a b c,bY (.slice a b c)=.sc (.slice a b c))∧(∀a,bY (.tuple a)=.sc (.tuple a))∧(∀a,bY (.pointer a)=.sc (.pointer a))∧(bY .nilIface=.sc .nilIface)∧(∀a b,bY (.iface a b)=.sc (.iface a b))∧(∀a,bY (.map a)=.sc (.map a))∧(∀v,cR true v=some (.agg v))∧(∀v,cR false [v]=some v)∧(∀v,gD [v]=v)∧(gD []=.tup [])∧(∀v w l,gD (v :: w :: l)=.tup (v :: w :: l))∧(∀n s a,il n s (.sc a)=fx n s (.sc a))∧(∀n s a,il n s (.tup a)=fx n s (.tup a))∧(∀n s a b c,il n s (.lit a b c)=fx n s (.lit a b c))∧(∀n s a,il n s (.litp a)=fx n s (.litp a))∧(∀n s a b c,il n s (.litx a b c)=fx n s (.litx a b c))∧(∀n s a b c d,il n s (.own a b c d)=fx n s (.own a b c d))∧(∀n s a b c,il n s (.ptr a b c)=fx n s (.ptr a b c))∧(∀n s a b c,il n s (.fn a b c)=fx n s (.fn a b c))∧(∀n s a,PE.frz n s (.sc a)=il n s (.sc a))∧(∀n s a,PE.frz n s (.agg a)=il n s (.agg a))∧(∀n s a b c,PE.frz n s (.lit a b c)=il n s (.lit a b c))∧(∀n s a,PE.frz n s (.litp a)=il n s (.litp a))∧(∀n s a b c,PE.frz n s (.litx a b c)=il n s (.litx a b c))∧(∀n s a b c d,PE.frz n s (.own a b c d)=il n s (.own a b c d))∧(∀n s a b c,PE.frz n s (.ptr a b c)=il n s (.ptr a b c))∧(∀n s a b c,PE.frz n s (.fn a b c)=il n s (.fn a b c)):=by
 refine⟨?_,?_,?_,?_,?_,?_,?_,?_,?_,?_,?_,?_,?_,?_,?_,?_,?_,?_,?_,?_,?_,?_,?_,?_,?_,?_,?_,?_,?_,?_⟩<;>intros<;>rfl
theorem Xb:(∀f a,cI f (.mv a)=⟨[],[],false,false⟩)∧(∀f a b c,cI f (.pick a b c)=⟨[],[],false,false⟩)∧(∀f a b,cI f (.alloc a b)=⟨[],[],false,false⟩)∧(∀f a b,cI f (.box a b)=⟨[],[],false,false⟩)∧(∀f a b,cI f (.build a b)=⟨[],[],false,false⟩)∧(∀f a b c d,cI f (.bslice a b c d)=⟨[],[],false,false⟩)∧(∀f a b,cI f (.faddr a b)=⟨[],[],false,false⟩)∧(∀f a b c d,cI f (.fld a b c d)=⟨[],[],false,false⟩)∧(∀f a b c,cI f (.iaddr a b c)=⟨[],[],false,false⟩)∧(∀f a b,cI f (.sidx a b)=⟨[],[],false,false⟩)∧(∀f a b c d,cI f (.bin a b c d)=⟨[],[],false,false⟩)∧(∀f a b,cI f (.un a b)=⟨[],[],false,false⟩)∧(∀f a b,cI f (.len a b)=⟨[],[],false,false⟩)∧(∀f a b c,cI f (.sslc a b c)=⟨[],[],false,false⟩)∧(∀f a b c,cI f (.mkfn a b c)=⟨[],[],false,false⟩)∧(∀f a b,cI f (.ext a b)=⟨[],[],false,false⟩)∧(∀f a b,cI f (.conv a b)=⟨[],[],false,false⟩)∧(∀f a b c,cI f (.mnx a b c)=⟨[],[],false,false⟩)∧(∀f a,cI f (.nck a)=⟨[],[],false,false⟩)∧(∀f a b c d e g,cI f (.mks a b c d e g)=⟨[],[],false,false⟩)∧(∀a,eE (.sc a)=⟨[],[],false,false⟩)∧(∀a,eE (.agg a)=⟨[],[],false,false⟩)∧(∀a,eE (.tup a)=⟨[],[],false,false⟩)∧(∀a b c,eE (.fn a b c)=⟨[],[],false,false⟩):=by
 refine⟨?_,?_,?_,?_,?_,?_,?_,?_,?_,?_,?_,?_,?_,?_,?_,?_,?_,?_,?_,?_,?_,?_,?_,?_⟩<;>intros<;>rfl
def ZS:=And.intro (@ZA)<|And.intro (@Wv)<|And.intro (@Xc)<|And.intro (@aY.eq_1)<|And.intro (@bM.eq_1)<|And.intro (@bM.eq_2)<|And.intro (@bM.eq_3)<|And.intro (@bM.eq_4)<|And.intro (@bM.eq_5)<|And.intro (@bM.eq_6)<|And.intro (@bM.eq_7)<|And.intro (@bM.eq_8)<|And.intro (@bM.eq_9)<|And.intro (@bM.eq_10)<|And.intro (@bM.eq_11)<|And.intro (@bM.eq_12)<|And.intro (@bM.eq_13)<|And.intro (@bM.eq_14)<|And.intro (@bM.eq_15)<|And.intro (@bM.eq_16)<|And.intro (@bM.eq_17)<|And.intro (@bM.eq_18)<|And.intro (@bM.eq_19)<|And.intro (@bM.eq_20)<|And.intro (@bM.eq_21)<|And.intro (@bM.eq_22)<|And.intro (@bM.eq_23)<|And.intro (@bM.eq_24)<|And.intro (@bM.eq_25)<|And.intro (@bM.eq_26)<|And.intro (@bM.eq_27)<|And.intro (@bY.eq_1)<|And.intro (@bY.eq_2)<|And.intro (@dH.eq_1)<|And.intro (@ek.eq_1)<|And.intro (@ii.eq_1)<|And.intro (@ii.eq_2)<|And.intro (@ii.eq_3)<|And.intro (@frz.eq_1)<|And.intro (@il.eq_1)<|And.intro (@fx.eq_1)<|And.intro (@fx.eq_2)<|And.intro (@fx.eq_3)<|And.intro (@fx.eq_4)<|And.intro (@fx.eq_5)<|And.intro (@fx.eq_6)<|And.intro (@fx.eq_7)<|And.intro (@fx.eq_8)<|And.intro (@yt.eq_1)<|And.intro (@yt.eq_2)<|And.intro (@gq.eq_1)<|And.intro (@gq.eq_2)<|And.intro (@gq.eq_3)<|And.intro (@gq.eq_4)<|And.intro (@gq.eq_5)<|And.intro (@gq.eq_6)<|And.intro (@iJ.eq_1)<|And.intro (@iJ.eq_2)<|And.intro (@lF.eq_1)<|And.intro (@lF.eq_2)<|And.intro (@km.eq_1)<|And.intro (@km.eq_2)<|And.intro (@C6.eq_1)<|And.intro (@C6.eq_2)<|And.intro (@C6.eq_3)<|And.intro (@C6.eq_4)<|And.intro (@i5.eq_1)<|And.intro (@i5.eq_2)<|And.intro (@i5.eq_3)<|@i5.eq_4
def ZT:=And.intro (@ZD)<|And.intro (@Xb)<|And.intro (@cI.eq_1)<|And.intro (@cI.eq_2)<|And.intro (@cI.eq_3)<|And.intro (@cI.eq_4)<|And.intro (@cI.eq_5)<|And.intro (@cI.eq_6)<|And.intro (@cI.eq_7)<|And.intro (@eE.eq_1)<|And.intro (@eE.eq_2)<|And.intro (@eE.eq_3)<|And.intro (@eE.eq_4)<|And.intro (@eE.eq_5)<|@fR.eq_1
def ZX:=And.intro (@Bool.false_and)<|And.intro (@Bool.true_and)<|And.intro (@Bool.true_or)<|And.intro (@Bool.false_or)<|And.intro (@Bool.and_self)<|And.intro (@Bool.or_false)<|And.intro (@Bool.and_false)<|And.intro (@Bool.and_true)<|And.intro (@Bool.or_true)<|And.intro (@Bool.false_eq_true)<|And.intro (@Bool.not_true)<|And.intro (@Bool.not_false)<|And.intro (@List.all_cons.{0})<|And.intro (@List.drop_nil.{0})<|And.intro (@List.take_nil.{0})<|And.intro (@List.all_nil.{0})<|And.intro (@List.length_nil.{0})<|And.intro (@List.length_cons.{0})<|And.intro (@beq_self_eq_true.{0})<|And.intro (@List.drop_zero.{0})<|And.intro (@Option.map_some.{0,0})<|And.intro (@Option.bind_some.{0,0})<|And.intro (@Option.map_none.{0,0})<|And.intro (@Option.bind_none.{0,0})<|And.intro (@Bool.or_self)<|And.intro (@List.take_succ_cons.{0})<|And.intro (@List.drop_succ_cons.{0})<|And.intro (@List.take_zero.{0})<|And.intro (@Nat.zero_add)<|And.intro (@List.nil_append.{0})<|And.intro (@List.cons_append.{0})<|And.intro (@if_true.{1})<|And.intro (@if_false.{1})<|And.intro (@bj)<|And.intro (@oD)<|@bO
theorem tv:True:=trivial
theorem eB {α:Type} [BEq α] (a b:α):(a != b)=!(a == b):=rfl
theorem aQ {P:Prop}  (h:P:=by simp -implicitDefEqProofs (disch:=omega) only [ZS,seval,ZX]<;>first | rfl | exact Nat.le_refl _ | assumption | omega):P:=h
theorem yZ {P Q:Prop}  (q:Q) (h:Q→P:=by intro  q; simp -implicitDefEqProofs (disch:=omega) only [ZS,seval,ZX]; exact q):P:=h  q
theorem aX {p0 P:Prop} (h0:p0) (h:p0→P:=by intro h0; simp -implicitDefEqProofs (disch:=omega) only [ZS,seval,ZX,h0]<;>first | rfl | exact Nat.le_refl _ | assumption | omega):P:=h h0
theorem pJ {p0 P Q:Prop} (h0:p0) (q:Q) (h:p0→Q→P:=by intro h0 q; simp -implicitDefEqProofs (disch:=omega) only [ZS,seval,ZX,h0]; exact q):P:=h h0 q
theorem l9 {p0 p1 P:Prop} (h0:p0)(h1:p1) (h:p0→p1→P:=by intro h0 h1; simp -implicitDefEqProofs (disch:=omega) only [ZS,seval,ZX,h0,h1]<;>first | rfl | exact Nat.le_refl _ | assumption | omega):P:=h h0 h1
theorem BW {p0 p1 P Q:Prop} (h0:p0)(h1:p1) (q:Q) (h:p0→p1→Q→P:=by intro h0 h1 q; simp -implicitDefEqProofs (disch:=omega) only [ZS,seval,ZX,h0,h1]; exact q):P:=h h0 h1 q
theorem lR {p0 p1 p2 P:Prop} (h0:p0)(h1:p1)(h2:p2) (h:p0→p1→p2→P:=by intro h0 h1 h2; simp -implicitDefEqProofs (disch:=omega) only [ZS,seval,ZX,h0,h1,h2]<;>first | rfl | exact Nat.le_refl _ | assumption | omega):P:=h h0 h1 h2
theorem P7 {p0 p1 p2 P Q:Prop} (h0:p0)(h1:p1)(h2:p2) (q:Q) (h:p0→p1→p2→Q→P:=by intro h0 h1 h2 q; simp -implicitDefEqProofs (disch:=omega) only [ZS,seval,ZX,h0,h1,h2]; exact q):P:=h h0 h1 h2 q
theorem nI {p0 p1 p2 p3 P:Prop} (h0:p0)(h1:p1)(h2:p2)(h3:p3) (h:p0→p1→p2→p3→P:=by intro h0 h1 h2 h3; simp -implicitDefEqProofs (disch:=omega) only [ZS,seval,ZX,h0,h1,h2,h3]<;>first | rfl | exact Nat.le_refl _ | assumption | omega):P:=h h0 h1 h2 h3
theorem xz {p0 p1 p2 p3 P Q:Prop} (h0:p0)(h1:p1)(h2:p2)(h3:p3) (q:Q) (h:p0→p1→p2→p3→Q→P:=by intro h0 h1 h2 h3 q; simp -implicitDefEqProofs (disch:=omega) only [ZS,seval,ZX,h0,h1,h2,h3]; exact q):P:=h h0 h1 h2 h3 q
theorem tg {p0 p1 p2 p3 p4 P:Prop} (h0:p0)(h1:p1)(h2:p2)(h3:p3)(h4:p4) (h:p0→p1→p2→p3→p4→P:=by intro h0 h1 h2 h3 h4; simp -implicitDefEqProofs (disch:=omega) only [ZS,seval,ZX,h0,h1,h2,h3,h4]<;>first | rfl | exact Nat.le_refl _ | assumption | omega):P:=h h0 h1 h2 h3 h4
theorem wP {p0 p1 p2 p3 p4 P Q:Prop} (h0:p0)(h1:p1)(h2:p2)(h3:p3)(h4:p4) (q:Q) (h:p0→p1→p2→p3→p4→Q→P:=by intro h0 h1 h2 h3 h4 q; simp -implicitDefEqProofs (disch:=omega) only [ZS,seval,ZX,h0,h1,h2,h3,h4]; exact q):P:=h h0 h1 h2 h3 h4 q
theorem jK {p0 p1 p2 p3 p4 p5 P:Prop} (h0:p0)(h1:p1)(h2:p2)(h3:p3)(h4:p4)(h5:p5) (h:p0→p1→p2→p3→p4→p5→P:=by intro h0 h1 h2 h3 h4 h5; simp -implicitDefEqProofs (disch:=omega) only [ZS,seval,ZX,h0,h1,h2,h3,h4,h5]<;>first | rfl | exact Nat.le_refl _ | assumption | omega):P:=h h0 h1 h2 h3 h4 h5
theorem u0 {p0 p1 p2 p3 p4 p5 P Q:Prop} (h0:p0)(h1:p1)(h2:p2)(h3:p3)(h4:p4)(h5:p5) (q:Q) (h:p0→p1→p2→p3→p4→p5→Q→P:=by intro h0 h1 h2 h3 h4 h5 q; simp -implicitDefEqProofs (disch:=omega) only [ZS,seval,ZX,h0,h1,h2,h3,h4,h5]; exact q):P:=h h0 h1 h2 h3 h4 h5 q
theorem tD {p0 p1 p2 p3 p4 p5 p6 P:Prop} (h0:p0)(h1:p1)(h2:p2)(h3:p3)(h4:p4)(h5:p5)(h6:p6) (h:p0→p1→p2→p3→p4→p5→p6→P:=by intro h0 h1 h2 h3 h4 h5 h6; simp -implicitDefEqProofs (disch:=omega) only [ZS,seval,ZX,h0,h1,h2,h3,h4,h5,h6]<;>first | rfl | exact Nat.le_refl _ | assumption | omega):P:=h h0 h1 h2 h3 h4 h5 h6
theorem MS {p0 p1 p2 p3 p4 p5 p6 P Q:Prop} (h0:p0)(h1:p1)(h2:p2)(h3:p3)(h4:p4)(h5:p5)(h6:p6) (q:Q) (h:p0→p1→p2→p3→p4→p5→p6→Q→P:=by intro h0 h1 h2 h3 h4 h5 h6 q; simp -implicitDefEqProofs (disch:=omega) only [ZS,seval,ZX,h0,h1,h2,h3,h4,h5,h6]; exact q):P:=h h0 h1 h2 h3 h4 h5 h6 q
theorem vY {p0 p1 p2 p3 p4 p5 p6 p7 P:Prop} (h0:p0)(h1:p1)(h2:p2)(h3:p3)(h4:p4)(h5:p5)(h6:p6)(h7:p7) (h:p0→p1→p2→p3→p4→p5→p6→p7→P:=by intro h0 h1 h2 h3 h4 h5 h6 h7; simp -implicitDefEqProofs (disch:=omega) only [ZS,seval,ZX,h0,h1,h2,h3,h4,h5,h6,h7]<;>first | rfl | exact Nat.le_refl _ | assumption | omega):P:=h h0 h1 h2 h3 h4 h5 h6 h7
theorem Fe {p0 p1 p2 p3 p4 p5 p6 p7 P Q:Prop} (h0:p0)(h1:p1)(h2:p2)(h3:p3)(h4:p4)(h5:p5)(h6:p6)(h7:p7) (q:Q) (h:p0→p1→p2→p3→p4→p5→p6→p7→Q→P:=by intro h0 h1 h2 h3 h4 h5 h6 h7 q; simp -implicitDefEqProofs (disch:=omega) only [ZS,seval,ZX,h0,h1,h2,h3,h4,h5,h6,h7]; exact q):P:=h h0 h1 h2 h3 h4 h5 h6 h7 q
theorem wF {p0 p1 p2 p3 p4 p5 p6 p7 p8 P:Prop} (h0:p0)(h1:p1)(h2:p2)(h3:p3)(h4:p4)(h5:p5)(h6:p6)(h7:p7)(h8:p8) (h:p0→p1→p2→p3→p4→p5→p6→p7→p8→P:=by intro h0 h1 h2 h3 h4 h5 h6 h7 h8; simp -implicitDefEqProofs (disch:=omega) only [ZS,seval,ZX,h0,h1,h2,h3,h4,h5,h6,h7,h8]<;>first | rfl | exact Nat.le_refl _ | assumption | omega):P:=h h0 h1 h2 h3 h4 h5 h6 h7 h8
theorem Di {p0 p1 p2 p3 p4 p5 p6 p7 p8 P Q:Prop} (h0:p0)(h1:p1)(h2:p2)(h3:p3)(h4:p4)(h5:p5)(h6:p6)(h7:p7)(h8:p8) (q:Q) (h:p0→p1→p2→p3→p4→p5→p6→p7→p8→Q→P:=by intro h0 h1 h2 h3 h4 h5 h6 h7 h8 q; simp -implicitDefEqProofs (disch:=omega) only [ZS,seval,ZX,h0,h1,h2,h3,h4,h5,h6,h7,h8]; exact q):P:=h h0 h1 h2 h3 h4 h5 h6 h7 h8 q
theorem rG {p0 p1 p2 p3 p4 p5 p6 p7 p8 p9 P:Prop} (h0:p0)(h1:p1)(h2:p2)(h3:p3)(h4:p4)(h5:p5)(h6:p6)(h7:p7)(h8:p8)(h9:p9) (h:p0→p1→p2→p3→p4→p5→p6→p7→p8→p9→P:=by intro h0 h1 h2 h3 h4 h5 h6 h7 h8 h9; simp -implicitDefEqProofs (disch:=omega) only [ZS,seval,ZX,h0,h1,h2,h3,h4,h5,h6,h7,h8,h9]<;>first | rfl | exact Nat.le_refl _ | assumption | omega):P:=h h0 h1 h2 h3 h4 h5 h6 h7 h8 h9
theorem wA {p0 p1 p2 p3 p4 p5 p6 p7 p8 p9 P Q:Prop} (h0:p0)(h1:p1)(h2:p2)(h3:p3)(h4:p4)(h5:p5)(h6:p6)(h7:p7)(h8:p8)(h9:p9) (q:Q) (h:p0→p1→p2→p3→p4→p5→p6→p7→p8→p9→Q→P:=by intro h0 h1 h2 h3 h4 h5 h6 h7 h8 h9 q; simp -implicitDefEqProofs (disch:=omega) only [ZS,seval,ZX,h0,h1,h2,h3,h4,h5,h6,h7,h8,h9]; exact q):P:=h h0 h1 h2 h3 h4 h5 h6 h7 h8 h9 q
theorem nq {p0 p1 p2 p3 p4 p5 p6 p7 p8 p9 i3 i4 P:Prop} (h0:p0)(h1:p1)(h2:p2)(h3:p3)(h4:p4)(h5:p5)(h6:p6)(h7:p7)(h8:p8)(h9:p9)(h10:i3)(h11:i4) (h:p0→p1→p2→p3→p4→p5→p6→p7→p8→p9→i3→i4→P:=by intro h0 h1 h2 h3 h4 h5 h6 h7 h8 h9 h10 h11; simp -implicitDefEqProofs (disch:=omega) only [ZS,seval,ZX,h0,h1,h2,h3,h4,h5,h6,h7,h8,h9,h10,h11]<;>first | rfl | exact Nat.le_refl _ | assumption | omega):P:=h h0 h1 h2 h3 h4 h5 h6 h7 h8 h9 h10 h11
theorem mT {p0 p1 p2 p3 p4 p5 p6 p7 p8 p9 i3 i4 P Q:Prop} (h0:p0)(h1:p1)(h2:p2)(h3:p3)(h4:p4)(h5:p5)(h6:p6)(h7:p7)(h8:p8)(h9:p9)(h10:i3)(h11:i4) (q:Q) (h:p0→p1→p2→p3→p4→p5→p6→p7→p8→p9→i3→i4→Q→P:=by intro h0 h1 h2 h3 h4 h5 h6 h7 h8 h9 h10 h11 q; simp -implicitDefEqProofs (disch:=omega) only [ZS,seval,ZX,h0,h1,h2,h3,h4,h5,h6,h7,h8,h9,h10,h11]; exact q):P:=h h0 h1 h2 h3 h4 h5 h6 h7 h8 h9 h10 h11 q
theorem qB {p0 p1 p2 p3 p4 p5 p6 p7 p8 p9 i3 i4 jb iQ P:Prop} (h0:p0)(h1:p1)(h2:p2)(h3:p3)(h4:p4)(h5:p5)(h6:p6)(h7:p7)(h8:p8)(h9:p9)(h10:i3)(h11:i4)(h12:jb)(h13:iQ) (h:p0→p1→p2→p3→p4→p5→p6→p7→p8→p9→i3→i4→jb→iQ→P:=by intro h0 h1 h2 h3 h4 h5 h6 h7 h8 h9 h10 h11 h12 h13; simp -implicitDefEqProofs (disch:=omega) only [ZS,seval,ZX,h0,h1,h2,h3,h4,h5,h6,h7,h8,h9,h10,h11,h12,h13]<;>first | rfl | exact Nat.le_refl _ | assumption | omega):P:=h h0 h1 h2 h3 h4 h5 h6 h7 h8 h9 h10 h11 h12 h13
theorem pK {p0 p1 p2 p3 p4 p5 p6 p7 p8 p9 i3 i4 jb iQ P Q:Prop} (h0:p0)(h1:p1)(h2:p2)(h3:p3)(h4:p4)(h5:p5)(h6:p6)(h7:p7)(h8:p8)(h9:p9)(h10:i3)(h11:i4)(h12:jb)(h13:iQ) (q:Q) (h:p0→p1→p2→p3→p4→p5→p6→p7→p8→p9→i3→i4→jb→iQ→Q→P:=by intro h0 h1 h2 h3 h4 h5 h6 h7 h8 h9 h10 h11 h12 h13 q; simp -implicitDefEqProofs (disch:=omega) only [ZS,seval,ZX,h0,h1,h2,h3,h4,h5,h6,h7,h8,h9,h10,h11,h12,h13]; exact q):P:=h h0 h1 h2 h3 h4 h5 h6 h7 h8 h9 h10 h11 h12 h13 q
theorem vj {p0 p1 p2 p3 p4 p5 p6 p7 p8 p9 i3 i4 jb iQ p14 p15 P:Prop} (h0:p0)(h1:p1)(h2:p2)(h3:p3)(h4:p4)(h5:p5)(h6:p6)(h7:p7)(h8:p8)(h9:p9)(h10:i3)(h11:i4)(h12:jb)(h13:iQ)(h14:p14)(h15:p15) (h:p0→p1→p2→p3→p4→p5→p6→p7→p8→p9→i3→i4→jb→iQ→p14→p15→P:=by intro h0 h1 h2 h3 h4 h5 h6 h7 h8 h9 h10 h11 h12 h13 h14 h15; simp -implicitDefEqProofs (disch:=omega) only [ZS,seval,ZX,h0,h1,h2,h3,h4,h5,h6,h7,h8,h9,h10,h11,h12,h13,h14,h15]<;>first | rfl | exact Nat.le_refl _ | assumption | omega):P:=h h0 h1 h2 h3 h4 h5 h6 h7 h8 h9 h10 h11 h12 h13 h14 h15
theorem ya {p0 p1 p2 p3 p4 p5 p6 p7 p8 p9 i3 i4 jb iQ p14 p15 P Q:Prop} (h0:p0)(h1:p1)(h2:p2)(h3:p3)(h4:p4)(h5:p5)(h6:p6)(h7:p7)(h8:p8)(h9:p9)(h10:i3)(h11:i4)(h12:jb)(h13:iQ)(h14:p14)(h15:p15) (q:Q) (h:p0→p1→p2→p3→p4→p5→p6→p7→p8→p9→i3→i4→jb→iQ→p14→p15→Q→P:=by intro h0 h1 h2 h3 h4 h5 h6 h7 h8 h9 h10 h11 h12 h13 h14 h15 q; simp -implicitDefEqProofs (disch:=omega) only [ZS,seval,ZX,h0,h1,h2,h3,h4,h5,h6,h7,h8,h9,h10,h11,h12,h13,h14,h15]; exact q):P:=h h0 h1 h2 h3 h4 h5 h6 h7 h8 h9 h10 h11 h12 h13 h14 h15 q
theorem sV {p0 p1 p2 p3 p4 p5 p6 p7 p8 p9 i3 i4 jb iQ p14 p15 p16 p17 lu P:Prop} (h0:p0)(h1:p1)(h2:p2)(h3:p3)(h4:p4)(h5:p5)(h6:p6)(h7:p7)(h8:p8)(h9:p9)(h10:i3)(h11:i4)(h12:jb)(h13:iQ)(h14:p14)(h15:p15)(h16:p16)(h17:p17)(h18:lu) (h:p0→p1→p2→p3→p4→p5→p6→p7→p8→p9→i3→i4→jb→iQ→p14→p15→p16→p17→lu→P:=by intro h0 h1 h2 h3 h4 h5 h6 h7 h8 h9 h10 h11 h12 h13 h14 h15 h16 h17 h18; simp -implicitDefEqProofs (disch:=omega) only [ZS,seval,ZX,h0,h1,h2,h3,h4,h5,h6,h7,h8,h9,h10,h11,h12,h13,h14,h15,h16,h17,h18]<;>first | rfl | exact Nat.le_refl _ | assumption | omega):P:=h h0 h1 h2 h3 h4 h5 h6 h7 h8 h9 h10 h11 h12 h13 h14 h15 h16 h17 h18
theorem MP {p0 p1 p2 p3 p4 p5 p6 p7 p8 p9 i3 i4 jb iQ p14 p15 p16 p17 lu P Q:Prop} (h0:p0)(h1:p1)(h2:p2)(h3:p3)(h4:p4)(h5:p5)(h6:p6)(h7:p7)(h8:p8)(h9:p9)(h10:i3)(h11:i4)(h12:jb)(h13:iQ)(h14:p14)(h15:p15)(h16:p16)(h17:p17)(h18:lu) (q:Q) (h:p0→p1→p2→p3→p4→p5→p6→p7→p8→p9→i3→i4→jb→iQ→p14→p15→p16→p17→lu→Q→P:=by intro h0 h1 h2 h3 h4 h5 h6 h7 h8 h9 h10 h11 h12 h13 h14 h15 h16 h17 h18 q; simp -implicitDefEqProofs (disch:=omega) only [ZS,seval,ZX,h0,h1,h2,h3,h4,h5,h6,h7,h8,h9,h10,h11,h12,h13,h14,h15,h16,h17,h18]; exact q):P:=h h0 h1 h2 h3 h4 h5 h6 h7 h8 h9 h10 h11 h12 h13 h14 h15 h16 h17 h18 q
theorem kG {p0 p1 p2 p3 p4 p5 p6 p7 p8 p9 i3 i4 jb iQ p14 p15 p16 p17 lu pM pG qh P:Prop} (h0:p0)(h1:p1)(h2:p2)(h3:p3)(h4:p4)(h5:p5)(h6:p6)(h7:p7)(h8:p8)(h9:p9)(h10:i3)(h11:i4)(h12:jb)(h13:iQ)(h14:p14)(h15:p15)(h16:p16)(h17:p17)(h18:lu)(h19:pM)(h20:pG)(h21:qh) (h:p0→p1→p2→p3→p4→p5→p6→p7→p8→p9→i3→i4→jb→iQ→p14→p15→p16→p17→lu→pM→pG→qh→P:=by intro h0 h1 h2 h3 h4 h5 h6 h7 h8 h9 h10 h11 h12 h13 h14 h15 h16 h17 h18 h19 h20 h21; simp -implicitDefEqProofs (disch:=omega) only [ZS,seval,ZX,h0,h1,h2,h3,h4,h5,h6,h7,h8,h9,h10,h11,h12,h13,h14,h15,h16,h17,h18,h19,h20,h21]<;>first | rfl | exact Nat.le_refl _ | assumption | omega):P:=h h0 h1 h2 h3 h4 h5 h6 h7 h8 h9 h10 h11 h12 h13 h14 h15 h16 h17 h18 h19 h20 h21
theorem Vp {p0 p1 p2 p3 p4 p5 p6 p7 p8 p9 i3 i4 jb iQ p14 p15 p16 p17 lu pM pG qh P Q:Prop} (h0:p0)(h1:p1)(h2:p2)(h3:p3)(h4:p4)(h5:p5)(h6:p6)(h7:p7)(h8:p8)(h9:p9)(h10:i3)(h11:i4)(h12:jb)(h13:iQ)(h14:p14)(h15:p15)(h16:p16)(h17:p17)(h18:lu)(h19:pM)(h20:pG)(h21:qh) (q:Q) (h:p0→p1→p2→p3→p4→p5→p6→p7→p8→p9→i3→i4→jb→iQ→p14→p15→p16→p17→lu→pM→pG→qh→Q→P:=by intro h0 h1 h2 h3 h4 h5 h6 h7 h8 h9 h10 h11 h12 h13 h14 h15 h16 h17 h18 h19 h20 h21 q; simp -implicitDefEqProofs (disch:=omega) only [ZS,seval,ZX,h0,h1,h2,h3,h4,h5,h6,h7,h8,h9,h10,h11,h12,h13,h14,h15,h16,h17,h18,h19,h20,h21]; exact q):P:=h h0 h1 h2 h3 h4 h5 h6 h7 h8 h9 h10 h11 h12 h13 h14 h15 h16 h17 h18 h19 h20 h21 q
theorem gn {p0 p1 p2 p3 p4 p5 p6 p7 p8 p9 i3 i4 jb iQ p14 p15 p16 p17 lu pM pG qh tU s6 s5 s7 P:Prop} (h0:p0)(h1:p1)(h2:p2)(h3:p3)(h4:p4)(h5:p5)(h6:p6)(h7:p7)(h8:p8)(h9:p9)(h10:i3)(h11:i4)(h12:jb)(h13:iQ)(h14:p14)(h15:p15)(h16:p16)(h17:p17)(h18:lu)(h19:pM)(h20:pG)(h21:qh)(h22:tU)(h23:s6)(h24:s5)(h25:s7) (h:p0→p1→p2→p3→p4→p5→p6→p7→p8→p9→i3→i4→jb→iQ→p14→p15→p16→p17→lu→pM→pG→qh→tU→s6→s5→s7→P:=by intro h0 h1 h2 h3 h4 h5 h6 h7 h8 h9 h10 h11 h12 h13 h14 h15 h16 h17 h18 h19 h20 h21 h22 h23 h24 h25; simp -implicitDefEqProofs (disch:=omega) only [ZS,seval,ZX,h0,h1,h2,h3,h4,h5,h6,h7,h8,h9,h10,h11,h12,h13,h14,h15,h16,h17,h18,h19,h20,h21,h22,h23,h24,h25]<;>first | rfl | exact Nat.le_refl _ | assumption | omega):P:=h h0 h1 h2 h3 h4 h5 h6 h7 h8 h9 h10 h11 h12 h13 h14 h15 h16 h17 h18 h19 h20 h21 h22 h23 h24 h25
theorem KZ {p0 p1 p2 p3 p4 p5 p6 p7 p8 p9 i3 i4 jb iQ p14 p15 p16 p17 lu pM pG qh tU s6 s5 s7 P Q:Prop} (h0:p0)(h1:p1)(h2:p2)(h3:p3)(h4:p4)(h5:p5)(h6:p6)(h7:p7)(h8:p8)(h9:p9)(h10:i3)(h11:i4)(h12:jb)(h13:iQ)(h14:p14)(h15:p15)(h16:p16)(h17:p17)(h18:lu)(h19:pM)(h20:pG)(h21:qh)(h22:tU)(h23:s6)(h24:s5)(h25:s7) (q:Q) (h:p0→p1→p2→p3→p4→p5→p6→p7→p8→p9→i3→i4→jb→iQ→p14→p15→p16→p17→lu→pM→pG→qh→tU→s6→s5→s7→Q→P:=by intro h0 h1 h2 h3 h4 h5 h6 h7 h8 h9 h10 h11 h12 h13 h14 h15 h16 h17 h18 h19 h20 h21 h22 h23 h24 h25 q; simp -implicitDefEqProofs (disch:=omega) only [ZS,seval,ZX,h0,h1,h2,h3,h4,h5,h6,h7,h8,h9,h10,h11,h12,h13,h14,h15,h16,h17,h18,h19,h20,h21,h22,h23,h24,h25]; exact q):P:=h h0 h1 h2 h3 h4 h5 h6 h7 h8 h9 h10 h11 h12 h13 h14 h15 h16 h17 h18 h19 h20 h21 h22 h23 h24 h25 q
theorem JU {p0 p1 p2 p3 p4 p5 p6 p7 p8 p9 i3 i4 jb iQ p14 p15 p16 p17 lu pM pG qh tU s6 s5 s7 zb Ae DN BO BN DU P:Prop} (h0:p0)(h1:p1)(h2:p2)(h3:p3)(h4:p4)(h5:p5)(h6:p6)(h7:p7)(h8:p8)(h9:p9)(h10:i3)(h11:i4)(h12:jb)(h13:iQ)(h14:p14)(h15:p15)(h16:p16)(h17:p17)(h18:lu)(h19:pM)(h20:pG)(h21:qh)(h22:tU)(h23:s6)(h24:s5)(h25:s7)(h26:zb)(h27:Ae)(h28:DN)(h29:BO)(h30:BN)(h31:DU) (h:p0→p1→p2→p3→p4→p5→p6→p7→p8→p9→i3→i4→jb→iQ→p14→p15→p16→p17→lu→pM→pG→qh→tU→s6→s5→s7→zb→Ae→DN→BO→BN→DU→P:=by intro h0 h1 h2 h3 h4 h5 h6 h7 h8 h9 h10 h11 h12 h13 h14 h15 h16 h17 h18 h19 h20 h21 h22 h23 h24 h25 h26 h27 h28 h29 h30 h31; simp -implicitDefEqProofs (disch:=omega) only [ZS,seval,ZX,h0,h1,h2,h3,h4,h5,h6,h7,h8,h9,h10,h11,h12,h13,h14,h15,h16,h17,h18,h19,h20,h21,h22,h23,h24,h25,h26,h27,h28,h29,h30,h31]<;>first | rfl | exact Nat.le_refl _ | assumption | omega):P:=h h0 h1 h2 h3 h4 h5 h6 h7 h8 h9 h10 h11 h12 h13 h14 h15 h16 h17 h18 h19 h20 h21 h22 h23 h24 h25 h26 h27 h28 h29 h30 h31
theorem tN {p0 p1 p2 p3 p4 p5 p6 p7 p8 p9 i3 i4 jb iQ p14 p15 p16 p17 lu pM pG qh tU s6 s5 s7 zb Ae DN BO BN DU P Q:Prop} (h0:p0)(h1:p1)(h2:p2)(h3:p3)(h4:p4)(h5:p5)(h6:p6)(h7:p7)(h8:p8)(h9:p9)(h10:i3)(h11:i4)(h12:jb)(h13:iQ)(h14:p14)(h15:p15)(h16:p16)(h17:p17)(h18:lu)(h19:pM)(h20:pG)(h21:qh)(h22:tU)(h23:s6)(h24:s5)(h25:s7)(h26:zb)(h27:Ae)(h28:DN)(h29:BO)(h30:BN)(h31:DU) (q:Q) (h:p0→p1→p2→p3→p4→p5→p6→p7→p8→p9→i3→i4→jb→iQ→p14→p15→p16→p17→lu→pM→pG→qh→tU→s6→s5→s7→zb→Ae→DN→BO→BN→DU→Q→P:=by intro h0 h1 h2 h3 h4 h5 h6 h7 h8 h9 h10 h11 h12 h13 h14 h15 h16 h17 h18 h19 h20 h21 h22 h23 h24 h25 h26 h27 h28 h29 h30 h31 q; simp -implicitDefEqProofs (disch:=omega) only [ZS,seval,ZX,h0,h1,h2,h3,h4,h5,h6,h7,h8,h9,h10,h11,h12,h13,h14,h15,h16,h17,h18,h19,h20,h21,h22,h23,h24,h25,h26,h27,h28,h29,h30,h31]; exact q):P:=h h0 h1 h2 h3 h4 h5 h6 h7 h8 h9 h10 h11 h12 h13 h14 h15 h16 h17 h18 h19 h20 h21 h22 h23 h24 h25 h26 h27 h28 h29 h30 h31 q
section
variable {P:Program}{Γ:Nat→Option fJ}{ext:aq}
theorem om {P:Prop} (h:P:=by omega):P:=h
theorem dt {p:Prop} [Decidable p] (h:p:=by omega):decide p=true:=decide_eq_true h
theorem df {p:Prop} [Decidable p] (h:¬ p:=by omega):decide p=false:=decide_eq_false h
theorem bf {a b:Nat} (h:a≠b:=by omega):(a == b)=false:=beq_eq_false_iff_ne.2 h
abbrev iN (a:Nat):PV:=.sc (.int .i64 (a:Int))
abbrev sS (a:ByteArray):PV:=.sc (.string a)
end
theorem q1 (fn:fJ) (r:Nat) {P:Program}{Γ:Nat→Option fJ}{ext:aq}{g:Nat}{args:List PV}{s:PS}{u:Value} (h:Er (fun f' s'=>s'=⟨s.h,s.n,s.n⟩∧f' r=.sc u) (aN P Γ ext fn.body (br args 0) ⟨s.h,s.n,s.n⟩)) (hg:Γ g=some fn:=by rfl) (hl:args.length≤fn.nt:=by exact Nat.le_of_ble_eq_true rfl) (hr:fn.res=[.tmp r]:=by rfl) (hk:fn.keep=false:=by rfl):aD P Γ ext g args s=some (.sc u,s):=vg hg hl hr hk h
section
variable {P:Program}
theorem tZ {α:Type} (a:α):bx P (pure a:Sem α)=some a:=rfl
theorem oK {d t:Nat}{xs ys:Array Value}{fs:Array Field} (ht:P.underlying t=some (.struct fs)) (hp:P.stoodInHeld t=false):bx P (Op.equalIn (d + 1) t (.agg xs) (.agg ys))=bx P (Op.eqFields d xs ys fs.toList):=by
 simp only [Op.equalIn,bG,fp ht,Option.bind_some];rw [show bx P program=some P from rfl];simp only [Option.bind_some,hp,Bool.false_eq_true,if_false];rw [← Array.forIn_toList];generalize fs.toList=l;clear ht
 induction l with
 | nil=>simp [Op.eqFields,bG,tZ]
 | cons f l ih=>
  simp only [List.forIn_cons,Op.eqFields];split
  ·simp only [bG];cases bx P (part f.type xs f.offset) with
   | none=>rfl
   | some a=>
    cases bx P (part f.type ys f.offset) with
    | none=>rfl
    | some b=>
     simp only [Option.bind_some];cases bx P (Op.equalIn d f.type a b) with
     | none=>rfl
     | some r=>
      cases r
      ·simp [bG,tZ]
      ·simp only [Option.bind_some,Bool.not_true,Bool.false_eq_true,if_false,tZ];rw [← ih,bG]
  ·simp only [bG,tZ,Option.bind_some];rw [← ih,bG]
theorem EV {t i:Nat}{xs:Array Value}{d:TypeDesc}{v:Value} (hu:P.underlying t=some d) (ha:jl (some d)=false) (hv:xs[i]?=some v):bx P (part t xs i)=some v:=by
 have h1:bx P (isAgg t)=some false:=by
  unfold isAgg;rw [bG,fp hu];cases d<;>first | rfl | cases ha
 unfold part;rw [bG,h1];simp only [Option.bind_some,Bool.false_eq_true,if_false,hv];rfl
theorem PR {d:Nat}{f:Field}{fs:List Field}{xs ys:Array Value}{a b:Value}{r:Bool}{dd:TypeDesc} (hn:f.name≠ "_") (hu:P.underlying f.type=some dd) (ha:jl (some dd)=false) (h1:xs[f.offset]?=some a) (h2:ys[f.offset]?=some b) (he:bx P (Op.equalIn d f.type a b)=some r) :
  bx P (Op.eqFields d xs ys (f :: fs))=if r then bx P (Op.eqFields d xs ys fs) else some false:=by
 simp only [Op.eqFields];rw [if_pos hn];simp only [bG,EV hu ha h1,EV hu ha h2,he,Option.bind_some];cases r<;>rfl
inductive Uz (P:Program) (d:Nat) (xs ys:Array Value):List Field→List Bool→Prop
 | nil:Uz P d xs ys [] []
 | cons (f:Field) (fs:List Field) (r:Bool) (rs:List Bool) (h:f.name≠ "_"∧∃dd a b,P.underlying f.type=some dd∧jl (some dd)=false∧xs[f.offset]?=some a∧ys[f.offset]?=some b∧bx P (Op.equalIn d f.type a b)=some r) (t:Uz P d xs ys fs rs):Uz P d xs ys (f :: fs) (r :: rs)
def yM:List Bool→Bool
 | []=>true
 | [r]=>r
 | r :: rs=>r && yM rs
theorem GN (r:Bool) (rs:List Bool):yM (r :: rs)=(r && yM rs):=by
 cases rs with
 | nil=>simp [yM]
 | cons=>rfl
theorem oV {d:Nat}{xs ys:Array Value}{fs:List Field}{rs:List Bool} (h:Uz P d xs ys fs rs):bx P (Op.eqFields d xs ys fs)=some (yM rs):=by
 induction h with
 | nil=>rfl
 | cons f fs r rs h _ ih=>
  obtain⟨hn,dd,a,b,hu,ha,h1,h2,he⟩:=h;rw [PR hn hu ha h1 h2 he,ih,GN];cases r<;>rfl
theorem lH {d t:Nat} (hu:P.underlying t=some .string) (a b:ByteArray):bx P (Op.equalIn (d + 1) t (.string a) (.string b))=some (a.toList == b.toList):=by
 simp only [Op.equalIn,bG,fp hu,Option.bind_some];rw [← beq_toListBytes];rfl
theorem C5 {d t:Nat}{k k':IntKind} (hu:P.underlying t=some (.int k')) (a b:Int):bx P (Op.equalIn (d + 1) t (.int k a) (.int k b))=some (a == b):=by
 simp only [Op.equalIn,bG,fp hu,Option.bind_some,if_true];rfl
theorem zQ {d t:Nat} (hu:P.underlying t=some .bool) (a b:Bool):bx P (Op.equalIn (d + 1) t (.bool a) (.bool b))=some (a == b):=by
 simp only [Op.equalIn,bG,fp hu,Option.bind_some];rfl
theorem rC {t:Nat}{x y:Operand}{xs ys:Array Value}{r:Bool} (hg:P.eqGuardType P.depth t=false) (he:bx P (Op.equalIn 10000 t (.agg xs) (.agg ys))=some r):qF P .neq t x y (.agg xs) (.agg ys)=some (.bool (!r))∧qF P .eql t x y (.agg xs) (.agg ys)=some (.bool r):=by
 have g1:bx P (eqGuard .neq t x y (.agg xs) (.agg ys))=some ():=by
  unfold eqGuard;simp only [Bool.not_true,Bool.false_eq_true,if_false,bG];rw [show bx P program=some P from rfl];simp only [Option.bind_some,hg,Bool.not_false,if_true];rfl
 have g2:bx P (eqGuard .eql t x y (.agg xs) (.agg ys))=some ():=by
  unfold eqGuard;simp only [Bool.not_true,Bool.false_eq_true,if_false,bG];rw [show bx P program=some P from rfl];simp only [Option.bind_some,hg,Bool.not_false,if_true];rfl
 unfold qF;rw [bG,bG,g1,g2];simp only [Option.bind_some,binOp];have h2:bx P (Op.equal t (.agg xs) (.agg ys))=some r:=he;simp only [bG,h2,Option.bind_some];exact⟨rfl,rfl⟩
end
end Go.PE
namespace Go.Proofs.YtgkggocjoolciaaGreatDoor
open Go Go.EvL Go.PE
variable {ext:aq}
structure ar where
 kind:Int
 text:ByteArray
 op:Int
 colon:Bool
 parts:PV
def ar.cells (x:ar):List PV:=[.sc (.int .i64 x.kind),.sc (.string x.text),.sc (.int .i64 x.op),.sc (.bool x.colon),x.parts]
theorem ar.len (x:ar):x.cells.length=5:=(rfl)
def ar.eqB (x y:ar):Bool:=x.kind == y.kind && (x.text.toList == y.text.toList && (x.op == y.op && x.colon == y.colon))
def oY:aW:=(.seq (.draw [(⟨some 19,.mv (.tmp 0),none⟩,[0],[]),
       (⟨some 20,.mv (.tmp 5),none⟩,[5],[0]),
       (⟨some 21,.iaddr 5 (.tmp 19) (.tmp 20),none⟩,[19,20],[]),
       (⟨some 22,.load 150 true 5 (.tmp 21),none⟩,[21],[]),
       (⟨some 23,.mv (.tmp 1),none⟩,[1],[3,2,1,0]),
       (⟨some 24,.mv (.tmp 5),none⟩,[5],[4,3,2,1,0]),
       (⟨some 25,.iaddr 5 (.tmp 23) (.tmp 24),none⟩,[23,24],[3,2,1,0]),
       (⟨some 26,.load 150 true 5 (.tmp 25),none⟩,[25],[3,2,1,0]),
       (⟨some 6,.alloc 150 (.agg #[(.int .i64 0),(.string ⟨#[]⟩),(.int .i64 0),(.bool false),(.slice none 0 0)]),none⟩,[],[7,6,5,4,3,2,1,0]),
       (⟨some 7,.alloc 150 (.agg #[(.int .i64 0),(.string ⟨#[]⟩),(.int .i64 0),(.bool false),(.slice none 0 0)]),none⟩,[],[8,7,6,5,4,3,2,1,0]),
       (⟨none,.store 150 5 (.tmp 6) (.tmp 22),none⟩,[6,22],[7,6,5,4]),
       (⟨none,.store 150 5 (.tmp 7) (.tmp 26),none⟩,[7,26],[])])
     (.seq (.reg [⟨some 27,.faddr 0 (.tmp 6),none⟩,
       ⟨some 28,.load 3 false 1 (.tmp 27),none⟩,
       ⟨some 29,.faddr 0 (.tmp 7),none⟩,
       ⟨some 30,.load 3 false 1 (.tmp 29),none⟩,
       ⟨some 31,.bin .neq 3 (.tmp 28) (.tmp 30),none⟩,
       ⟨some 32,.mv (.tmp 31),none⟩,
       ⟨some 33,.faddr 1 (.tmp 6),(some (32,false))⟩,
       ⟨some 34,.load 9 false 1 (.tmp 33),(some (32,false))⟩,
       ⟨some 35,.faddr 1 (.tmp 7),(some (32,false))⟩,
       ⟨some 36,.load 9 false 1 (.tmp 35),(some (32,false))⟩,
       ⟨some 37,.bin .neq 9 (.tmp 34) (.tmp 36),(some (32,false))⟩,
       ⟨some 38,.pick (.tmp 32) (.const (.bool true)) (.tmp 37),none⟩,
       ⟨some 39,.mv (.tmp 38),none⟩,
       ⟨some 40,.faddr 2 (.tmp 6),(some (39,false))⟩,
       ⟨some 41,.load 3 false 1 (.tmp 40),(some (39,false))⟩,
       ⟨some 42,.faddr 2 (.tmp 7),(some (39,false))⟩,
       ⟨some 43,.load 3 false 1 (.tmp 42),(some (39,false))⟩,
       ⟨some 44,.bin .neq 3 (.tmp 41) (.tmp 43),(some (39,false))⟩,
       ⟨some 45,.pick (.tmp 39) (.const (.bool true)) (.tmp 44),none⟩,
       ⟨some 46,.mv (.tmp 45),none⟩,
       ⟨some 47,.faddr 3 (.tmp 6),(some (46,false))⟩,
       ⟨some 48,.load 4 false 1 (.tmp 47),(some (46,false))⟩,
       ⟨some 49,.faddr 3 (.tmp 7),(some (46,false))⟩,
       ⟨some 50,.load 4 false 1 (.tmp 49),(some (46,false))⟩,
       ⟨some 51,.bin .neq 4 (.tmp 48) (.tmp 50),(some (46,false))⟩,
       ⟨some 52,.pick (.tmp 46) (.const (.bool true)) (.tmp 51),none⟩,
       ⟨some 53,.mv (.tmp 52),none⟩,
       ⟨some 54,.faddr 4 (.tmp 6),(some (53,false))⟩,
       ⟨some 55,.load 95 false 1 (.tmp 54),(some (53,false))⟩,
       ⟨some 56,.faddr 4 (.tmp 7),(some (53,false))⟩,
       ⟨some 57,.load 95 false 1 (.tmp 56),(some (53,false))⟩,
       ⟨some 58,.call (.func 149) [(.tmp 55),(.tmp 57)],(some (53,false))⟩,
       ⟨some 59,.un .not (.tmp 58),(some (53,false))⟩,
       ⟨some 60,.pick (.tmp 53) (.const (.bool true)) (.tmp 59),none⟩])
     (.cond (.tmp 60)
      (.seq (.reg [⟨some 4,.mv (.const (.bool false)),none⟩])
      .ret)
      (.skip))))
theorem Ro:Sq=xI 61 oY:=rfl
theorem zL:ei Γ 149=true:=(rfl)
theorem Rw (x y:ar) (hx:cL x.parts=true) (hy:cL y.parts=true) (r:Bool) (h:∀s,aD Tryz.prog Γ ext 149 [x.parts,y.parts] s=some (.sc (.bool r),s)) {l m:Option (List ar)}{i:Nat} (hl:(l.getD [])[i]?=some x) (hm:(m.getD [])[i]?=some y) (f:aR) (s:PS) (hin:pS 150 ar.cells l m i f) :
  ∃f' s',aN Tryz.prog Γ ext (.block 1 oY) f s=some (if (x.eqB y && r) then (.normal,f',s') else (.ret,f',s'))∧((x.eqB y && r)=true→f' 0=f 0∧f' 1=f 1∧f' 5=f 5)∧((x.eqB y && r)=false→f' 4=.sc (.bool false))∧(∀n0,n0≤s.n→n0≤s.w→n0≤s'.n∧n0≤s'.w):=by
 obtain⟨l,rfl⟩ : ∃k,l=some k:=by cases l with | none=>simp at hl | some k=>exact⟨k,rfl⟩
 obtain⟨m,rfl⟩ : ∃k,m=some k:=by cases m with | none=>simp at hm | some k=>exact⟨k,rfl⟩
 obtain⟨ha,hb,hii⟩:=hin;simp only [aK,Option.getD_some] at ha hb hl hm;have hi:i < l.length:=(List.getElem?_eq_some_iff.1 hl).1;have hj:i < m.length:=(List.getElem?_eq_some_iff.1 hm).1;have h1:=aB ar.len l;have h2:=aB ar.len m;have h3:=kB ar.len hl;have h4:=kB ar.len hm;have ox:x.cells.all cL=true:=by simp only [ar.cells,List.all_cons,List.all_nil,hx,Bool.and_true]; rfl
 have oy:y.cells.all cL=true:=by simp only [ar.cells,List.all_cons,List.all_nil,hy,Bool.and_true]; rfl
 have lx:x.cells.length=5:=x.len;have ly:y.cells.length=5:=y.len;have c1:(bne x.kind y.kind)=!(x.kind == y.kind):=(rfl)
 have c2:(bne x.op y.op)=!(x.op == y.op):=(rfl)
 have fin:∀(n0:Nat),n0≤s.n→n0≤s.w→n0≤s.n + 1 + 1∧n0≤min (min s.w s.n) (s.n + 1):=fun n0 w1 w2=>⟨by omega,by omega⟩
 simp -implicitDefEqProofs only [ZS,seval,ZT,ZX,oY,az,List.map_cons,List.map_nil,List.mem_cons,List.not_mem_nil,implies_true,ha,hb,hii,hi,hj,h1,h2,h3,h4,ox,oy,lx,ly];simp -implicitDefEqProofs only [ar.cells] at h ⊢;cases e1:x.kind == y.kind with
 | false=>
  simp -implicitDefEqProofs only [ZS,seval,ZX,bw,ar.eqB,e1,c1];exact⟨_,_,rfl,fun hh=>(by cases hh),fun _=>by simp -implicitDefEqProofs only [aU,↓reduceIte],fin⟩
 | true=>
  cases e2:x.text.toList == y.text.toList with
  | false=>
   simp -implicitDefEqProofs only [ZS,seval,ZX,bw,ar.eqB,e1,e2,c1];exact⟨_,_,rfl,fun hh=>(by cases hh),fun _=>by simp -implicitDefEqProofs only [aU,↓reduceIte],fin⟩
  | true=>
   cases e3:x.op == y.op with
   | false=>
    simp -implicitDefEqProofs only [ZS,seval,ZX,bw,ar.eqB,e1,e2,e3,c1,c2];exact⟨_,_,rfl,fun hh=>(by cases hh),fun _=>by simp -implicitDefEqProofs only [aU,↓reduceIte],fin⟩
   | true=>
    cases e4:x.colon == y.colon with
    | false=>
     simp -implicitDefEqProofs only [ZS,seval,ZX,bw,ar.eqB,e1,e2,e3,e4,c1,c2,fF Tryz.underlying4];exact⟨_,_,rfl,fun hh=>(by cases hh),fun _=>by simp -implicitDefEqProofs only [aU,↓reduceIte],fin⟩
    | true=>
     cases r with
     | false=>
      simp -implicitDefEqProofs only [ZS,seval,ZX,bw,List.map_cons,List.map_nil,List.append_nil,ar.eqB,e1,e2,e3,e4,h,c1,c2,fF Tryz.underlying4];exact⟨_,_,rfl,fun hh=>(by cases hh),fun _=>by simp -implicitDefEqProofs only [aU,↓reduceIte],fin⟩
     | true=>
      simp -implicitDefEqProofs only [ZS,seval,ZX,bw,List.map_cons,List.map_nil,List.append_nil,ar.eqB,e1,e2,e3,e4,h,c1,c2,fF Tryz.underlying4];exact⟨_,_,rfl,fun _=>⟨by simp -implicitDefEqProofs only [aU,↓reduceIte,reduceCtorEq,ha],by simp -implicitDefEqProofs only [aU,Nat.reduceEqDiff,↓reduceIte,hb],by simp -implicitDefEqProofs only [aU,Nat.reduceEqDiff,↓reduceIte,hii]⟩,fun hh=>(by cases hh),fin⟩
end Go.Proofs.YtgkggocjoolciaaGreatDoor
