/- What functions of the program and of the reference compute, on values. No statement is proved here. -/
import Derived.Test.YtflfflfodghgpaaGreatDoorTxA
import Derived.Test.YtflfflfodghgpaaGreatDoorTxB
import Derived.Test.YtflfflfodghgpaaGreatDoorProg
import Derived.KernelRfl
set_option linter.unusedSimpArgs false
set_option linter.unusedVariables false
namespace Go.Proofs.YtflfflfodghgpaaGreatDoor
open Go Go.EvL Go.PE
def Γ1:Nat→Option fN
 | 11=>some fk
 | 15=>some iw
 | 18=>some jw
 | 20=>some lW
 | 22=>some rB
 | 30=>some yY
 | 36=>some Ms
 | 37=>some Km
 | 39=>some L9
 | 45=>some Kn
 | 47=>some TX
 | 57=>some Sf
 | 58=>some QY
 | 59=>some Tb
 | 65=>some TJ
 | 72=>some TO
 | 80=>some QT
 | 84=>some PM
 | 85=>some P7
 | 86=>some PC
 | 87=>some Rr
 | 88=>some To
 | 89=>some Tj
 | 95=>some Tq
 | 97=>some Tu
 | 106=>some Qj
 | 111=>some Qq
 | 141=>some Pz
 | 159=>some Pq
 | 160=>some Cf
 | 161=>some oJ
 | 167=>some TI
 | 168=>some Tp
 | 169=>some Tw
 | 170=>some U9
 | 171=>some U6
 | 172=>some Ox
 | 173=>some Tv
 | 174=>some Q0
 | 175=>some QL
 | 176=>some TK
 | 177=>some U1
 | 178=>some Qg
 | 179=>some TT
 | 180=>some Ua
 | 181=>some P3
 | 184=>some Pg
 | 185=>some Rz
 | 186=>some L0
 | 206=>some Qu
 | 207=>some M9
 | 208=>some MP
 | 209=>some My
 | 210=>some Qn
 | 226=>some Fj
 | 227=>some CJ
 | 228=>some OK
 | 229=>some OA
 | 230=>some Lg
 | 231=>some oM
 | 240=>some Tt
 | 241=>some TE
 | 242=>some TZ
 | 243=>some Pu
 | _=>none
def Γ2:Nat→Option fN
 | 244=>some U0
 | 245=>some TP
 | 246=>some TM
 | 247=>some Tn
 | 248=>some U8
 | 249=>some B1
 | 259=>some PW
 | 260=>some QO
 | 261=>some OT
 | 262=>some ME
 | 263=>some OV
 | 264=>some Oq
 | 265=>some QJ
 | 266=>some KV
 | 267=>some Oi
 | 274=>some wv
 | 275=>some Or
 | 283=>some TR
 | 299=>some KD
 | 300=>some Lk
 | 301=>some wy
 | 302=>some KA
 | 303=>some Pe
 | 327=>some wd
 | 328=>some NG
 | 329=>some Og
 | 330=>some Q5
 | 331=>some Po
 | 332=>some Q7
 | 347=>some OM
 | 348=>some Nl
 | 349=>some QQ
 | 350=>some iK
 | 351=>some KN
 | 352=>some Qt
 | 353=>some OR
 | 354=>some Pb
 | 366=>some OL
 | 367=>some m9
 | 368=>some Cp
 | 369=>some ua
 | 370=>some uz
 | 371=>some EZ
 | 372=>some vQ
 | 373=>some Pa
 | 383=>some jx
 | 384=>some Om
 | 385=>some P5
 | 386=>some kS
 | 391=>some Lz
 | 392=>some oI
 | 393=>some N9
 | 394=>some NB
 | 395=>some Qo
 | 396=>some TF
 | 397=>some P6
 | 400=>some Lj
 | 401=>some LQ
 | 402=>some N8
 | 403=>some OU
 | 404=>some MY
 | 413=>some OG
 | 414=>some OH
 | 415=>some Ns
 | _=>none
def Γ (g:Nat):Option fN:=(Γ1 g).or (Γ2 g)
theorem kf {g:FuncId}{f:Func}{c:fN} (h:Tryz.prog.funcs[g]?=some f) (h2:sV Tryz.prog f c.keep=some c:=by kernel_rfl):∃fn k,Tryz.prog.funcs[g]?=some fn∧sV Tryz.prog fn k=some c:=⟨_,_,h,h2⟩
theorem TU:wV Tryz.prog Γ1:=by
 intro g pf h;unfold Γ1 at h;split at h
 all_goals first | cases h; done | injection h with h; subst h
 ·exact kf Tryz.func11
 ·exact kf Tryz.func15
 ·exact kf Tryz.func18
 ·exact kf Tryz.func20
 ·exact kf Tryz.func22
 ·exact kf Tryz.func30
 ·exact kf Tryz.func36
 ·exact kf Tryz.func37
 ·exact kf Tryz.func39
 ·exact kf Tryz.func45
 ·exact kf Tryz.func47
 ·exact kf Tryz.func57
 ·exact kf Tryz.func58
 ·exact kf Tryz.func59
 ·exact kf Tryz.func65
 ·exact kf Tryz.func72
 ·exact kf Tryz.func80
 ·exact kf Tryz.func84
 ·exact kf Tryz.func85
 ·exact kf Tryz.func86
 ·exact kf Tryz.func87
 ·exact kf Tryz.func88
 ·exact kf Tryz.func89
 ·exact kf Tryz.func95
 ·exact kf Tryz.func97
 ·exact kf Tryz.func106
 ·exact kf Tryz.func111
 ·exact kf Tryz.func141
 ·exact kf Tryz.func159
 ·exact kf Tryz.func160
 ·exact kf Tryz.func161
 ·exact kf Tryz.func167
 ·exact kf Tryz.func168
 ·exact kf Tryz.func169
 ·exact kf Tryz.func170
 ·exact kf Tryz.func171
 ·exact kf Tryz.func172
 ·exact kf Tryz.func173
 ·exact kf Tryz.func174
 ·exact kf Tryz.func175
 ·exact kf Tryz.func176
 ·exact kf Tryz.func177
 ·exact kf Tryz.func178
 ·exact kf Tryz.func179
 ·exact kf Tryz.func180
 ·exact kf Tryz.func181
 ·exact kf Tryz.func184
 ·exact kf Tryz.func185
 ·exact kf Tryz.func186
 ·exact kf Tryz.func206
 ·exact kf Tryz.func207
 ·exact kf Tryz.func208
 ·exact kf Tryz.func209
 ·exact kf Tryz.func210
 ·exact kf Tryz.func226
 ·exact kf Tryz.func227
 ·exact kf Tryz.func228
 ·exact kf Tryz.func229
 ·exact kf Tryz.func230
 ·exact kf Tryz.func231
 ·exact kf Tryz.func240
 ·exact kf Tryz.func241
 ·exact kf Tryz.func242
 ·exact kf Tryz.func243
theorem TW:wV Tryz.prog Γ2:=by
 intro g pf h;unfold Γ2 at h;split at h
 all_goals first | cases h; done | injection h with h; subst h
 ·exact kf Tryz.func244
 ·exact kf Tryz.func245
 ·exact kf Tryz.func246
 ·exact kf Tryz.func247
 ·exact kf Tryz.func248
 ·exact kf Tryz.func249
 ·exact kf Tryz.func259
 ·exact kf Tryz.func260
 ·exact kf Tryz.func261
 ·exact kf Tryz.func262
 ·exact kf Tryz.func263
 ·exact kf Tryz.func264
 ·exact kf Tryz.func265
 ·exact kf Tryz.func266
 ·exact kf Tryz.func267
 ·exact kf Tryz.func274
 ·exact kf Tryz.func275
 ·exact kf Tryz.func283
 ·exact kf Tryz.func299
 ·exact kf Tryz.func300
 ·exact kf Tryz.func301
 ·exact kf Tryz.func302
 ·exact kf Tryz.func303
 ·exact kf Tryz.func327
 ·exact kf Tryz.func328
 ·exact kf Tryz.func329
 ·exact kf Tryz.func330
 ·exact kf Tryz.func331
 ·exact kf Tryz.func332
 ·exact kf Tryz.func347
 ·exact kf Tryz.func348
 ·exact kf Tryz.func349
 ·exact kf Tryz.func350
 ·exact kf Tryz.func351
 ·exact kf Tryz.func352
 ·exact kf Tryz.func353
 ·exact kf Tryz.func354
 ·exact kf Tryz.func366
 ·exact kf Tryz.func367
 ·exact kf Tryz.func368
 ·exact kf Tryz.func369
 ·exact kf Tryz.func370
 ·exact kf Tryz.func371
 ·exact kf Tryz.func372
 ·exact kf Tryz.func373
 ·exact kf Tryz.func383
 ·exact kf Tryz.func384
 ·exact kf Tryz.func385
 ·exact kf Tryz.func386
 ·exact kf Tryz.func391
 ·exact kf Tryz.func392
 ·exact kf Tryz.func393
 ·exact kf Tryz.func394
 ·exact kf Tryz.func395
 ·exact kf Tryz.func396
 ·exact kf Tryz.func397
 ·exact kf Tryz.func400
 ·exact kf Tryz.func401
 ·exact kf Tryz.func402
 ·exact kf Tryz.func403
 ·exact kf Tryz.func404
 ·exact kf Tryz.func413
 ·exact kf Tryz.func414
 ·exact kf Tryz.func415
theorem tab_ok:wV Tryz.prog Γ:=by
 intro g pf h;unfold Γ at h;cases h1:Γ1 g with
 | some x=>rw [h1] at h; exact TU g pf (h1.trans h)
 | none=>rw [h1] at h; exact TW g pf h
abbrev Pc (ext:ai) (g:Nat) (a:List PV) (v:PV) (s:PS):Prop:=aU Tryz.prog Γ ext g a s=some (v,s)
end Go.Proofs.YtflfflfodghgpaaGreatDoor
namespace Go.Mir
def bt (l:List UInt8) (i:Nat):Nat:=(l.getD i 0).toNat
def i9 (c:Nat):Bool:=decide (97≤c) && decide (c≤122) || decide (65≤c) && decide (c≤90)
def bC (c:Nat):Bool:=decide (48≤c) && decide (c≤57)
def fg (c:Nat):Bool:=c == 9 || c == 32
def cY (c:Nat):Bool:=c == 38 || c == 124 || c == 59 || c == 40 || c == 41 || c == 60 || c == 62
def dV (c:Nat):Bool:=i9 c || bC c || c == 95
def cd (c:Nat):Bool:=bC c || c == 64 || c == 42 || c == 35 || c == 63 || c == 45 || c == 36 || c == 33
def bZ (l:List UInt8) (a:Nat):Bool:=decide (a + 1 < l.length) && bt l a == 36 && (dV (bt l (a + 1)) || cd (bt l (a + 1)) || bt l (a + 1) == 123 || bt l (a + 1) == 40)
def cF (l:List UInt8) (i:Nat):Bool:=decide (i + 1 < l.length) && bt l i == 92 && bt l (i + 1) == 10
def run (q:Nat→Bool) (l:List UInt8) (i:Nat):Nat:=i + ((l.drop i).takeWhile fun c=>q c.toNat).length
def dP (l:List UInt8) (i:Nat):Nat:=run dV l i
def cu (l:List UInt8) (c i:Nat):Nat:=run (fun x=>x != c) l i
theorem oj {l:List UInt8}{i:Nat} (h:i < l.length):l.drop i=l[i] :: l.drop (i + 1):=List.drop_eq_getElem_cons h
theorem nL {l:List UInt8}{i:Nat} (h:i < l.length):bt l i=(l[i]).toNat:=by
 unfold bt; rw [List.getD_eq_getElem?_getD,List.getElem?_eq_getElem h]; rfl
theorem y7 {q:Nat→Bool}{l:List UInt8}{i:Nat} (h:l.length≤i):run q l i=i:=by
 unfold run; rw [List.drop_eq_nil_of_le h]; rfl
theorem vE {q:Nat→Bool}{l:List UInt8}{i:Nat} (h:i < l.length) (hq:q (bt l i)=true):run q l i=run q l (i + 1):=by
 unfold run;rw [oj h,List.takeWhile_cons,if_pos (by rw [← nL h]; exact hq),List.length_cons];omega
theorem yX {q:Nat→Bool}{l:List UInt8}{i:Nat} (h:i < l.length) (hq:q (bt l i)=false):run q l i=i:=by
 unfold run;rw [oj h,List.takeWhile_cons,if_neg (by rw [← nL h,hq]; simp)];rfl
theorem mW (q:Nat→Bool) (l:List UInt8) (i:Nat):i≤run q l i:=Nat.le_add_right _ _
theorem kr {q:Nat→Bool}{l:List UInt8}{i:Nat} (h:i≤l.length):run q l i≤l.length:=by
 unfold run;have h1:=List.Sublist.length_le (List.takeWhile_sublist (fun c:UInt8=>q c.toNat) (l:=l.drop i));rw [List.length_drop] at h1;omega
inductive fV where
 | pass (a p:Nat)
 | exp (a p:Nat)
 | bq (i a:Nat)
 | dbl (i a:Nat)
 | brc (i a p:Nat)
 | cmd (i a o:Nat) (b:Bool)
 | ari (i a o:Nat)
def cI (c o:Nat):Nat:=if c=40 then o + 1 else if c=41 then o - 1 else o
def bR (c:Nat):Bool:=fg c || c == 10 || cY c
inductive Lx (l:List UInt8):fV→Nat→Nat→Prop where
 | p_esc0 {a p} (h:bt l a=92) (h2:a + 1=l.length):Lx l (.pass a p) a 7
 | p_esc {a p} (h:bt l a=92) (h2:a + 1 < l.length):Lx l (.pass a p) (a + 2) 0
 | p_bq {a p r e} (hl:a < l.length) (h:bt l a=96) (k:Lx l (.bq (a + 1) a) r e):Lx l (.pass a p) r e
 | p_exp {a p r e} (h:bZ l a=true) (k:Lx l (.exp a p) r e):Lx l (.pass a p) r e
 | p_sq {a} (hl:a < l.length) (h:bt l a=39) (h2:cu l 39 (a + 1) < l.length):Lx l (.pass a 0) (cu l 39 (a + 1) + 1) 0
 | p_sq0 {a} (hl:a < l.length) (h:bt l a=39) (h2:cu l 39 (a + 1)=l.length):Lx l (.pass a 0) a 7
 | p_dq {a r e} (hl:a < l.length) (h:bt l a=34) (k:Lx l (.dbl (a + 1) a) r e):Lx l (.pass a 0) r e
 | p_one {a p} (hl:a < l.length) (h1:bt l a≠92) (h2:bt l a≠96) (h3:bZ l a=false) (h4:p=0→bt l a≠39∧bt l a≠34):Lx l (.pass a p) (a + 1) 0
 | e_brc {a p r e} (h:bt l (a + 1)=123) (k:Lx l (.brc (a + 2) a p) r e):Lx l (.exp a p) r e
 | e_ari {a p r e} (h:bt l (a + 1)=40) (h2:a + 2 < l.length) (h3:bt l (a + 2)=40) (k:Lx l (.ari (a + 3) a 0) r e):Lx l (.exp a p) r e
 | e_cmd {a p r e} (h:bt l (a + 1)=40) (h2:a + 2 < l.length→bt l (a + 2)≠40) (k:Lx l (.cmd (a + 2) a 1 true) r e):Lx l (.exp a p) r e
 | e_sp {a p} (h:cd (bt l (a + 1))=true):Lx l (.exp a p) (a + 2) 0
 | e_nm {a p} (h:bt l (a + 1)≠123) (h2:bt l (a + 1)≠40) (h3:cd (bt l (a + 1))=false):Lx l (.exp a p) (dP l (a + 1)) 0
 | b_end {a} : Lx l (.bq l.length a) a 7
 | b_q {i a} (hl:i < l.length) (h:bt l i=96):Lx l (.bq i a) (i + 1) 0
 | b_esc0 {i a} (h:bt l i=92) (h2:i + 1=l.length):Lx l (.bq i a) i 7
 | b_esc {i a r e} (h:bt l i=92) (h2:i + 1 < l.length) (k:Lx l (.bq (i + 2) a) r e):Lx l (.bq i a) r e
 | b_one {i a r e} (hl:i < l.length) (h:bt l i≠96) (h2:bt l i≠92) (k:Lx l (.bq (i + 1) a) r e):Lx l (.bq i a) r e
 | d_end {a} : Lx l (.dbl l.length a) a 7
 | d_q {i a} (hl:i < l.length) (h:bt l i=34):Lx l (.dbl i a) (i + 1) 0
 | d_err {i a r e} (hl:i < l.length) (h:bt l i≠34) (k:Lx l (.pass i 1) r e) (he:e≠0):Lx l (.dbl i a) r e
 | d_on {i a j r e} (hl:i < l.length) (h:bt l i≠34) (k:Lx l (.pass i 1) j 0) (k2:Lx l (.dbl j a) r e):Lx l (.dbl i a) r e
 | r_end {a p} : Lx l (.brc l.length a p) a 7
 | r_q {i a p} (hl:i < l.length) (h:bt l i=125):Lx l (.brc i a p) (i + 1) 0
 | r_bad {i a} (hl:i < l.length) (h:bt l i=34):Lx l (.brc i a 1) i 6
 | r_err {i a p r e} (hl:i < l.length) (h:bt l i≠125) (h2:p=1→bt l i≠34) (k:Lx l (.pass i p) r e) (he:e≠0):Lx l (.brc i a p) r e
 | r_on {i a p j r e} (hl:i < l.length) (h:bt l i≠125) (h2:p=1→bt l i≠34) (k:Lx l (.pass i p) j 0) (k2:Lx l (.brc j a p) r e):Lx l (.brc i a p) r e
 | c_end {a o b} : Lx l (.cmd l.length a o b) a 7
 | c_cmt {i a o r e} (hl:i < l.length) (h:bt l i=35) (k:Lx l (.cmd (cu l 10 i) a o true) r e):Lx l (.cmd i a o true) r e
 | c_join {i a o b r e} (h:cF l i=true) (k:Lx l (.cmd (i + 2) a o b) r e):Lx l (.cmd i a o b) r e
 | c_q {i a b} (hl:i < l.length) (h:bt l i=41):Lx l (.cmd i a 1 b) (i + 1) 0
 | c_err {i a o b r e} (hl:i < l.length) (h:b=true→bt l i≠35) (h2:cF l i=false) (h3:bt l i=41→o≠1) (k:Lx l (.pass i 0) r e) (he:e≠0):Lx l (.cmd i a o b) r e
 | c_on {i a o b j r e} (hl:i < l.length) (h:b=true→bt l i≠35) (h2:cF l i=false) (h3:bt l i=41→o≠1) (k:Lx l (.pass i 0) j 0) (k2:Lx l (.cmd j a (cI (bt l i) o) (bR (bt l i))) r e):Lx l (.cmd i a o b) r e
 | a_end {a o} : Lx l (.ari l.length a o) a 7
 | a_q0 {i a} (h:bt l i=41) (h2:i + 1=l.length):Lx l (.ari i a 0) a 7
 | a_q {i a} (h:bt l i=41) (h2:i + 1 < l.length) (h3:bt l (i + 1)=41):Lx l (.ari i a 0) (i + 2) 0
 | a_bad {i a} (h:bt l i=41) (h2:i + 1 < l.length) (h3:bt l (i + 1)≠41):Lx l (.ari i a 0) i 6
 | a_err {i a o r e} (hl:i < l.length) (h:bt l i=41→o≠0) (k:Lx l (.pass i 2) r e) (he:e≠0):Lx l (.ari i a o) r e
 | a_on {i a o j r e} (hl:i < l.length) (h:bt l i=41→o≠0) (k:Lx l (.pass i 2) j 0) (k2:Lx l (.ari j a (cI (bt l i) o)) r e):Lx l (.ari i a o) r e
def fV.at:fV→Nat
 | .pass a _ | .exp a _=>a
 | .bq i _ | .dbl i _ | .brc i _ _ | .cmd i _ _ _ | .ari i _ _=>i
theorem bL {l:List UInt8}{a:Nat} (h:bZ l a=true):a + 1 < l.length:=by
 unfold bZ at h; simp at h; exact h.1.1
theorem yE {l:List UInt8}{a:Nat} (h:bZ l a=true):bt l a=36:=by
 unfold bZ at h; simp at h; exact h.1.2
theorem iG {l:List UInt8}{a:Nat} (h:cF l a=true):a + 1 < l.length:=by
 unfold cF at h; simp at h; exact h.1.1
theorem AN {l:List UInt8}{a:Nat} (h:cF l a=true):bt l a=92∧bt l (a + 1)=10:=by
 unfold cF at h; simp at h; exact⟨h.1.2,h.2⟩
end Go.Mir
namespace Go.Mir
theorem qR {l:List UInt8}{a:Nat} (h:bZ l a=true) (h1:bt l (a + 1)≠123) (h2:bt l (a + 1)≠40) (h3:cd (bt l (a + 1))=false):a + 2≤dP l (a + 1):=by
 have hl:=bL h;unfold bZ at h;simp [h3,h1,h2] at h;unfold dP;rw [vE hl h.2];exact mW _ _ _
def fV.ok (l:List UInt8):fV→Prop
 | .pass a _=>a < l.length
 | .exp a _=>bZ l a=true
 | .bq i a | .dbl i a | .brc i a _ | .cmd i a _ _ | .ari i a _=>i≤l.length∧a < l.length
def fV.size (l:List UInt8):fV→Nat
 | .pass a _=>3 * (l.length - a) + 1
 | .exp a _=>3 * (l.length - a)
 | .bq i _ | .dbl i _ | .brc i _ _ | .cmd i _ _ _ | .ari i _ _=>3 * (l.length - i) + 2
theorem Lx.bound {l:List UInt8}{t:fV}{r e:Nat} (h:Lx l t r e):t.ok l→r≤l.length∧(e=0→t.at < r):=by
 induction h with
 | p_esc0 h h2=>intro ok; exact⟨by omega,by omega⟩
 | p_esc h h2=>intro ok; exact⟨by omega,fun _=>by simp only [fV.at]; omega⟩
 | p_bq hl h k ih=>intro ok; have:=ih ⟨by omega,hl⟩; exact⟨this.1,fun h=>by have:=this.2 h; simp only [fV.at] at this ⊢; omega⟩
 | p_exp h k ih=>intro ok; exact ih h
 | @p_sq a hl h h2=>intro ok; have:=mW (fun x=>x != 39) l (a + 1); exact⟨by omega,fun _=>by simp only [fV.at]; unfold cu; exact Nat.lt_succ_of_le (Nat.le_trans (Nat.le_succ _) this)⟩
 | p_sq0 hl h h2=>intro ok; exact⟨by omega,by omega⟩
 | p_dq hl h k ih=>intro ok; have:=ih ⟨by omega,hl⟩; exact⟨this.1,fun h=>by have:=this.2 h; simp only [fV.at] at this ⊢; omega⟩
 | p_one hl _ _ _ _=>intro ok; exact⟨by omega,fun _=>by simp only [fV.at]; omega⟩
 | e_brc h k ih=>intro ok; have hl:=bL ok; have:=ih ⟨by omega,by omega⟩; exact⟨this.1,fun h=>by have:=this.2 h; simp only [fV.at] at this ⊢; omega⟩
 | e_ari h h2 h3 k ih=>intro ok; have hl:=bL ok; have:=ih ⟨by omega,by omega⟩; exact⟨this.1,fun h=>by have:=this.2 h; simp only [fV.at] at this ⊢; omega⟩
 | e_cmd h h2 k ih=>intro ok; have hl:=bL ok; have:=ih ⟨by omega,by omega⟩; exact⟨this.1,fun h=>by have:=this.2 h; simp only [fV.at] at this ⊢; omega⟩
 | e_sp h=>intro ok; have hl:=bL ok; exact⟨by omega,fun _=>by simp only [fV.at]; omega⟩
 | e_nm h h2 h3=>intro ok; have hl:=bL ok; have:=qR ok h h2 h3; exact⟨kr (by omega),fun _=>by simp only [fV.at]; omega⟩
 | b_end=>intro ok; exact⟨by have:=ok.2; omega,by omega⟩
 | b_q hl h=>intro ok; exact⟨by omega,fun _=>by simp only [fV.at]; omega⟩
 | b_esc0 h h2=>intro ok; exact⟨by omega,by omega⟩
 | b_esc h h2 k ih=>intro ok; have:=ih ⟨by omega,ok.2⟩; exact⟨this.1,fun h=>by have:=this.2 h; simp only [fV.at] at this ⊢; omega⟩
 | b_one hl h h2 k ih=>intro ok; have:=ih ⟨by omega,ok.2⟩; exact⟨this.1,fun h=>by have:=this.2 h; simp only [fV.at] at this ⊢; omega⟩
 | d_end=>intro ok; exact⟨by have:=ok.2; omega,by omega⟩
 | d_q hl h=>intro ok; exact⟨by omega,fun _=>by simp only [fV.at]; omega⟩
 | d_err hl h k he ih=>intro ok; exact⟨(ih hl).1,fun h=>absurd h he⟩
 | d_on hl h k k2 ih ih2=>intro ok; have h1:=ih hl; have h3:=h1.2 rfl; have:=ih2 ⟨h1.1,ok.2⟩; exact⟨this.1,fun h=>by have:=this.2 h; simp only [fV.at] at this h3 ⊢; omega⟩
 | r_end=>intro ok; exact⟨by have:=ok.2; omega,by omega⟩
 | r_q hl h=>intro ok; exact⟨by omega,fun _=>by simp only [fV.at]; omega⟩
 | r_bad hl h=>intro ok; exact⟨by omega,by omega⟩
 | r_err hl h h2 k he ih=>intro ok; exact⟨(ih hl).1,fun h=>absurd h he⟩
 | r_on hl h h2 k k2 ih ih2=>intro ok; have h1:=ih hl; have h3:=h1.2 rfl; have:=ih2 ⟨h1.1,ok.2⟩; exact⟨this.1,fun h=>by have:=this.2 h; simp only [fV.at] at this h3 ⊢; omega⟩
 | c_end=>intro ok; exact⟨by have:=ok.2; omega,by omega⟩
 | @c_cmt i a o r e hl h k ih=>intro ok; have h1:=mW (fun x=>x != 10) l i; have:=ih ⟨kr (by omega),ok.2⟩; exact⟨this.1,fun h=>by have:=this.2 h; simp only [fV.at,cu] at this ⊢; omega⟩
 | c_join h k ih=>intro ok; have hl:=iG h; have:=ih ⟨by omega,ok.2⟩; exact⟨this.1,fun h=>by have:=this.2 h; simp only [fV.at] at this ⊢; omega⟩
 | c_q hl h=>intro ok; exact⟨by omega,fun _=>by simp only [fV.at]; omega⟩
 | c_err hl h h2 h3 k he ih=>intro ok; exact⟨(ih hl).1,fun h=>absurd h he⟩
 | c_on hl h h2 h3 k k2 ih ih2=>intro ok; have h1:=ih hl; have h3:=h1.2 rfl; have:=ih2 ⟨h1.1,ok.2⟩; exact⟨this.1,fun h=>by have:=this.2 h; simp only [fV.at] at this h3 ⊢; omega⟩
 | a_end=>intro ok; exact⟨by have:=ok.2; omega,by omega⟩
 | a_q0 h h2=>intro ok; exact⟨by have:=ok.2; omega,by omega⟩
 | a_q h h2 h3=>intro ok; exact⟨by omega,fun _=>by simp only [fV.at]; omega⟩
 | a_bad h h2 h3=>intro ok; exact⟨by omega,by omega⟩
 | a_err hl h k he ih=>intro ok; exact⟨(ih hl).1,fun h=>absurd h he⟩
 | a_on hl h k k2 ih ih2=>intro ok; have h1:=ih hl; have h3:=h1.2 rfl; have:=ih2 ⟨h1.1,ok.2⟩; exact⟨this.1,fun h=>by have:=this.2 h; simp only [fV.at] at this h3 ⊢; omega⟩
theorem Lx.total (l:List UInt8):∀(m:Nat) (t:fV),t.size l < m→t.ok l→∃r e,Lx l t r e:=by
 intro m
 induction m with
 | zero=>intro t h; omega
 | succ m ih=>
  intro t hm ok;cases t with
  | pass a p=>
   simp only [fV.size,fV.ok] at hm ok;by_cases h1:bt l a=92
   ·by_cases h2:a + 1=l.length
    ·exact⟨_,_,.p_esc0 h1 h2⟩
    ·exact⟨_,_,.p_esc h1 (by omega)⟩
   by_cases h2:bt l a=96
   ·obtain⟨r,e,k⟩:=ih (.bq (a + 1) a) (by simp only [fV.size]; omega) ⟨by omega,ok⟩;exact⟨r,e,.p_bq ok h2 k⟩
   cases h3:bZ l a with
   | true=>
    obtain⟨r,e,k⟩:=ih (.exp a p) (by simp only [fV.size]; omega) h3;exact⟨r,e,.p_exp h3 k⟩
   | false=>
    by_cases hp:p=0
    ·subst hp;by_cases h4:bt l a=39
     ·have:=kr (q:=fun x=>x != 39) (l:=l) (i:=a + 1) (by omega);by_cases h5:cu l 39 (a + 1)=l.length
      ·exact⟨_,_,.p_sq0 ok h4 h5⟩
      ·exact⟨_,_,.p_sq ok h4 (by unfold cu at h5 ⊢; omega)⟩
     by_cases h5:bt l a=34
     ·obtain⟨r,e,k⟩:=ih (.dbl (a + 1) a) (by simp only [fV.size]; omega) ⟨by omega,ok⟩;exact⟨r,e,.p_dq ok h5 k⟩
     ·exact⟨_,_,.p_one ok h1 h2 h3 fun _=>⟨h4,h5⟩⟩
    ·exact⟨_,_,.p_one ok h1 h2 h3 fun h=>absurd h hp⟩
  | exp a p=>
   simp only [fV.size,fV.ok] at hm ok;have hl:=bL ok;by_cases h1:bt l (a + 1)=123
   ·obtain⟨r,e,k⟩:=ih (.brc (a + 2) a p) (by simp only [fV.size]; omega) ⟨by omega,by omega⟩;exact⟨r,e,.e_brc h1 k⟩
   by_cases h2:bt l (a + 1)=40
   ·by_cases h3:a + 2 < l.length∧bt l (a + 2)=40
    ·obtain⟨r,e,k⟩:=ih (.ari (a + 3) a 0) (by simp only [fV.size]; omega) ⟨by omega,by omega⟩;exact⟨r,e,.e_ari h2 h3.1 h3.2 k⟩
    ·obtain⟨r,e,k⟩:=ih (.cmd (a + 2) a 1 true) (by simp only [fV.size]; omega) ⟨by omega,by omega⟩;exact⟨r,e,.e_cmd h2 (fun h h'=>h3 ⟨h,h'⟩) k⟩
   cases h3:cd (bt l (a + 1)) with
   | true=>exact⟨_,_,.e_sp h3⟩
   | false=>exact⟨_,_,.e_nm h1 h2 h3⟩
  | bq i a=>
   simp only [fV.size,fV.ok] at hm ok;by_cases hi:i=l.length
   ·subst hi; exact⟨_,_,.b_end⟩
   by_cases h1:bt l i=96
   ·exact⟨_,_,.b_q (by omega) h1⟩
   by_cases h2:bt l i=92
   ·by_cases h3:i + 1=l.length
    ·exact⟨_,_,.b_esc0 h2 h3⟩
    ·obtain⟨r,e,k⟩:=ih (.bq (i + 2) a) (by simp only [fV.size]; omega) ⟨by omega,ok.2⟩;exact⟨r,e,.b_esc h2 (by omega) k⟩
   ·obtain⟨r,e,k⟩:=ih (.bq (i + 1) a) (by simp only [fV.size]; omega) ⟨by omega,ok.2⟩;exact⟨r,e,.b_one (by omega) h1 h2 k⟩
  | dbl i a=>
   simp only [fV.size,fV.ok] at hm ok;by_cases hi:i=l.length
   ·subst hi; exact⟨_,_,.d_end⟩
   have hl:i < l.length:=by omega
   by_cases h1:bt l i=34
   ·exact⟨_,_,.d_q hl h1⟩
   obtain⟨j,e,k⟩:=ih (.pass i 1) (by simp only [fV.size]; omega) hl;by_cases he:e=0
   ·subst he;have hb:=k.bound hl;have hj:=hb.2 rfl;simp only [fV.at] at hj;obtain⟨r,e,k2⟩:=ih (.dbl j a) (by simp only [fV.size]; omega) ⟨hb.1,ok.2⟩;exact⟨r,e,.d_on hl h1 k k2⟩
   ·exact⟨_,_,.d_err hl h1 k he⟩
  | brc i a p=>
   simp only [fV.size,fV.ok] at hm ok;by_cases hi:i=l.length
   ·subst hi; exact⟨_,_,.r_end⟩
   have hl:i < l.length:=by omega
   by_cases h1:bt l i=125
   ·exact⟨_,_,.r_q hl h1⟩
   by_cases h2:p=1∧bt l i=34
   ·obtain⟨rfl,h2⟩:=h2;exact⟨_,_,.r_bad hl h2⟩
   obtain⟨j,e,k⟩:=ih (.pass i p) (by simp only [fV.size]; omega) hl;by_cases he:e=0
   ·subst he;have hb:=k.bound hl;have hj:=hb.2 rfl;simp only [fV.at] at hj;obtain⟨r,e,k2⟩:=ih (.brc j a p) (by simp only [fV.size]; omega) ⟨hb.1,ok.2⟩;exact⟨r,e,.r_on hl h1 (fun h h'=>h2 ⟨h,h'⟩) k k2⟩
   ·exact⟨_,_,.r_err hl h1 (fun h h'=>h2 ⟨h,h'⟩) k he⟩
  | cmd i a o b=>
   simp only [fV.size,fV.ok] at hm ok;by_cases hi:i=l.length
   ·subst hi; exact⟨_,_,.c_end⟩
   have hl:i < l.length:=by omega
   by_cases h1:b=true∧bt l i=35
   ·obtain⟨rfl,h1⟩:=h1;have hq:(fun x=>x != 10) (bt l i)=true:=by rw [h1]; rfl
    have e1:cu l 10 i=cu l 10 (i + 1):=vE hl hq;have g1:=mW (fun x=>x != 10) l (i + 1);have g2:=kr (q:=fun x=>x != 10) (l:=l) (i:=i) (by omega);have g1':i + 1≤cu l 10 i:=by rw [e1]; exact g1
    have g2':cu l 10 i≤l.length:=g2;obtain⟨r,e,k⟩:=ih (.cmd (cu l 10 i) a o true) (by simp only [fV.size]; omega) ⟨g2',ok.2⟩;exact⟨r,e,.c_cmt hl h1 k⟩
   cases h2:cF l i with
   | true=>
    have:=iG h2;obtain⟨r,e,k⟩:=ih (.cmd (i + 2) a o b) (by simp only [fV.size]; omega) ⟨by omega,ok.2⟩;exact⟨r,e,.c_join h2 k⟩
   | false=>
    by_cases h3:bt l i=41∧o=1
    ·obtain⟨h3,rfl⟩:=h3;exact⟨_,_,.c_q hl h3⟩
    obtain⟨j,e,k⟩:=ih (.pass i 0) (by simp only [fV.size]; omega) hl;by_cases he:e=0
    ·subst he;have hb:=k.bound hl;have hj:=hb.2 rfl;simp only [fV.at] at hj;obtain⟨r,e,k2⟩:=ih (.cmd j a (cI (bt l i) o) (bR (bt l i))) (by simp only [fV.size]; omega) ⟨hb.1,ok.2⟩;exact⟨r,e,.c_on hl (fun h h'=>h1 ⟨h,h'⟩) h2 (fun h h'=>h3 ⟨h,h'⟩) k k2⟩
    ·exact⟨_,_,.c_err hl (fun h h'=>h1 ⟨h,h'⟩) h2 (fun h h'=>h3 ⟨h,h'⟩) k he⟩
  | ari i a o=>
   simp only [fV.size,fV.ok] at hm ok;by_cases hi:i=l.length
   ·subst hi; exact⟨_,_,.a_end⟩
   have hl:i < l.length:=by omega
   by_cases h1:bt l i=41∧o=0
   ·obtain⟨h1,rfl⟩:=h1;by_cases h2:i + 1=l.length
    ·exact⟨_,_,.a_q0 h1 h2⟩
    by_cases h3:bt l (i + 1)=41
    ·exact⟨_,_,.a_q h1 (by omega) h3⟩
    ·exact⟨_,_,.a_bad h1 (by omega) h3⟩
   obtain⟨j,e,k⟩:=ih (.pass i 2) (by simp only [fV.size]; omega) hl;by_cases he:e=0
   ·subst he;have hb:=k.bound hl;have hj:=hb.2 rfl;simp only [fV.at] at hj;obtain⟨r,e,k2⟩:=ih (.ari j a (cI (bt l i) o)) (by simp only [fV.size]; omega) ⟨hb.1,ok.2⟩;exact⟨r,e,.a_on hl (fun h h'=>h1 ⟨h,h'⟩) k k2⟩
   ·exact⟨_,_,.a_err hl (fun h h'=>h1 ⟨h,h'⟩) k he⟩
end Go.Mir
namespace Go.PE
open Go Go.EvL
section
variable {P:Program}{Γ:Nat→Option fN}{ext:ai}
noncomputable def LP (P:Program) (Γ:Nat→Option fN) (ext:ai) (id:Nat) (body rest:bw) (f:aO) (s:PS):jI:=gR (ip id (aS P Γ ext (.loop body) f s)) (aS P Γ ext rest)
noncomputable def Pp (P:Program) (Γ:Nat→Option fN) (ext:ai) (id:Nat) (body rest:bw) (r:jI):jI:=gR (ip id (gR r (aS P Γ ext (.loop body)))) (aS P Γ ext rest)
theorem EL (id:Nat) (body rest:bw) (f:aO) (s:PS):gR (ip id (aS P Γ ext (.loop body) f s)) (aS P Γ ext rest)=LP P Γ ext id body rest f s:=(rfl)
theorem oi (id:Nat) (body rest:bw) (f:aO) (s:PS):LP P Γ ext id body rest f s=Pp P Γ ext id body rest (aS P Γ ext body f s):=by
 unfold LP Pp; rw [iv]
theorem AX (id:Nat) (body rest:bw) (f:aO) (s:PS):Pp P Γ ext id body rest (some (.normal,f,s))=LP P Γ ext id body rest f s:=(rfl)
theorem zU (id j:Nat) (body rest:bw) (f:aO) (s:PS):Pp P Γ ext id body rest (some (.exit j,f,s))=if j=id then aS P Γ ext rest f s else some (.exit j,f,s):=by
 unfold Pp;rw [iT,w8];split
 ·rw [cG]
 ·rw [iT]
theorem AO (id:Nat) (body rest:bw) (f:aO) (s:PS):Pp P Γ ext id body rest (some (.ret,f,s))=some (.ret,f,s):=(rfl)
theorem Ah (t:Nat) (x y:Operand) (a b:Int):gP P .eql t x y (.sc (.int .u8 a)) (.sc (.int .u8 b))=some (.sc (.bool (a == b))):=(rfl)
theorem AZ (t:Nat) (x y:Operand) (a b:Int):gP P .neq t x y (.sc (.int .u8 a)) (.sc (.int .u8 b))=some (.sc (.bool (a != b))):=(rfl)
theorem Bu (t:Nat) (x y:Operand) (a b:Int):gP P .lss t x y (.sc (.int .u8 a)) (.sc (.int .u8 b))=some (.sc (.bool (decide (a < b)))):=(rfl)
theorem Bp (t:Nat) (x y:Operand) (a b:Int):gP P .leq t x y (.sc (.int .u8 a)) (.sc (.int .u8 b))=some (.sc (.bool (decide (a≤b)))):=(rfl)
theorem Bl (t:Nat) (x y:Operand) (a b:Int):gP P .gtr t x y (.sc (.int .u8 a)) (.sc (.int .u8 b))=some (.sc (.bool (decide (a > b)))):=(rfl)
theorem zW (t:Nat) (x y:Operand) (a b:Int):gP P .geq t x y (.sc (.int .u8 a)) (.sc (.int .u8 b))=some (.sc (.bool (decide (a ≥ b)))):=(rfl)
theorem OY (c k:Nat):((c:Int) == (no_index (@OfNat.ofNat Int k instOfNat)))=(c == @OfNat.ofNat Nat k (instOfNatNat k)):=by
 rw [Bool.eq_iff_iff]; simp only [beq_iff_eq]; show (c:Int)=(k:Int)↔c=k; omega
theorem Rm (c k:Nat):((c:Int) != (no_index (@OfNat.ofNat Int k instOfNat)))=!(c == @OfNat.ofNat Nat k (instOfNatNat k)):=by
 show (!((c:Int) == (@OfNat.ofNat Int k instOfNat)))=_; rw [OY]
theorem Ud (c k:Nat):decide ((c:Int) < (no_index (@OfNat.ofNat Int k instOfNat)))=decide (c < @OfNat.ofNat Nat k (instOfNatNat k)):=by
 rw [Bool.eq_iff_iff]; simp only [decide_eq_true_iff]; show (c:Int) < (k:Int)↔c < k; omega
theorem Uv (c k:Nat):decide ((c:Int)≤(no_index (@OfNat.ofNat Int k instOfNat)))=decide (c≤@OfNat.ofNat Nat k (instOfNatNat k)):=by
 rw [Bool.eq_iff_iff]; simp only [decide_eq_true_iff]; show (c:Int)≤(k:Int)↔c≤k; omega
theorem Uo (c k:Nat):decide ((c:Int) > (no_index (@OfNat.ofNat Int k instOfNat)))=decide (@OfNat.ofNat Nat k (instOfNatNat k) < c):=by
 rw [Bool.eq_iff_iff]; simp only [decide_eq_true_iff]; show (c:Int) > (k:Int)↔k < c; omega
theorem Ur (c k:Nat):decide ((c:Int) ≥ (no_index (@OfNat.ofNat Int k instOfNat)))=decide (@OfNat.ofNat Nat k (instOfNatNat k)≤c):=by
 rw [Bool.eq_iff_iff]; simp only [decide_eq_true_iff]; show (c:Int) ≥ (k:Int)↔k≤c; omega
theorem Qe (a b:Nat):((a:Int) == (b:Int))=(a == b):=by
 rw [Bool.eq_iff_iff]; simp only [beq_iff_eq]; omega
theorem SQ (a b:Nat):((a:Int) != (b:Int))=!(a == b):=by
 show (!((a:Int) == (b:Int)))=_; rw [Qe]
theorem Ux (a b:Nat):decide ((a:Int) < (b:Int))=decide (a < b):=by
 rw [Bool.eq_iff_iff]; simp only [decide_eq_true_iff]; omega
theorem Um (a b:Nat):decide ((a:Int)≤(b:Int))=decide (a≤b):=by
 rw [Bool.eq_iff_iff]; simp only [decide_eq_true_iff]; omega
theorem UF (a b:Nat):decide ((a:Int) > (b:Int))=decide (b < a):=by
 rw [Bool.eq_iff_iff]; simp only [decide_eq_true_iff]; omega
theorem UN (a b:Nat):decide ((a:Int) ≥ (b:Int))=decide (b≤a):=by
 rw [Bool.eq_iff_iff]; simp only [decide_eq_true_iff]; omega
theorem B8 {z:Int} (h0 : 0≤z) (h:z < 9223372036854775808):IntKind.i64.wrap z=z:=by
 obtain⟨n,rfl⟩:=Int.eq_ofNat_of_zero_le h0;exact vJ (by omega)
theorem S5 {i k:Nat} (h:i + @OfNat.ofNat Nat k (instOfNatNat k) < 9223372036854775808):IntKind.i64.wrap ((i:Int) + (no_index (@OfNat.ofNat Int k instOfNat)))=((i + @OfNat.ofNat Nat k (instOfNatNat k):Nat):Int):=by
 have:((i + @OfNat.ofNat Nat k (instOfNatNat k):Nat):Int)=(i:Int) + (@OfNat.ofNat Int k instOfNat):=Int.natCast_add i k;rw [this];exact B8 (by show 0≤(i:Int) + (k:Int); omega) (by change i + k < _ at h; show (i:Int) + (k:Int) < _; omega)
theorem Sb {i k:Nat} (h:i + k < 9223372036854775808):IntKind.i64.wrap ((i:Int) + (k:Int))=((i + k:Nat):Int):=by
 rw [B8 (by omega) (by omega)]; omega
theorem Qy {i k:Nat} (h : @OfNat.ofNat Nat k (instOfNatNat k)≤i∧i < 9223372036854775808):IntKind.i64.wrap ((i:Int) - (no_index (@OfNat.ofNat Int k instOfNat)))=((i - @OfNat.ofNat Nat k (instOfNatNat k):Nat):Int):=by
 have:((i - @OfNat.ofNat Nat k (instOfNatNat k):Nat):Int)=(i:Int) - (@OfNat.ofNat Int k instOfNat):=Int.ofNat_sub h.1;rw [this];exact B8 (by have h1:k≤i:=h.1; show 0≤(i:Int) - (k:Int); omega) (by show (i:Int) - (k:Int) < _; omega)
theorem Sc {i k:Nat} (h:k≤i∧i < 9223372036854775808):IntKind.i64.wrap ((i:Int) - (k:Int))=((i - k:Nat):Int):=by
 rw [B8 (by omega) (by omega)]; omega
theorem l7 (t:Nat) (x y:Operand) {a b:ByteArray} (h:a.size + b.size < 9223372036854775808):gP P .add t x y (.sc (.string a)) (.sc (.string b))=some (.sc (.string (a ++ b))):=by
 have e:Dj P .add t x y (.string a) (.string b)=some (.string (a ++ b)):=by
  show eb P (if ((a.size + b.size:Nat):Int) > IntKind.i64.max then _ else pure (Value.string (a ++ b)))=_;rw [if_neg (by show ¬ (((a.size + b.size:Nat):Int) > 9223372036854775807); omega)];rfl
 simp only [gP,jz,e]; rfl
theorem ET (d t:Nat) (l:List PI) (f:aO) (s:PS):kg P Γ ext (mt d t :: l) f s=kg P Γ ext l (f.set d (f t)) s:=(rfl)
theorem EH (d:Nat) (v:Value) (l:List PI) (f:aO) (s:PS):kg P Γ ext (mk d v :: l) f s=kg P Γ ext l (f.set d (bH v)) s:=(rfl)
theorem wG (l:List PI) (t:Nat) (a b:bw) (f:aO) (s:PS):aS P Γ ext (uH l t a b) f s=gR (I3 (kg P Γ ext l f s)) (aS P Γ ext (.cond (.tmp t) a b)):=by
 unfold uH; rw [aD,bB]
theorem AH (l:List PI) (c:bw) (f:aO) (s:PS):aS P Γ ext (sr l c) f s=gR (I3 (kg P Γ ext l f s)) (aS P Γ ext c):=by
 unfold sr; rw [aD,bB]
theorem A3 (id:Nat) (b r:bw) (f:aO) (s:PS):aS P Γ ext (lt id b r) f s=LP P Γ ext id b r f s:=by
 unfold lt LP; rw [aD,ce]
def Er (V:aO→PS→Prop) (r:jI):Prop:=∃f s,r=some (.ret,f,s)∧V f s
theorem Ew (V:aO→PS→Prop) (f:aO) (s:PS):Er V (some (.ret,f,s))↔V f s:=
 ⟨fun ⟨_,_,h,q⟩=>by injection h with h; injection h with _ h; injection h with h1 h2; subst h1; subst h2; exact q,fun q=>⟨_,_,rfl,q⟩⟩
theorem Er.mono {V V':aO→PS→Prop}{r:jI} (h:Er V r) (k:∀f s,V f s→V' f s):Er V' r:=
 let ⟨f,s,e,q⟩:=h; ⟨f,s,e,k f s q⟩
noncomputable def KP (P:Program) (Γ:Nat→Option fN) (ext:ai) (L:aO→PS→jI) (id:Nat) (rest:bw) (r:jI):jI:=r.bind fun q=>match q.1 with
 | .normal=>L q.2.1 q.2.2
 | .exit j=>if j=id then aS P Γ ext rest q.2.1 q.2.2 else some q
 | .ret=>some q
theorem JV (L:aO→PS→jI) (id:Nat) (rest:bw) (f:aO) (s:PS):KP P Γ ext L id rest (some (.normal,f,s))=L f s:=(rfl)
theorem O3 (L:aO→PS→jI) (id j:Nat) (rest:bw) (f:aO) (s:PS):KP P Γ ext L id rest (some (.exit j,f,s))=if j=id then aS P Γ ext rest f s else some (.exit j,f,s):=(rfl)
theorem NN (L:aO→PS→jI) (id:Nat) (rest:bw) (f:aO) (s:PS):KP P Γ ext L id rest (some (.ret,f,s))=some (.ret,f,s):=(rfl)
theorem ac {id:Nat}{body rest:bw}{f:aO}{s:PS}{R:jI→Prop} (h:∀L,L=LP P Γ ext id body rest→R (KP P Γ ext L id rest (aS P Γ ext body f s))):R (LP P Γ ext id body rest f s):=by
 have e:LP P Γ ext id body rest f s=KP P Γ ext (LP P Γ ext id body rest) id rest (aS P Γ ext body f s):=by
  rw [oi];unfold Pp KP;cases aS P Γ ext body f s with
  | none=>rfl
  | some q=>
   obtain⟨x,f1,s1⟩:=q;cases x with
   | normal=>rfl
   | exit j=>
    rw [iT,w8];simp only [Option.bind_some];split
    ·rw [cG]
    ·rw [iT]
   | ret=>rfl
 rw [e];exact h _ rfl
theorem ij {V:aO→PS→Prop}{g:Nat}{fn:fN}{args:List PV}{s:PS}{q:PV × PS} (hg:Γ g=some fn) (hl:args.length≤fn.nt) (h:Er V (aS P Γ ext fn.body (cK args 0) ⟨s.h,s.n,s.n⟩)) (hk:∀f s',V f s'→aP fn s f s'=some q):aU P Γ ext g args s=some q:=by
 obtain⟨f,s',e,hv⟩:=h;rw [gv hg _ _ hl,e];exact hk f s' hv
theorem IC {g r:Nat}{fn:fN}{args:List PV}{s:PS}{u:Value} (hg:Γ g=some fn) (hl:args.length≤fn.nt) (hr:fn.res=[.tmp r]) (hk:fn.keep=false) (h:Er (fun f' s'=>s'=⟨s.h,s.n,s.n⟩∧f' r=.sc u) (aS P Γ ext fn.body (cK args 0) ⟨s.h,s.n,s.n⟩)):aU P Γ ext g args s=some (.sc u,s):=by
 refine ij hg hl h ?_;rintro f s' ⟨rfl,h⟩;exact fJ (vs:=[.sc u]) hk (by rw [hr]; simp only [ck,Option.map_some,h]) (Nat.le_refl _) rfl
theorem da {g r r2:Nat}{fn:fN}{args:List PV}{s:PS}{u v:Value} (hg:Γ g=some fn) (hl:args.length≤fn.nt) (hr:fn.res=[.tmp r,.tmp r2]) (hk:fn.keep=false) (h:Er (fun f' s'=>s'=⟨s.h,s.n,s.n⟩∧f' r=.sc u∧f' r2=.sc v) (aS P Γ ext fn.body (cK args 0) ⟨s.h,s.n,s.n⟩)):aU P Γ ext g args s=some (.tup [.sc u,.sc v],s):=by
 refine ij hg hl h ?_;rintro f s' ⟨rfl,h,h2⟩;exact fJ (vs:=[.sc u,.sc v]) hk (by rw [hr]; simp only [ck,Option.map_some,h,h2]) (Nat.le_refl _) rfl
theorem uj (l:List UInt8) (i:Nat):(l.getD i 0).toNat=Go.Mir.bt l i:=(rfl)
end
end Go.PE
namespace Go.PE
open Go Go.EvL
section
variable {P:Program}{Γ:Nat→Option fN}{ext:ai}
theorem SE (j:Nat) (w:Bool) (d t:Nat):gt j w d t=⟨some d,.mv (.tmp t),some (j,w)⟩:=rfl
theorem Tg (d:Nat) (p:kK):ob d p=⟨some d,p,none⟩:=rfl
theorem RU (j:Nat) (w:Bool) (d:Nat) (p:kK):og j w d p=⟨some d,p,some (j,w)⟩:=rfl
theorem T0 (p:kK):o0 p=⟨none,p,none⟩:=rfl
theorem SG (j:Nat) (w:Bool) (p:kK):g0 j w p=⟨none,p,some (j,w)⟩:=rfl
theorem Si (o:BinOp) (t x y:Nat):bn o t x y=.bin o t (.tmp x) (.tmp y):=rfl
theorem Sw (o:BinOp) (x:Nat) (n:Int):bi o x n=.bin o 3 (.tmp x) (.const (.int .i64 n)):=rfl
theorem RL (o:BinOp) (x:Nat) (n:Int):bc o x n=.bin o 5 (.tmp x) (.const (.int .u8 n)):=rfl
theorem Rv (a b:Nat):pk a b=.pick (.tmp a) (.tmp b) (.const (.bool false)):=rfl
theorem S9 (a b:Nat):po a b=.pick (.tmp a) (.const (.bool true)) (.tmp b):=rfl
theorem RH (g:Nat) (l:List Operand):cl g l=.call (.func g) l:=rfl
theorem NZ (f:aO):ef f none=some true:=rfl
theorem NX (f:aO) (d:Nat) (w:Bool):ef f (some (d,w))=match f d with
 | .sc (.bool b)=>some (b == w)
 | .sc (.tuple _)=>some false
 | _=>none:=rfl
theorem me (cs:List PV):bx (.agg cs)=cs:=rfl
theorem NR (v:Value):bx (.sc v)=[.sc v]:=rfl
theorem Ip (k off n fin:Nat):bx (.own k off n fin)=[.own k off n fin]:=rfl
theorem Ja (k off fin:Nat):bx (.ptr k off fin)=[.ptr k off fin]:=rfl
theorem NJ (g:Nat) (a c:List PV):bx (.fn g a c)=[.fn g a c]:=rfl
theorem Is (e n:Nat) (c:List PV):bx (.lit e n c)=[.lit e n c]:=rfl
theorem NP:undef=.tuple #[]:=rfl
theorem J9 (i:Nat):cK [] i=fun _=>.sc undef:=rfl
theorem HW (v:PV) (l:List PV) (i:Nat):cK (v :: l) i=aO.set (cK l (i + 1)) i v:=rfl
theorem An (d t:Nat) (ls un:List Nat) (l:List (PI × List Nat × List Nat)) (j:Nat) (acc:List (Nat × iY × Nat × Nat)) (f:aO) (s:PS):mZ P Γ ext ((mt d t,ls,un) :: l) j acc f s=Dx P Γ ext (aN P (aU P Γ ext) (dj ls f) s (.mv (.tmp t))) (some d) (cC (dj ls f) (.mv (.tmp t))) (gy (ez Γ) (dj ls f) ⟨some d,.mv (.tmp t),none⟩) un l j acc f s:=rj _ _ _ _ _ _ _ _ _
theorem zO (d:Nat) (v:Value) (ls un:List Nat) (l:List (PI × List Nat × List Nat)) (j:Nat) (acc:List (Nat × iY × Nat × Nat)) (f:aO) (s:PS):mZ P Γ ext ((mk d v,ls,un) :: l) j acc f s=Dx P Γ ext (aN P (aU P Γ ext) (dj ls f) s (.mv (.const v))) (some d) (cC (dj ls f) (.mv (.const v))) (gy (ez Γ) (dj ls f) ⟨some d,.mv (.const v),none⟩) un l j acc f s:=rj _ _ _ _ _ _ _ _ _
theorem ZA:type_of% (And.intro (@aD)<|And.intro (@bB)<|And.intro (@cq)<|And.intro (@aY)<|And.intro (@bV)<|And.intro (@aW)<|And.intro (@ce)<|And.intro (@bg)<|And.intro (@j8)<|And.intro (@ax)<|And.intro (@aq)<|And.intro (@jK)<|And.intro (@fD)<|And.intro (@fq)<|And.intro (@sT)<|And.intro (@Nat.zero_add)<|And.intro (@Nat.add_zero)<|And.intro (@Option.map_some.{0,0})<|And.intro (@Option.bind_some.{0,0})<|And.intro (@aI)<|And.intro (@aC)<|And.intro (@fB)<|And.intro (@aM)<|And.intro (@cG)<|And.intro (@mq)<|And.intro (@iT)<|And.intro (@lF)<|And.intro (@pw)<|And.intro (@w8)<|And.intro (@fy)<|And.intro (@gq)<|And.intro (@bz)<|And.intro (@aK)<|And.intro (@dw)<|And.intro (@cR)<|And.intro (@gV)<|And.intro (@dD)<|And.intro (@ek)<|And.intro (@kC)<|And.intro (@dl)<|And.intro (@List.length_cons.{0})<|And.intro (@List.length_nil.{0})<|And.intro (@Nat.left_eq_add)<|And.intro (@Nat.add_eq_left)<|And.intro (@Nat.add_left_cancel_iff)<|And.intro (@Nat.one_ne_zero)<|And.intro (@Nat.zero_le)<|And.intro (@and_self)<|And.intro (@true_and)<|And.intro (@and_true)<|And.intro (@List.drop_succ_cons.{0})<|And.intro (@List.drop_zero.{0})<|And.intro (@List.take_succ_cons.{0})<|And.intro (@List.take_zero.{0})<|And.intro (@Nat.le_refl)<|And.intro (@gN)<|And.intro (@Es)<|And.intro (@dI)<|And.intro (@E0)<|And.intro (@EJ)<|And.intro (@Ea)<|And.intro (@lR)<|And.intro (@gw)<|And.intro (@kX)<|And.intro (@jV)<|And.intro (@rU)<|And.intro (@beq_self_eq_true.{0})<|And.intro (@Bool.not_true)<|And.intro (@Bool.not_false)<|And.intro (@G9)<|And.intro (@Gw)<|And.intro (@Nat.min_eq_left)<|And.intro (@Nat.le_add_right)<|And.intro (@Nat.min_self)<|And.intro (@List.map_cons.{0,0})<|And.intro (@List.map_nil.{0,0})<|And.intro (@List.nil_append.{0})<|And.intro (@List.append_nil.{0})<|And.intro (@List.cons_append.{0})<|And.intro (@i4)<|And.intro (@K6)<|And.intro (@Bool.true_eq_false)<|And.intro (@Bool.false_eq_true)<|And.intro (@ne_eq.{1})<|And.intro (@not_true_eq_false)<|And.intro (@not_false_eq_true)<|And.intro (@bne_self_eq_false.{0})<|And.intro (@uN)<|And.intro (@eE)<|And.intro (@xj)<|And.intro (@decide_true)<|And.intro (@decide_false)<|And.intro (@gp)<|And.intro (@oZ)<|And.intro (@pj)<|And.intro (@NL)<|And.intro (@rl)<|And.intro (@List.getElem?_cons_zero.{0})<|And.intro (@List.getElem?_cons_succ.{0})<|And.intro (@wG)<|And.intro (@AH)<|And.intro (@A3)<|And.intro (@JV)<|And.intro (@O3)<|And.intro (@NN)<|And.intro (@Ew)<|And.intro (@EL)<|And.intro (@Ah)<|And.intro (@AZ)<|And.intro (@Bu)<|And.intro (@Bp)<|And.intro (@Bl)<|And.intro (@zW)<|And.intro (@OY)<|And.intro (@Rm)<|And.intro (@Ud)<|And.intro (@Uv)<|And.intro (@Uo)<|And.intro (@Ur)<|And.intro (@Qe)<|And.intro (@SQ)<|And.intro (@Ux)<|And.intro (@Um)<|And.intro (@UF)<|And.intro (@UN)<|And.intro (@S5)<|And.intro (@Sb)<|And.intro (@Qy)<|And.intro (@Sc)<|And.intro (@uj)<|And.intro (@SE)<|And.intro (@Tg)<|And.intro (@RU)<|And.intro (@T0)<|And.intro (@SG)<|And.intro (@Si)<|And.intro (@Sw)<|And.intro (@RL)<|And.intro (@Rv)<|And.intro (@S9)<|And.intro (@RH)<|And.intro (@NZ)<|And.intro (@NX)<|And.intro (@NP)<|And.intro (@J9)<|And.intro (@HW)<|And.intro (@ET)<|And.intro (@EH)<|And.intro (@me)<|And.intro (@NR)<|And.intro (@Ip)<|And.intro (@Ja)<|And.intro (@NJ)<|@Is):=And.intro (@aD)<|And.intro (@bB)<|And.intro (@cq)<|And.intro (@aY)<|And.intro (@bV)<|And.intro (@aW)<|And.intro (@ce)<|And.intro (@bg)<|And.intro (@j8)<|And.intro (@ax)<|And.intro (@aq)<|And.intro (@jK)<|And.intro (@fD)<|And.intro (@fq)<|And.intro (@sT)<|And.intro (@Nat.zero_add)<|And.intro (@Nat.add_zero)<|And.intro (@Option.map_some.{0,0})<|And.intro (@Option.bind_some.{0,0})<|And.intro (@aI)<|And.intro (@aC)<|And.intro (@fB)<|And.intro (@aM)<|And.intro (@cG)<|And.intro (@mq)<|And.intro (@iT)<|And.intro (@lF)<|And.intro (@pw)<|And.intro (@w8)<|And.intro (@fy)<|And.intro (@gq)<|And.intro (@bz)<|And.intro (@aK)<|And.intro (@dw)<|And.intro (@cR)<|And.intro (@gV)<|And.intro (@dD)<|And.intro (@ek)<|And.intro (@kC)<|And.intro (@dl)<|And.intro (@List.length_cons.{0})<|And.intro (@List.length_nil.{0})<|And.intro (@Nat.left_eq_add)<|And.intro (@Nat.add_eq_left)<|And.intro (@Nat.add_left_cancel_iff)<|And.intro (@Nat.one_ne_zero)<|And.intro (@Nat.zero_le)<|And.intro (@and_self)<|And.intro (@true_and)<|And.intro (@and_true)<|And.intro (@List.drop_succ_cons.{0})<|And.intro (@List.drop_zero.{0})<|And.intro (@List.take_succ_cons.{0})<|And.intro (@List.take_zero.{0})<|And.intro (@Nat.le_refl)<|And.intro (@gN)<|And.intro (@Es)<|And.intro (@dI)<|And.intro (@E0)<|And.intro (@EJ)<|And.intro (@Ea)<|And.intro (@lR)<|And.intro (@gw)<|And.intro (@kX)<|And.intro (@jV)<|And.intro (@rU)<|And.intro (@beq_self_eq_true.{0})<|And.intro (@Bool.not_true)<|And.intro (@Bool.not_false)<|And.intro (@G9)<|And.intro (@Gw)<|And.intro (@Nat.min_eq_left)<|And.intro (@Nat.le_add_right)<|And.intro (@Nat.min_self)<|And.intro (@List.map_cons.{0,0})<|And.intro (@List.map_nil.{0,0})<|And.intro (@List.nil_append.{0})<|And.intro (@List.append_nil.{0})<|And.intro (@List.cons_append.{0})<|And.intro (@i4)<|And.intro (@K6)<|And.intro (@Bool.true_eq_false)<|And.intro (@Bool.false_eq_true)<|And.intro (@ne_eq.{1})<|And.intro (@not_true_eq_false)<|And.intro (@not_false_eq_true)<|And.intro (@bne_self_eq_false.{0})<|And.intro (@uN)<|And.intro (@eE)<|And.intro (@xj)<|And.intro (@decide_true)<|And.intro (@decide_false)<|And.intro (@gp)<|And.intro (@oZ)<|And.intro (@pj)<|And.intro (@NL)<|And.intro (@rl)<|And.intro (@List.getElem?_cons_zero.{0})<|And.intro (@List.getElem?_cons_succ.{0})<|And.intro (@wG)<|And.intro (@AH)<|And.intro (@A3)<|And.intro (@JV)<|And.intro (@O3)<|And.intro (@NN)<|And.intro (@Ew)<|And.intro (@EL)<|And.intro (@Ah)<|And.intro (@AZ)<|And.intro (@Bu)<|And.intro (@Bp)<|And.intro (@Bl)<|And.intro (@zW)<|And.intro (@OY)<|And.intro (@Rm)<|And.intro (@Ud)<|And.intro (@Uv)<|And.intro (@Uo)<|And.intro (@Ur)<|And.intro (@Qe)<|And.intro (@SQ)<|And.intro (@Ux)<|And.intro (@Um)<|And.intro (@UF)<|And.intro (@UN)<|And.intro (@S5)<|And.intro (@Sb)<|And.intro (@Qy)<|And.intro (@Sc)<|And.intro (@uj)<|And.intro (@SE)<|And.intro (@Tg)<|And.intro (@RU)<|And.intro (@T0)<|And.intro (@SG)<|And.intro (@Si)<|And.intro (@Sw)<|And.intro (@RL)<|And.intro (@Rv)<|And.intro (@S9)<|And.intro (@RH)<|And.intro (@NZ)<|And.intro (@NX)<|And.intro (@NP)<|And.intro (@J9)<|And.intro (@HW)<|And.intro (@ET)<|And.intro (@EH)<|And.intro (@me)<|And.intro (@NR)<|And.intro (@Ip)<|And.intro (@Ja)<|And.intro (@NJ)<|@Is
theorem ZD:type_of% (And.intro (@zm)<|And.intro (@s7)<|And.intro (@rj)<|And.intro (@E9)<|And.intro (@uB)<|And.intro (@vj)<|And.intro (@zN)<|And.intro (@wM)<|And.intro (@zh)<|And.intro (@se)<|And.intro (@Bb)<|And.intro (@Ez)<|And.intro (@pY)<|And.intro (@uW)<|And.intro (@rW)<|And.intro (@rY)<|And.intro (@List.mem_cons.{0})<|And.intro (@List.not_mem_nil.{0})<|And.intro (@or_false)<|And.intro (@false_or)<|And.intro (@or_true)<|And.intro (@true_or)<|And.intro (@or_self)<|And.intro (@implies_true.{0})<|And.intro (@false_implies)<|And.intro (@forall_const.{1})<|And.intro (@true_implies)<|And.intro (@An)<|@zO):=And.intro (@zm)<|And.intro (@s7)<|And.intro (@rj)<|And.intro (@E9)<|And.intro (@uB)<|And.intro (@vj)<|And.intro (@zN)<|And.intro (@wM)<|And.intro (@zh)<|And.intro (@se)<|And.intro (@Bb)<|And.intro (@Ez)<|And.intro (@pY)<|And.intro (@uW)<|And.intro (@rW)<|And.intro (@rY)<|And.intro (@List.mem_cons.{0})<|And.intro (@List.not_mem_nil.{0})<|And.intro (@or_false)<|And.intro (@false_or)<|And.intro (@or_true)<|And.intro (@true_or)<|And.intro (@or_self)<|And.intro (@implies_true.{0})<|And.intro (@false_implies)<|And.intro (@forall_const.{1})<|And.intro (@true_implies)<|And.intro (@An)<|@zO
end
theorem UG:(∀P q f s a,aN P q f s (.mv a)=bm P f s (.mv a))∧(∀P q f s a b c,aN P q f s (.pick a b c)=bm P f s (.pick a b c))∧(∀P q f s a b,aN P q f s (.alloc a b)=bm P f s (.alloc a b))∧(∀P q f s a b,aN P q f s (.box a b)=bm P f s (.box a b))∧(∀P q f s a b,aN P q f s (.build a b)=bm P f s (.build a b))∧(∀P q f s a b c d,aN P q f s (.bslice a b c d)=bm P f s (.bslice a b c d))∧(∀P q f s a b c d,aN P q f s (.load a b c d)=bm P f s (.load a b c d))∧(∀P q f s a b c d,aN P q f s (.store a b c d)=bm P f s (.store a b c d))∧(∀P q f s a b,aN P q f s (.faddr a b)=bm P f s (.faddr a b))∧(∀P q f s a b c d,aN P q f s (.fld a b c d)=bm P f s (.fld a b c d))∧(∀P q f s a b c,aN P q f s (.iaddr a b c)=bm P f s (.iaddr a b c))∧(∀P q f s a b,aN P q f s (.sidx a b)=bm P f s (.sidx a b))∧(∀P q f s a b c d,aN P q f s (.bin a b c d)=bm P f s (.bin a b c d))∧(∀P q f s a b,aN P q f s (.un a b)=bm P f s (.un a b))∧(∀P q f s a b,aN P q f s (.len a b)=bm P f s (.len a b))∧(∀P q f s a b c d e,aN P q f s (.app a b c d e)=bm P f s (.app a b c d e))∧(∀P q f s a b c d e,aN P q f s (.slc a b c d e)=bm P f s (.slc a b c d e))∧(∀P q f s a b c d e,aN P q f s (.slc3 a b c d e)=bm P f s (.slc3 a b c d e))∧(∀P q f s a b c,aN P q f s (.sslc a b c)=bm P f s (.sslc a b c))∧(∀P q f s a b c,aN P q f s (.mkfn a b c)=bm P f s (.mkfn a b c))∧(∀P q f s a b,aN P q f s (.ext a b)=bm P f s (.ext a b))∧(∀P q f s a b,aN P q f s (.conv a b)=bm P f s (.conv a b))∧(∀P q f s a b c,aN P q f s (.mnx a b c)=bm P f s (.mnx a b c))∧(∀P q f s a,aN P q f s (.nck a)=bm P f s (.nck a))∧(∀P q f s a b c d e g,aN P q f s (.mks a b c d e g)=bm P f s (.mks a b c d e g))∧(∀P q f s a b c,aN P q f s (.cpy a b c)=bm P f s (.cpy a b c)):=by
 refine⟨?_,?_,?_,?_,?_,?_,?_,?_,?_,?_,?_,?_,?_,?_,?_,?_,?_,?_,?_,?_,?_,?_,?_,?_,?_,?_⟩<;>intros<;>rfl
theorem Uw:(∀a b,bH (.int a b)=.sc (.int a b))∧(∀a,bH (.string a)=.sc (.string a))∧(∀a,bH (.bool a)=.sc (.bool a))∧(∀a b c,bH (.slice a b c)=.sc (.slice a b c))∧(∀a,bH (.tuple a)=.sc (.tuple a))∧(∀a,bH (.pointer a)=.sc (.pointer a))∧(bH .nilIface=.sc .nilIface)∧(∀a b,bH (.iface a b)=.sc (.iface a b))∧(∀a,bH (.map a)=.sc (.map a))∧(∀v,au true v=some (.agg v))∧(∀v,au false [v]=some v)∧(∀v,br [v]=v)∧(br []=.tup [])∧(∀v w l,br (v :: w :: l)=.tup (v :: w :: l))∧(∀n s a,cx n s (.sc a)=bQ n s (.sc a))∧(∀n s a,cx n s (.tup a)=bQ n s (.tup a))∧(∀n s a b c,cx n s (.lit a b c)=bQ n s (.lit a b c))∧(∀n s a,cx n s (.litp a)=bQ n s (.litp a))∧(∀n s a b c,cx n s (.litx a b c)=bQ n s (.litx a b c))∧(∀n s a b c d,cx n s (.own a b c d)=bQ n s (.own a b c d))∧(∀n s a b c,cx n s (.ptr a b c)=bQ n s (.ptr a b c))∧(∀n s a b c,cx n s (.fn a b c)=bQ n s (.fn a b c))∧(∀n s a,PE.frz n s (.sc a)=cx n s (.sc a))∧(∀n s a,PE.frz n s (.agg a)=cx n s (.agg a))∧(∀n s a b c,PE.frz n s (.lit a b c)=cx n s (.lit a b c))∧(∀n s a,PE.frz n s (.litp a)=cx n s (.litp a))∧(∀n s a b c,PE.frz n s (.litx a b c)=cx n s (.litx a b c))∧(∀n s a b c d,PE.frz n s (.own a b c d)=cx n s (.own a b c d))∧(∀n s a b c,PE.frz n s (.ptr a b c)=cx n s (.ptr a b c))∧(∀n s a b c,PE.frz n s (.fn a b c)=cx n s (.fn a b c)):=by
 refine⟨?_,?_,?_,?_,?_,?_,?_,?_,?_,?_,?_,?_,?_,?_,?_,?_,?_,?_,?_,?_,?_,?_,?_,?_,?_,?_,?_,?_,?_,?_⟩<;>intros<;>rfl
theorem Uh:(∀f a,cC f (.mv a)=⟨[],[],false,false⟩)∧(∀f a b c,cC f (.pick a b c)=⟨[],[],false,false⟩)∧(∀f a b,cC f (.alloc a b)=⟨[],[],false,false⟩)∧(∀f a b,cC f (.box a b)=⟨[],[],false,false⟩)∧(∀f a b,cC f (.build a b)=⟨[],[],false,false⟩)∧(∀f a b c d,cC f (.bslice a b c d)=⟨[],[],false,false⟩)∧(∀f a b,cC f (.faddr a b)=⟨[],[],false,false⟩)∧(∀f a b c d,cC f (.fld a b c d)=⟨[],[],false,false⟩)∧(∀f a b c,cC f (.iaddr a b c)=⟨[],[],false,false⟩)∧(∀f a b,cC f (.sidx a b)=⟨[],[],false,false⟩)∧(∀f a b c d,cC f (.bin a b c d)=⟨[],[],false,false⟩)∧(∀f a b,cC f (.un a b)=⟨[],[],false,false⟩)∧(∀f a b,cC f (.len a b)=⟨[],[],false,false⟩)∧(∀f a b c,cC f (.sslc a b c)=⟨[],[],false,false⟩)∧(∀f a b c,cC f (.mkfn a b c)=⟨[],[],false,false⟩)∧(∀f a b,cC f (.ext a b)=⟨[],[],false,false⟩)∧(∀f a b,cC f (.conv a b)=⟨[],[],false,false⟩)∧(∀f a b c,cC f (.mnx a b c)=⟨[],[],false,false⟩)∧(∀f a,cC f (.nck a)=⟨[],[],false,false⟩)∧(∀f a b c d e g,cC f (.mks a b c d e g)=⟨[],[],false,false⟩)∧(∀a,ec (.sc a)=⟨[],[],false,false⟩)∧(∀a,ec (.agg a)=⟨[],[],false,false⟩)∧(∀a,ec (.tup a)=⟨[],[],false,false⟩)∧(∀a b c,ec (.fn a b c)=⟨[],[],false,false⟩):=by
 refine⟨?_,?_,?_,?_,?_,?_,?_,?_,?_,?_,?_,?_,?_,?_,?_,?_,?_,?_,?_,?_,?_,?_,?_,?_⟩<;>intros<;>rfl
theorem ZS:type_of% (And.intro (@ZA)<|And.intro (@UG)<|And.intro (@Uw)<|And.intro (@aN.eq_1)<|And.intro (@bm.eq_1)<|And.intro (@bm.eq_2)<|And.intro (@bm.eq_3)<|And.intro (@bm.eq_4)<|And.intro (@bm.eq_5)<|And.intro (@bm.eq_6)<|And.intro (@bm.eq_7)<|And.intro (@bm.eq_8)<|And.intro (@bm.eq_9)<|And.intro (@bm.eq_10)<|And.intro (@bm.eq_11)<|And.intro (@bm.eq_12)<|And.intro (@bm.eq_13)<|And.intro (@bm.eq_14)<|And.intro (@bm.eq_15)<|And.intro (@bm.eq_16)<|And.intro (@bm.eq_17)<|And.intro (@bm.eq_18)<|And.intro (@bm.eq_19)<|And.intro (@bm.eq_20)<|And.intro (@bm.eq_21)<|And.intro (@bm.eq_22)<|And.intro (@bm.eq_23)<|And.intro (@bm.eq_24)<|And.intro (@bm.eq_25)<|And.intro (@bm.eq_26)<|And.intro (@bm.eq_27)<|And.intro (@bH.eq_1)<|And.intro (@bH.eq_2)<|And.intro (@bS.eq_1)<|And.intro (@aP.eq_1)<|And.intro (@ck.eq_1)<|And.intro (@ck.eq_2)<|And.intro (@ck.eq_3)<|And.intro (@frz.eq_1)<|And.intro (@cx.eq_1)<|And.intro (@bQ.eq_1)<|And.intro (@bQ.eq_2)<|And.intro (@bQ.eq_3)<|And.intro (@bQ.eq_4)<|And.intro (@bQ.eq_5)<|And.intro (@bQ.eq_6)<|And.intro (@bQ.eq_7)<|And.intro (@bQ.eq_8)<|And.intro (@dK.eq_1)<|And.intro (@dK.eq_2)<|And.intro (@eA.eq_1)<|And.intro (@eA.eq_2)<|And.intro (@eA.eq_3)<|And.intro (@eA.eq_4)<|And.intro (@eA.eq_5)<|And.intro (@eA.eq_6)<|And.intro (@eB.eq_1)<|And.intro (@eB.eq_2)<|And.intro (@ig.eq_1)<|And.intro (@ig.eq_2)<|And.intro (@fw.eq_1)<|And.intro (@fw.eq_2)<|And.intro (@vZ.eq_1)<|And.intro (@vZ.eq_2)<|And.intro (@vZ.eq_3)<|And.intro (@vZ.eq_4)<|And.intro (@eU.eq_1)<|And.intro (@eU.eq_2)<|And.intro (@eU.eq_3)<|@eU.eq_4):=And.intro (@ZA)<|And.intro (@UG)<|And.intro (@Uw)<|And.intro (@aN.eq_1)<|And.intro (@bm.eq_1)<|And.intro (@bm.eq_2)<|And.intro (@bm.eq_3)<|And.intro (@bm.eq_4)<|And.intro (@bm.eq_5)<|And.intro (@bm.eq_6)<|And.intro (@bm.eq_7)<|And.intro (@bm.eq_8)<|And.intro (@bm.eq_9)<|And.intro (@bm.eq_10)<|And.intro (@bm.eq_11)<|And.intro (@bm.eq_12)<|And.intro (@bm.eq_13)<|And.intro (@bm.eq_14)<|And.intro (@bm.eq_15)<|And.intro (@bm.eq_16)<|And.intro (@bm.eq_17)<|And.intro (@bm.eq_18)<|And.intro (@bm.eq_19)<|And.intro (@bm.eq_20)<|And.intro (@bm.eq_21)<|And.intro (@bm.eq_22)<|And.intro (@bm.eq_23)<|And.intro (@bm.eq_24)<|And.intro (@bm.eq_25)<|And.intro (@bm.eq_26)<|And.intro (@bm.eq_27)<|And.intro (@bH.eq_1)<|And.intro (@bH.eq_2)<|And.intro (@bS.eq_1)<|And.intro (@aP.eq_1)<|And.intro (@ck.eq_1)<|And.intro (@ck.eq_2)<|And.intro (@ck.eq_3)<|And.intro (@frz.eq_1)<|And.intro (@cx.eq_1)<|And.intro (@bQ.eq_1)<|And.intro (@bQ.eq_2)<|And.intro (@bQ.eq_3)<|And.intro (@bQ.eq_4)<|And.intro (@bQ.eq_5)<|And.intro (@bQ.eq_6)<|And.intro (@bQ.eq_7)<|And.intro (@bQ.eq_8)<|And.intro (@dK.eq_1)<|And.intro (@dK.eq_2)<|And.intro (@eA.eq_1)<|And.intro (@eA.eq_2)<|And.intro (@eA.eq_3)<|And.intro (@eA.eq_4)<|And.intro (@eA.eq_5)<|And.intro (@eA.eq_6)<|And.intro (@eB.eq_1)<|And.intro (@eB.eq_2)<|And.intro (@ig.eq_1)<|And.intro (@ig.eq_2)<|And.intro (@fw.eq_1)<|And.intro (@fw.eq_2)<|And.intro (@vZ.eq_1)<|And.intro (@vZ.eq_2)<|And.intro (@vZ.eq_3)<|And.intro (@vZ.eq_4)<|And.intro (@eU.eq_1)<|And.intro (@eU.eq_2)<|And.intro (@eU.eq_3)<|@eU.eq_4
theorem ZT:type_of% (And.intro (@ZD)<|And.intro (@Uh)<|And.intro (@cC.eq_1)<|And.intro (@cC.eq_2)<|And.intro (@cC.eq_3)<|And.intro (@cC.eq_4)<|And.intro (@cC.eq_5)<|And.intro (@cC.eq_6)<|And.intro (@cC.eq_7)<|And.intro (@ec.eq_1)<|And.intro (@ec.eq_2)<|And.intro (@ec.eq_3)<|And.intro (@ec.eq_4)<|And.intro (@ec.eq_5)<|@gy.eq_1):=And.intro (@ZD)<|And.intro (@Uh)<|And.intro (@cC.eq_1)<|And.intro (@cC.eq_2)<|And.intro (@cC.eq_3)<|And.intro (@cC.eq_4)<|And.intro (@cC.eq_5)<|And.intro (@cC.eq_6)<|And.intro (@cC.eq_7)<|And.intro (@ec.eq_1)<|And.intro (@ec.eq_2)<|And.intro (@ec.eq_3)<|And.intro (@ec.eq_4)<|And.intro (@ec.eq_5)<|@gy.eq_1
theorem ZX:type_of% (And.intro (@Bool.false_and)<|And.intro (@Bool.true_and)<|And.intro (@Bool.true_or)<|And.intro (@Bool.false_or)<|And.intro (@Bool.and_self)<|And.intro (@Bool.or_false)<|And.intro (@Bool.and_false)<|And.intro (@Bool.and_true)<|And.intro (@Bool.or_true)<|And.intro (@Bool.false_eq_true)<|And.intro (@Bool.not_true)<|And.intro (@Bool.not_false)<|And.intro (@List.all_cons.{0})<|And.intro (@List.drop_nil.{0})<|And.intro (@List.take_nil.{0})<|And.intro (@List.all_nil.{0})<|And.intro (@List.length_nil.{0})<|And.intro (@List.length_cons.{0})<|And.intro (@beq_self_eq_true.{0})<|And.intro (@List.drop_zero.{0})<|And.intro (@Option.map_some.{0,0})<|And.intro (@Option.bind_some.{0,0})<|And.intro (@Option.map_none.{0,0})<|And.intro (@Option.bind_none.{0,0})<|And.intro (@Bool.or_self)<|And.intro (@List.take_succ_cons.{0})<|And.intro (@List.drop_succ_cons.{0})<|And.intro (@List.take_zero.{0})<|And.intro (@Nat.zero_add)<|And.intro (@List.nil_append.{0})<|And.intro (@List.cons_append.{0})<|And.intro (@if_true.{1})<|And.intro (@if_false.{1})<|And.intro (@aq)<|And.intro (@jK)<|@ax):=And.intro (@Bool.false_and)<|And.intro (@Bool.true_and)<|And.intro (@Bool.true_or)<|And.intro (@Bool.false_or)<|And.intro (@Bool.and_self)<|And.intro (@Bool.or_false)<|And.intro (@Bool.and_false)<|And.intro (@Bool.and_true)<|And.intro (@Bool.or_true)<|And.intro (@Bool.false_eq_true)<|And.intro (@Bool.not_true)<|And.intro (@Bool.not_false)<|And.intro (@List.all_cons.{0})<|And.intro (@List.drop_nil.{0})<|And.intro (@List.take_nil.{0})<|And.intro (@List.all_nil.{0})<|And.intro (@List.length_nil.{0})<|And.intro (@List.length_cons.{0})<|And.intro (@beq_self_eq_true.{0})<|And.intro (@List.drop_zero.{0})<|And.intro (@Option.map_some.{0,0})<|And.intro (@Option.bind_some.{0,0})<|And.intro (@Option.map_none.{0,0})<|And.intro (@Option.bind_none.{0,0})<|And.intro (@Bool.or_self)<|And.intro (@List.take_succ_cons.{0})<|And.intro (@List.drop_succ_cons.{0})<|And.intro (@List.take_zero.{0})<|And.intro (@Nat.zero_add)<|And.intro (@List.nil_append.{0})<|And.intro (@List.cons_append.{0})<|And.intro (@if_true.{1})<|And.intro (@if_false.{1})<|And.intro (@aq)<|And.intro (@jK)<|@ax
theorem tv:True:=trivial
theorem cO {α:Type} [BEq α] (a b:α):(a != b)=!(a == b):=rfl
theorem eY {P:Prop}  (h:P:=by simp -implicitDefEqProofs (disch:=omega) only [ZA,Nat.reduceAdd,Nat.reduceEqDiff,↓reduceIte,Nat.reduceLeDiff,reduceCtorEq,Nat.reduceBEq,Nat.reduceLT,aN,bm,bH,au,bS,aP,ck,br,frz,cx,bQ,dK]<;>first | rfl | exact Nat.le_refl _ | assumption | omega):P:=h
theorem HQ {P Q:Prop}  (q:Q) (h:Q→P:=by intro  q; simp -implicitDefEqProofs (disch:=omega) only [ZA,Nat.reduceAdd,Nat.reduceEqDiff,↓reduceIte,Nat.reduceLeDiff,reduceCtorEq,Nat.reduceBEq,Nat.reduceLT,aN,bm,bH,au,bS,aP,ck,br,frz,cx,bQ,dK]; exact q):P:=h  q
theorem bh {P:Prop}  (h:P:=by simp -implicitDefEqProofs (disch:=omega) only [ZS,seval,ZX]<;>first | rfl | exact Nat.le_refl _ | assumption | omega):P:=h
theorem Hm {P Q:Prop}  (q:Q) (h:Q→P:=by intro  q; simp -implicitDefEqProofs (disch:=omega) only [ZS,seval,ZX]; exact q):P:=h  q
theorem fR {p0 P:Prop} (h0:p0) (h:p0→P:=by intro h0; simp -implicitDefEqProofs (disch:=omega) only [ZA,Nat.reduceAdd,Nat.reduceEqDiff,↓reduceIte,Nat.reduceLeDiff,reduceCtorEq,Nat.reduceBEq,Nat.reduceLT,aN,bm,bH,au,bS,aP,ck,br,frz,cx,bQ,dK,h0]<;>first | rfl | exact Nat.le_refl _ | assumption | omega):P:=h h0
theorem Sx {p0 P Q:Prop} (h0:p0) (q:Q) (h:p0→Q→P:=by intro h0 q; simp -implicitDefEqProofs (disch:=omega) only [ZA,Nat.reduceAdd,Nat.reduceEqDiff,↓reduceIte,Nat.reduceLeDiff,reduceCtorEq,Nat.reduceBEq,Nat.reduceLT,aN,bm,bH,au,bS,aP,ck,br,frz,cx,bQ,dK,h0]; exact q):P:=h h0 q
theorem aL {p0 P:Prop} (h0:p0) (h:p0→P:=by intro h0; simp -implicitDefEqProofs (disch:=omega) only [ZS,seval,ZX,h0]<;>first | rfl | exact Nat.le_refl _ | assumption | omega):P:=h h0
theorem tJ {p0 P Q:Prop} (h0:p0) (q:Q) (h:p0→Q→P:=by intro h0 q; simp -implicitDefEqProofs (disch:=omega) only [ZS,seval,ZX,h0]; exact q):P:=h h0 q
theorem qf {p0 p1 P:Prop} (h0:p0)(h1:p1) (h:p0→p1→P:=by intro h0 h1; simp -implicitDefEqProofs (disch:=omega) only [ZS,seval,ZX,h0,h1]<;>first | rfl | exact Nat.le_refl _ | assumption | omega):P:=h h0 h1
theorem u6 {p0 p1 P Q:Prop} (h0:p0)(h1:p1) (q:Q) (h:p0→p1→Q→P:=by intro h0 h1 q; simp -implicitDefEqProofs (disch:=omega) only [ZS,seval,ZX,h0,h1]; exact q):P:=h h0 h1 q
theorem SK {p0 p1 p2 P Q:Prop} (h0:p0)(h1:p1)(h2:p2) (q:Q) (h:p0→p1→p2→Q→P:=by intro h0 h1 h2 q; simp -implicitDefEqProofs (disch:=omega) only [ZA,Nat.reduceAdd,Nat.reduceEqDiff,↓reduceIte,Nat.reduceLeDiff,reduceCtorEq,Nat.reduceBEq,Nat.reduceLT,aN,bm,bH,au,bS,aP,ck,br,frz,cx,bQ,dK,h0,h1,h2]; exact q):P:=h h0 h1 h2 q
theorem jC {p0 p1 p2 P:Prop} (h0:p0)(h1:p1)(h2:p2) (h:p0→p1→p2→P:=by intro h0 h1 h2; simp -implicitDefEqProofs (disch:=omega) only [ZS,seval,ZX,h0,h1,h2]<;>first | rfl | exact Nat.le_refl _ | assumption | omega):P:=h h0 h1 h2
theorem OX {p0 p1 p2 P Q:Prop} (h0:p0)(h1:p1)(h2:p2) (q:Q) (h:p0→p1→p2→Q→P:=by intro h0 h1 h2 q; simp -implicitDefEqProofs (disch:=omega) only [ZS,seval,ZX,h0,h1,h2]; exact q):P:=h h0 h1 h2 q
theorem qs {p0 p1 p2 p3 P:Prop} (h0:p0)(h1:p1)(h2:p2)(h3:p3) (h:p0→p1→p2→p3→P:=by intro h0 h1 h2 h3; simp -implicitDefEqProofs (disch:=omega) only [ZS,seval,ZX,h0,h1,h2,h3]<;>first | rfl | exact Nat.le_refl _ | assumption | omega):P:=h h0 h1 h2 h3
theorem R9 {p0 p1 p2 p3 P Q:Prop} (h0:p0)(h1:p1)(h2:p2)(h3:p3) (q:Q) (h:p0→p1→p2→p3→Q→P:=by intro h0 h1 h2 h3 q; simp -implicitDefEqProofs (disch:=omega) only [ZS,seval,ZX,h0,h1,h2,h3]; exact q):P:=h h0 h1 h2 h3 q
theorem tI {p0 p1 p2 p3 p4 P:Prop} (h0:p0)(h1:p1)(h2:p2)(h3:p3)(h4:p4) (h:p0→p1→p2→p3→p4→P:=by intro h0 h1 h2 h3 h4; simp -implicitDefEqProofs (disch:=omega) only [ZS,seval,ZX,h0,h1,h2,h3,h4]<;>first | rfl | exact Nat.le_refl _ | assumption | omega):P:=h h0 h1 h2 h3 h4
theorem FX {p0 p1 p2 p3 p4 P Q:Prop} (h0:p0)(h1:p1)(h2:p2)(h3:p3)(h4:p4) (q:Q) (h:p0→p1→p2→p3→p4→Q→P:=by intro h0 h1 h2 h3 h4 q; simp -implicitDefEqProofs (disch:=omega) only [ZS,seval,ZX,h0,h1,h2,h3,h4]; exact q):P:=h h0 h1 h2 h3 h4 q
theorem Ts {p0 p1 p2 p3 p4 p5 P:Prop} (h0:p0)(h1:p1)(h2:p2)(h3:p3)(h4:p4)(h5:p5) (h:p0→p1→p2→p3→p4→p5→P:=by intro h0 h1 h2 h3 h4 h5; simp -implicitDefEqProofs (disch:=omega) only [ZA,Nat.reduceAdd,Nat.reduceEqDiff,↓reduceIte,Nat.reduceLeDiff,reduceCtorEq,Nat.reduceBEq,Nat.reduceLT,aN,bm,bH,au,bS,aP,ck,br,frz,cx,bQ,dK,h0,h1,h2,h3,h4,h5]<;>first | rfl | exact Nat.le_refl _ | assumption | omega):P:=h h0 h1 h2 h3 h4 h5
theorem Lq {p0 p1 p2 p3 p4 p5 P Q:Prop} (h0:p0)(h1:p1)(h2:p2)(h3:p3)(h4:p4)(h5:p5) (q:Q) (h:p0→p1→p2→p3→p4→p5→Q→P:=by intro h0 h1 h2 h3 h4 h5 q; simp -implicitDefEqProofs (disch:=omega) only [ZA,Nat.reduceAdd,Nat.reduceEqDiff,↓reduceIte,Nat.reduceLeDiff,reduceCtorEq,Nat.reduceBEq,Nat.reduceLT,aN,bm,bH,au,bS,aP,ck,br,frz,cx,bQ,dK,h0,h1,h2,h3,h4,h5]; exact q):P:=h h0 h1 h2 h3 h4 h5 q
theorem kU {p0 p1 p2 p3 p4 p5 P:Prop} (h0:p0)(h1:p1)(h2:p2)(h3:p3)(h4:p4)(h5:p5) (h:p0→p1→p2→p3→p4→p5→P:=by intro h0 h1 h2 h3 h4 h5; simp -implicitDefEqProofs (disch:=omega) only [ZS,seval,ZX,h0,h1,h2,h3,h4,h5]<;>first | rfl | exact Nat.le_refl _ | assumption | omega):P:=h h0 h1 h2 h3 h4 h5
theorem BD {p0 p1 p2 p3 p4 p5 P Q:Prop} (h0:p0)(h1:p1)(h2:p2)(h3:p3)(h4:p4)(h5:p5) (q:Q) (h:p0→p1→p2→p3→p4→p5→Q→P:=by intro h0 h1 h2 h3 h4 h5 q; simp -implicitDefEqProofs (disch:=omega) only [ZS,seval,ZX,h0,h1,h2,h3,h4,h5]; exact q):P:=h h0 h1 h2 h3 h4 h5 q
theorem Gd {p0 p1 p2 p3 p4 p5 p6 P Q:Prop} (h0:p0)(h1:p1)(h2:p2)(h3:p3)(h4:p4)(h5:p5)(h6:p6) (q:Q) (h:p0→p1→p2→p3→p4→p5→p6→Q→P:=by intro h0 h1 h2 h3 h4 h5 h6 q; simp -implicitDefEqProofs (disch:=omega) only [ZA,Nat.reduceAdd,Nat.reduceEqDiff,↓reduceIte,Nat.reduceLeDiff,reduceCtorEq,Nat.reduceBEq,Nat.reduceLT,aN,bm,bH,au,bS,aP,ck,br,frz,cx,bQ,dK,h0,h1,h2,h3,h4,h5,h6]; exact q):P:=h h0 h1 h2 h3 h4 h5 h6 q
theorem wn {p0 p1 p2 p3 p4 p5 p6 P:Prop} (h0:p0)(h1:p1)(h2:p2)(h3:p3)(h4:p4)(h5:p5)(h6:p6) (h:p0→p1→p2→p3→p4→p5→p6→P:=by intro h0 h1 h2 h3 h4 h5 h6; simp -implicitDefEqProofs (disch:=omega) only [ZS,seval,ZX,h0,h1,h2,h3,h4,h5,h6]<;>first | rfl | exact Nat.le_refl _ | assumption | omega):P:=h h0 h1 h2 h3 h4 h5 h6
theorem Ci {p0 p1 p2 p3 p4 p5 p6 P Q:Prop} (h0:p0)(h1:p1)(h2:p2)(h3:p3)(h4:p4)(h5:p5)(h6:p6) (q:Q) (h:p0→p1→p2→p3→p4→p5→p6→Q→P:=by intro h0 h1 h2 h3 h4 h5 h6 q; simp -implicitDefEqProofs (disch:=omega) only [ZS,seval,ZX,h0,h1,h2,h3,h4,h5,h6]; exact q):P:=h h0 h1 h2 h3 h4 h5 h6 q
theorem FI {p0 p1 p2 p3 p4 p5 p6 p7 P Q:Prop} (h0:p0)(h1:p1)(h2:p2)(h3:p3)(h4:p4)(h5:p5)(h6:p6)(h7:p7) (q:Q) (h:p0→p1→p2→p3→p4→p5→p6→p7→Q→P:=by intro h0 h1 h2 h3 h4 h5 h6 h7 q; simp -implicitDefEqProofs (disch:=omega) only [ZA,Nat.reduceAdd,Nat.reduceEqDiff,↓reduceIte,Nat.reduceLeDiff,reduceCtorEq,Nat.reduceBEq,Nat.reduceLT,aN,bm,bH,au,bS,aP,ck,br,frz,cx,bQ,dK,h0,h1,h2,h3,h4,h5,h6,h7]; exact q):P:=h h0 h1 h2 h3 h4 h5 h6 h7 q
theorem A9 {p0 p1 p2 p3 p4 p5 p6 p7 P:Prop} (h0:p0)(h1:p1)(h2:p2)(h3:p3)(h4:p4)(h5:p5)(h6:p6)(h7:p7) (h:p0→p1→p2→p3→p4→p5→p6→p7→P:=by intro h0 h1 h2 h3 h4 h5 h6 h7; simp -implicitDefEqProofs (disch:=omega) only [ZS,seval,ZX,h0,h1,h2,h3,h4,h5,h6,h7]<;>first | rfl | exact Nat.le_refl _ | assumption | omega):P:=h h0 h1 h2 h3 h4 h5 h6 h7
theorem Bz {p0 p1 p2 p3 p4 p5 p6 p7 P Q:Prop} (h0:p0)(h1:p1)(h2:p2)(h3:p3)(h4:p4)(h5:p5)(h6:p6)(h7:p7) (q:Q) (h:p0→p1→p2→p3→p4→p5→p6→p7→Q→P:=by intro h0 h1 h2 h3 h4 h5 h6 h7 q; simp -implicitDefEqProofs (disch:=omega) only [ZS,seval,ZX,h0,h1,h2,h3,h4,h5,h6,h7]; exact q):P:=h h0 h1 h2 h3 h4 h5 h6 h7 q
theorem Sq {p0 p1 p2 p3 p4 p5 p6 p7 p8 P Q:Prop} (h0:p0)(h1:p1)(h2:p2)(h3:p3)(h4:p4)(h5:p5)(h6:p6)(h7:p7)(h8:p8) (q:Q) (h:p0→p1→p2→p3→p4→p5→p6→p7→p8→Q→P:=by intro h0 h1 h2 h3 h4 h5 h6 h7 h8 q; simp -implicitDefEqProofs (disch:=omega) only [ZA,Nat.reduceAdd,Nat.reduceEqDiff,↓reduceIte,Nat.reduceLeDiff,reduceCtorEq,Nat.reduceBEq,Nat.reduceLT,aN,bm,bH,au,bS,aP,ck,br,frz,cx,bQ,dK,h0,h1,h2,h3,h4,h5,h6,h7,h8]; exact q):P:=h h0 h1 h2 h3 h4 h5 h6 h7 h8 q
theorem tf {p0 p1 p2 p3 p4 p5 p6 p7 p8 P:Prop} (h0:p0)(h1:p1)(h2:p2)(h3:p3)(h4:p4)(h5:p5)(h6:p6)(h7:p7)(h8:p8) (h:p0→p1→p2→p3→p4→p5→p6→p7→p8→P:=by intro h0 h1 h2 h3 h4 h5 h6 h7 h8; simp -implicitDefEqProofs (disch:=omega) only [ZS,seval,ZX,h0,h1,h2,h3,h4,h5,h6,h7,h8]<;>first | rfl | exact Nat.le_refl _ | assumption | omega):P:=h h0 h1 h2 h3 h4 h5 h6 h7 h8
theorem GI {p0 p1 p2 p3 p4 p5 p6 p7 p8 P Q:Prop} (h0:p0)(h1:p1)(h2:p2)(h3:p3)(h4:p4)(h5:p5)(h6:p6)(h7:p7)(h8:p8) (q:Q) (h:p0→p1→p2→p3→p4→p5→p6→p7→p8→Q→P:=by intro h0 h1 h2 h3 h4 h5 h6 h7 h8 q; simp -implicitDefEqProofs (disch:=omega) only [ZS,seval,ZX,h0,h1,h2,h3,h4,h5,h6,h7,h8]; exact q):P:=h h0 h1 h2 h3 h4 h5 h6 h7 h8 q
theorem tj {p0 p1 p2 p3 p4 p5 p6 p7 p8 p9 P:Prop} (h0:p0)(h1:p1)(h2:p2)(h3:p3)(h4:p4)(h5:p5)(h6:p6)(h7:p7)(h8:p8)(h9:p9) (h:p0→p1→p2→p3→p4→p5→p6→p7→p8→p9→P:=by intro h0 h1 h2 h3 h4 h5 h6 h7 h8 h9; simp -implicitDefEqProofs (disch:=omega) only [ZS,seval,ZX,h0,h1,h2,h3,h4,h5,h6,h7,h8,h9]<;>first | rfl | exact Nat.le_refl _ | assumption | omega):P:=h h0 h1 h2 h3 h4 h5 h6 h7 h8 h9
theorem yi {p0 p1 p2 p3 p4 p5 p6 p7 p8 p9 P Q:Prop} (h0:p0)(h1:p1)(h2:p2)(h3:p3)(h4:p4)(h5:p5)(h6:p6)(h7:p7)(h8:p8)(h9:p9) (q:Q) (h:p0→p1→p2→p3→p4→p5→p6→p7→p8→p9→Q→P:=by intro h0 h1 h2 h3 h4 h5 h6 h7 h8 h9 q; simp -implicitDefEqProofs (disch:=omega) only [ZS,seval,ZX,h0,h1,h2,h3,h4,h5,h6,h7,h8,h9]; exact q):P:=h h0 h1 h2 h3 h4 h5 h6 h7 h8 h9 q
theorem El {p0 p1 p2 p3 p4 p5 p6 p7 p8 p9 p10 fk P Q:Prop} (h0:p0)(h1:p1)(h2:p2)(h3:p3)(h4:p4)(h5:p5)(h6:p6)(h7:p7)(h8:p8)(h9:p9)(h10:p10)(h11:fk) (q:Q) (h:p0→p1→p2→p3→p4→p5→p6→p7→p8→p9→p10→fk→Q→P:=by intro h0 h1 h2 h3 h4 h5 h6 h7 h8 h9 h10 h11 q; simp -implicitDefEqProofs (disch:=omega) only [ZA,Nat.reduceAdd,Nat.reduceEqDiff,↓reduceIte,Nat.reduceLeDiff,reduceCtorEq,Nat.reduceBEq,Nat.reduceLT,aN,bm,bH,au,bS,aP,ck,br,frz,cx,bQ,dK,h0,h1,h2,h3,h4,h5,h6,h7,h8,h9,h10,h11]; exact q):P:=h h0 h1 h2 h3 h4 h5 h6 h7 h8 h9 h10 h11 q
theorem oQ {p0 p1 p2 p3 p4 p5 p6 p7 p8 p9 p10 fk P:Prop} (h0:p0)(h1:p1)(h2:p2)(h3:p3)(h4:p4)(h5:p5)(h6:p6)(h7:p7)(h8:p8)(h9:p9)(h10:p10)(h11:fk) (h:p0→p1→p2→p3→p4→p5→p6→p7→p8→p9→p10→fk→P:=by intro h0 h1 h2 h3 h4 h5 h6 h7 h8 h9 h10 h11; simp -implicitDefEqProofs (disch:=omega) only [ZS,seval,ZX,h0,h1,h2,h3,h4,h5,h6,h7,h8,h9,h10,h11]<;>first | rfl | exact Nat.le_refl _ | assumption | omega):P:=h h0 h1 h2 h3 h4 h5 h6 h7 h8 h9 h10 h11
theorem jp {p0 p1 p2 p3 p4 p5 p6 p7 p8 p9 p10 fk P Q:Prop} (h0:p0)(h1:p1)(h2:p2)(h3:p3)(h4:p4)(h5:p5)(h6:p6)(h7:p7)(h8:p8)(h9:p9)(h10:p10)(h11:fk) (q:Q) (h:p0→p1→p2→p3→p4→p5→p6→p7→p8→p9→p10→fk→Q→P:=by intro h0 h1 h2 h3 h4 h5 h6 h7 h8 h9 h10 h11 q; simp -implicitDefEqProofs (disch:=omega) only [ZS,seval,ZX,h0,h1,h2,h3,h4,h5,h6,h7,h8,h9,h10,h11]; exact q):P:=h h0 h1 h2 h3 h4 h5 h6 h7 h8 h9 h10 h11 q
theorem Ss {p0 p1 p2 p3 p4 p5 p6 p7 p8 p9 p10 fk p12 p13 P:Prop} (h0:p0)(h1:p1)(h2:p2)(h3:p3)(h4:p4)(h5:p5)(h6:p6)(h7:p7)(h8:p8)(h9:p9)(h10:p10)(h11:fk)(h12:p12)(h13:p13) (h:p0→p1→p2→p3→p4→p5→p6→p7→p8→p9→p10→fk→p12→p13→P:=by intro h0 h1 h2 h3 h4 h5 h6 h7 h8 h9 h10 h11 h12 h13; simp -implicitDefEqProofs (disch:=omega) only [ZA,Nat.reduceAdd,Nat.reduceEqDiff,↓reduceIte,Nat.reduceLeDiff,reduceCtorEq,Nat.reduceBEq,Nat.reduceLT,aN,bm,bH,au,bS,aP,ck,br,frz,cx,bQ,dK,h0,h1,h2,h3,h4,h5,h6,h7,h8,h9,h10,h11,h12,h13]<;>first | rfl | exact Nat.le_refl _ | assumption | omega):P:=h h0 h1 h2 h3 h4 h5 h6 h7 h8 h9 h10 h11 h12 h13
theorem NV {p0 p1 p2 p3 p4 p5 p6 p7 p8 p9 p10 fk p12 p13 P Q:Prop} (h0:p0)(h1:p1)(h2:p2)(h3:p3)(h4:p4)(h5:p5)(h6:p6)(h7:p7)(h8:p8)(h9:p9)(h10:p10)(h11:fk)(h12:p12)(h13:p13) (q:Q) (h:p0→p1→p2→p3→p4→p5→p6→p7→p8→p9→p10→fk→p12→p13→Q→P:=by intro h0 h1 h2 h3 h4 h5 h6 h7 h8 h9 h10 h11 h12 h13 q; simp -implicitDefEqProofs (disch:=omega) only [ZA,Nat.reduceAdd,Nat.reduceEqDiff,↓reduceIte,Nat.reduceLeDiff,reduceCtorEq,Nat.reduceBEq,Nat.reduceLT,aN,bm,bH,au,bS,aP,ck,br,frz,cx,bQ,dK,h0,h1,h2,h3,h4,h5,h6,h7,h8,h9,h10,h11,h12,h13]; exact q):P:=h h0 h1 h2 h3 h4 h5 h6 h7 h8 h9 h10 h11 h12 h13 q
theorem zT {p0 p1 p2 p3 p4 p5 p6 p7 p8 p9 p10 fk p12 p13 P:Prop} (h0:p0)(h1:p1)(h2:p2)(h3:p3)(h4:p4)(h5:p5)(h6:p6)(h7:p7)(h8:p8)(h9:p9)(h10:p10)(h11:fk)(h12:p12)(h13:p13) (h:p0→p1→p2→p3→p4→p5→p6→p7→p8→p9→p10→fk→p12→p13→P:=by intro h0 h1 h2 h3 h4 h5 h6 h7 h8 h9 h10 h11 h12 h13; simp -implicitDefEqProofs (disch:=omega) only [ZS,seval,ZX,h0,h1,h2,h3,h4,h5,h6,h7,h8,h9,h10,h11,h12,h13]<;>first | rfl | exact Nat.le_refl _ | assumption | omega):P:=h h0 h1 h2 h3 h4 h5 h6 h7 h8 h9 h10 h11 h12 h13
theorem qJ {p0 p1 p2 p3 p4 p5 p6 p7 p8 p9 p10 fk p12 p13 P Q:Prop} (h0:p0)(h1:p1)(h2:p2)(h3:p3)(h4:p4)(h5:p5)(h6:p6)(h7:p7)(h8:p8)(h9:p9)(h10:p10)(h11:fk)(h12:p12)(h13:p13) (q:Q) (h:p0→p1→p2→p3→p4→p5→p6→p7→p8→p9→p10→fk→p12→p13→Q→P:=by intro h0 h1 h2 h3 h4 h5 h6 h7 h8 h9 h10 h11 h12 h13 q; simp -implicitDefEqProofs (disch:=omega) only [ZS,seval,ZX,h0,h1,h2,h3,h4,h5,h6,h7,h8,h9,h10,h11,h12,h13]; exact q):P:=h h0 h1 h2 h3 h4 h5 h6 h7 h8 h9 h10 h11 h12 h13 q
theorem qO {p0 p1 p2 p3 p4 p5 p6 p7 p8 p9 p10 fk p12 p13 p14 iw P:Prop} (h0:p0)(h1:p1)(h2:p2)(h3:p3)(h4:p4)(h5:p5)(h6:p6)(h7:p7)(h8:p8)(h9:p9)(h10:p10)(h11:fk)(h12:p12)(h13:p13)(h14:p14)(h15:iw) (h:p0→p1→p2→p3→p4→p5→p6→p7→p8→p9→p10→fk→p12→p13→p14→iw→P:=by intro h0 h1 h2 h3 h4 h5 h6 h7 h8 h9 h10 h11 h12 h13 h14 h15; simp -implicitDefEqProofs (disch:=omega) only [ZS,seval,ZX,h0,h1,h2,h3,h4,h5,h6,h7,h8,h9,h10,h11,h12,h13,h14,h15]<;>first | rfl | exact Nat.le_refl _ | assumption | omega):P:=h h0 h1 h2 h3 h4 h5 h6 h7 h8 h9 h10 h11 h12 h13 h14 h15
theorem GT {p0 p1 p2 p3 p4 p5 p6 p7 p8 p9 p10 fk p12 p13 p14 iw P Q:Prop} (h0:p0)(h1:p1)(h2:p2)(h3:p3)(h4:p4)(h5:p5)(h6:p6)(h7:p7)(h8:p8)(h9:p9)(h10:p10)(h11:fk)(h12:p12)(h13:p13)(h14:p14)(h15:iw) (q:Q) (h:p0→p1→p2→p3→p4→p5→p6→p7→p8→p9→p10→fk→p12→p13→p14→iw→Q→P:=by intro h0 h1 h2 h3 h4 h5 h6 h7 h8 h9 h10 h11 h12 h13 h14 h15 q; simp -implicitDefEqProofs (disch:=omega) only [ZS,seval,ZX,h0,h1,h2,h3,h4,h5,h6,h7,h8,h9,h10,h11,h12,h13,h14,h15]; exact q):P:=h h0 h1 h2 h3 h4 h5 h6 h7 h8 h9 h10 h11 h12 h13 h14 h15 q
theorem Du {p0 p1 p2 p3 p4 p5 p6 p7 p8 p9 p10 fk p12 p13 p14 iw p16 p17 jw P Q:Prop} (h0:p0)(h1:p1)(h2:p2)(h3:p3)(h4:p4)(h5:p5)(h6:p6)(h7:p7)(h8:p8)(h9:p9)(h10:p10)(h11:fk)(h12:p12)(h13:p13)(h14:p14)(h15:iw)(h16:p16)(h17:p17)(h18:jw) (q:Q) (h:p0→p1→p2→p3→p4→p5→p6→p7→p8→p9→p10→fk→p12→p13→p14→iw→p16→p17→jw→Q→P:=by intro h0 h1 h2 h3 h4 h5 h6 h7 h8 h9 h10 h11 h12 h13 h14 h15 h16 h17 h18 q; simp -implicitDefEqProofs (disch:=omega) only [ZA,Nat.reduceAdd,Nat.reduceEqDiff,↓reduceIte,Nat.reduceLeDiff,reduceCtorEq,Nat.reduceBEq,Nat.reduceLT,aN,bm,bH,au,bS,aP,ck,br,frz,cx,bQ,dK,h0,h1,h2,h3,h4,h5,h6,h7,h8,h9,h10,h11,h12,h13,h14,h15,h16,h17,h18]; exact q):P:=h h0 h1 h2 h3 h4 h5 h6 h7 h8 h9 h10 h11 h12 h13 h14 h15 h16 h17 h18 q
theorem lb {p0 p1 p2 p3 p4 p5 p6 p7 p8 p9 p10 fk p12 p13 p14 iw p16 p17 jw P:Prop} (h0:p0)(h1:p1)(h2:p2)(h3:p3)(h4:p4)(h5:p5)(h6:p6)(h7:p7)(h8:p8)(h9:p9)(h10:p10)(h11:fk)(h12:p12)(h13:p13)(h14:p14)(h15:iw)(h16:p16)(h17:p17)(h18:jw) (h:p0→p1→p2→p3→p4→p5→p6→p7→p8→p9→p10→fk→p12→p13→p14→iw→p16→p17→jw→P:=by intro h0 h1 h2 h3 h4 h5 h6 h7 h8 h9 h10 h11 h12 h13 h14 h15 h16 h17 h18; simp -implicitDefEqProofs (disch:=omega) only [ZS,seval,ZX,h0,h1,h2,h3,h4,h5,h6,h7,h8,h9,h10,h11,h12,h13,h14,h15,h16,h17,h18]<;>first | rfl | exact Nat.le_refl _ | assumption | omega):P:=h h0 h1 h2 h3 h4 h5 h6 h7 h8 h9 h10 h11 h12 h13 h14 h15 h16 h17 h18
theorem rG {p0 p1 p2 p3 p4 p5 p6 p7 p8 p9 p10 fk p12 p13 p14 iw p16 p17 jw P Q:Prop} (h0:p0)(h1:p1)(h2:p2)(h3:p3)(h4:p4)(h5:p5)(h6:p6)(h7:p7)(h8:p8)(h9:p9)(h10:p10)(h11:fk)(h12:p12)(h13:p13)(h14:p14)(h15:iw)(h16:p16)(h17:p17)(h18:jw) (q:Q) (h:p0→p1→p2→p3→p4→p5→p6→p7→p8→p9→p10→fk→p12→p13→p14→iw→p16→p17→jw→Q→P:=by intro h0 h1 h2 h3 h4 h5 h6 h7 h8 h9 h10 h11 h12 h13 h14 h15 h16 h17 h18 q; simp -implicitDefEqProofs (disch:=omega) only [ZS,seval,ZX,h0,h1,h2,h3,h4,h5,h6,h7,h8,h9,h10,h11,h12,h13,h14,h15,h16,h17,h18]; exact q):P:=h h0 h1 h2 h3 h4 h5 h6 h7 h8 h9 h10 h11 h12 h13 h14 h15 h16 h17 h18 q
theorem RX {p0 p1 p2 p3 p4 p5 p6 p7 p8 p9 p10 fk p12 p13 p14 iw p16 p17 jw p19 lW p21 P Q:Prop} (h0:p0)(h1:p1)(h2:p2)(h3:p3)(h4:p4)(h5:p5)(h6:p6)(h7:p7)(h8:p8)(h9:p9)(h10:p10)(h11:fk)(h12:p12)(h13:p13)(h14:p14)(h15:iw)(h16:p16)(h17:p17)(h18:jw)(h19:p19)(h20:lW)(h21:p21) (q:Q) (h:p0→p1→p2→p3→p4→p5→p6→p7→p8→p9→p10→fk→p12→p13→p14→iw→p16→p17→jw→p19→lW→p21→Q→P:=by intro h0 h1 h2 h3 h4 h5 h6 h7 h8 h9 h10 h11 h12 h13 h14 h15 h16 h17 h18 h19 h20 h21 q; simp -implicitDefEqProofs (disch:=omega) only [ZA,Nat.reduceAdd,Nat.reduceEqDiff,↓reduceIte,Nat.reduceLeDiff,reduceCtorEq,Nat.reduceBEq,Nat.reduceLT,aN,bm,bH,au,bS,aP,ck,br,frz,cx,bQ,dK,h0,h1,h2,h3,h4,h5,h6,h7,h8,h9,h10,h11,h12,h13,h14,h15,h16,h17,h18,h19,h20,h21]; exact q):P:=h h0 h1 h2 h3 h4 h5 h6 h7 h8 h9 h10 h11 h12 h13 h14 h15 h16 h17 h18 h19 h20 h21 q
theorem AU {p0 p1 p2 p3 p4 p5 p6 p7 p8 p9 p10 fk p12 p13 p14 iw p16 p17 jw p19 lW p21 P:Prop} (h0:p0)(h1:p1)(h2:p2)(h3:p3)(h4:p4)(h5:p5)(h6:p6)(h7:p7)(h8:p8)(h9:p9)(h10:p10)(h11:fk)(h12:p12)(h13:p13)(h14:p14)(h15:iw)(h16:p16)(h17:p17)(h18:jw)(h19:p19)(h20:lW)(h21:p21) (h:p0→p1→p2→p3→p4→p5→p6→p7→p8→p9→p10→fk→p12→p13→p14→iw→p16→p17→jw→p19→lW→p21→P:=by intro h0 h1 h2 h3 h4 h5 h6 h7 h8 h9 h10 h11 h12 h13 h14 h15 h16 h17 h18 h19 h20 h21; simp -implicitDefEqProofs (disch:=omega) only [ZS,seval,ZX,h0,h1,h2,h3,h4,h5,h6,h7,h8,h9,h10,h11,h12,h13,h14,h15,h16,h17,h18,h19,h20,h21]<;>first | rfl | exact Nat.le_refl _ | assumption | omega):P:=h h0 h1 h2 h3 h4 h5 h6 h7 h8 h9 h10 h11 h12 h13 h14 h15 h16 h17 h18 h19 h20 h21
theorem KR {p0 p1 p2 p3 p4 p5 p6 p7 p8 p9 p10 fk p12 p13 p14 iw p16 p17 jw p19 lW p21 P Q:Prop} (h0:p0)(h1:p1)(h2:p2)(h3:p3)(h4:p4)(h5:p5)(h6:p6)(h7:p7)(h8:p8)(h9:p9)(h10:p10)(h11:fk)(h12:p12)(h13:p13)(h14:p14)(h15:iw)(h16:p16)(h17:p17)(h18:jw)(h19:p19)(h20:lW)(h21:p21) (q:Q) (h:p0→p1→p2→p3→p4→p5→p6→p7→p8→p9→p10→fk→p12→p13→p14→iw→p16→p17→jw→p19→lW→p21→Q→P:=by intro h0 h1 h2 h3 h4 h5 h6 h7 h8 h9 h10 h11 h12 h13 h14 h15 h16 h17 h18 h19 h20 h21 q; simp -implicitDefEqProofs (disch:=omega) only [ZS,seval,ZX,h0,h1,h2,h3,h4,h5,h6,h7,h8,h9,h10,h11,h12,h13,h14,h15,h16,h17,h18,h19,h20,h21]; exact q):P:=h h0 h1 h2 h3 h4 h5 h6 h7 h8 h9 h10 h11 h12 h13 h14 h15 h16 h17 h18 h19 h20 h21 q
theorem Gh {p0 p1 p2 p3 p4 p5 p6 p7 p8 p9 p10 fk p12 p13 p14 iw p16 p17 jw p19 lW p21 rB p23 p24 p25 P:Prop} (h0:p0)(h1:p1)(h2:p2)(h3:p3)(h4:p4)(h5:p5)(h6:p6)(h7:p7)(h8:p8)(h9:p9)(h10:p10)(h11:fk)(h12:p12)(h13:p13)(h14:p14)(h15:iw)(h16:p16)(h17:p17)(h18:jw)(h19:p19)(h20:lW)(h21:p21)(h22:rB)(h23:p23)(h24:p24)(h25:p25) (h:p0→p1→p2→p3→p4→p5→p6→p7→p8→p9→p10→fk→p12→p13→p14→iw→p16→p17→jw→p19→lW→p21→rB→p23→p24→p25→P:=by intro h0 h1 h2 h3 h4 h5 h6 h7 h8 h9 h10 h11 h12 h13 h14 h15 h16 h17 h18 h19 h20 h21 h22 h23 h24 h25; simp -implicitDefEqProofs (disch:=omega) only [ZS,seval,ZX,h0,h1,h2,h3,h4,h5,h6,h7,h8,h9,h10,h11,h12,h13,h14,h15,h16,h17,h18,h19,h20,h21,h22,h23,h24,h25]<;>first | rfl | exact Nat.le_refl _ | assumption | omega):P:=h h0 h1 h2 h3 h4 h5 h6 h7 h8 h9 h10 h11 h12 h13 h14 h15 h16 h17 h18 h19 h20 h21 h22 h23 h24 h25
theorem Tx {p0 p1 p2 p3 p4 p5 p6 p7 p8 p9 p10 fk p12 p13 p14 iw p16 p17 jw p19 lW p21 rB p23 p24 p25 P Q:Prop} (h0:p0)(h1:p1)(h2:p2)(h3:p3)(h4:p4)(h5:p5)(h6:p6)(h7:p7)(h8:p8)(h9:p9)(h10:p10)(h11:fk)(h12:p12)(h13:p13)(h14:p14)(h15:iw)(h16:p16)(h17:p17)(h18:jw)(h19:p19)(h20:lW)(h21:p21)(h22:rB)(h23:p23)(h24:p24)(h25:p25) (q:Q) (h:p0→p1→p2→p3→p4→p5→p6→p7→p8→p9→p10→fk→p12→p13→p14→iw→p16→p17→jw→p19→lW→p21→rB→p23→p24→p25→Q→P:=by intro h0 h1 h2 h3 h4 h5 h6 h7 h8 h9 h10 h11 h12 h13 h14 h15 h16 h17 h18 h19 h20 h21 h22 h23 h24 h25 q; simp -implicitDefEqProofs (disch:=omega) only [ZS,seval,ZX,h0,h1,h2,h3,h4,h5,h6,h7,h8,h9,h10,h11,h12,h13,h14,h15,h16,h17,h18,h19,h20,h21,h22,h23,h24,h25]; exact q):P:=h h0 h1 h2 h3 h4 h5 h6 h7 h8 h9 h10 h11 h12 h13 h14 h15 h16 h17 h18 h19 h20 h21 h22 h23 h24 h25 q
theorem eQ {p0 p1 p2 p3 p4 p5 p6 p7 p8 p9 p10 fk p12 p13 p14 iw p16 p17 jw p19 lW p21 rB p23 p24 p25 p26 p27 p28 p29 yY p31 P:Prop} (h0:p0)(h1:p1)(h2:p2)(h3:p3)(h4:p4)(h5:p5)(h6:p6)(h7:p7)(h8:p8)(h9:p9)(h10:p10)(h11:fk)(h12:p12)(h13:p13)(h14:p14)(h15:iw)(h16:p16)(h17:p17)(h18:jw)(h19:p19)(h20:lW)(h21:p21)(h22:rB)(h23:p23)(h24:p24)(h25:p25)(h26:p26)(h27:p27)(h28:p28)(h29:p29)(h30:yY)(h31:p31) (h:p0→p1→p2→p3→p4→p5→p6→p7→p8→p9→p10→fk→p12→p13→p14→iw→p16→p17→jw→p19→lW→p21→rB→p23→p24→p25→p26→p27→p28→p29→yY→p31→P:=by intro h0 h1 h2 h3 h4 h5 h6 h7 h8 h9 h10 h11 h12 h13 h14 h15 h16 h17 h18 h19 h20 h21 h22 h23 h24 h25 h26 h27 h28 h29 h30 h31; simp -implicitDefEqProofs (disch:=omega) only [ZS,seval,ZX,h0,h1,h2,h3,h4,h5,h6,h7,h8,h9,h10,h11,h12,h13,h14,h15,h16,h17,h18,h19,h20,h21,h22,h23,h24,h25,h26,h27,h28,h29,h30,h31]<;>first | rfl | exact Nat.le_refl _ | assumption | omega):P:=h h0 h1 h2 h3 h4 h5 h6 h7 h8 h9 h10 h11 h12 h13 h14 h15 h16 h17 h18 h19 h20 h21 h22 h23 h24 h25 h26 h27 h28 h29 h30 h31
theorem MG {p0 p1 p2 p3 p4 p5 p6 p7 p8 p9 p10 fk p12 p13 p14 iw p16 p17 jw p19 lW p21 rB p23 p24 p25 p26 p27 p28 p29 yY p31 P Q:Prop} (h0:p0)(h1:p1)(h2:p2)(h3:p3)(h4:p4)(h5:p5)(h6:p6)(h7:p7)(h8:p8)(h9:p9)(h10:p10)(h11:fk)(h12:p12)(h13:p13)(h14:p14)(h15:iw)(h16:p16)(h17:p17)(h18:jw)(h19:p19)(h20:lW)(h21:p21)(h22:rB)(h23:p23)(h24:p24)(h25:p25)(h26:p26)(h27:p27)(h28:p28)(h29:p29)(h30:yY)(h31:p31) (q:Q) (h:p0→p1→p2→p3→p4→p5→p6→p7→p8→p9→p10→fk→p12→p13→p14→iw→p16→p17→jw→p19→lW→p21→rB→p23→p24→p25→p26→p27→p28→p29→yY→p31→Q→P:=by intro h0 h1 h2 h3 h4 h5 h6 h7 h8 h9 h10 h11 h12 h13 h14 h15 h16 h17 h18 h19 h20 h21 h22 h23 h24 h25 h26 h27 h28 h29 h30 h31 q; simp -implicitDefEqProofs (disch:=omega) only [ZS,seval,ZX,h0,h1,h2,h3,h4,h5,h6,h7,h8,h9,h10,h11,h12,h13,h14,h15,h16,h17,h18,h19,h20,h21,h22,h23,h24,h25,h26,h27,h28,h29,h30,h31]; exact q):P:=h h0 h1 h2 h3 h4 h5 h6 h7 h8 h9 h10 h11 h12 h13 h14 h15 h16 h17 h18 h19 h20 h21 h22 h23 h24 h25 h26 h27 h28 h29 h30 h31 q
theorem Cl {p0 p1 p2 p3 p4 p5 p6 p7 p8 p9 p10 fk p12 p13 p14 iw p16 p17 jw p19 lW p21 rB p23 p24 p25 p26 p27 p28 p29 yY p31 p32 p33 p34 p35 Ms Km p38 L9 P:Prop} (h0:p0)(h1:p1)(h2:p2)(h3:p3)(h4:p4)(h5:p5)(h6:p6)(h7:p7)(h8:p8)(h9:p9)(h10:p10)(h11:fk)(h12:p12)(h13:p13)(h14:p14)(h15:iw)(h16:p16)(h17:p17)(h18:jw)(h19:p19)(h20:lW)(h21:p21)(h22:rB)(h23:p23)(h24:p24)(h25:p25)(h26:p26)(h27:p27)(h28:p28)(h29:p29)(h30:yY)(h31:p31)(Kk:p32)(h33:p33)(h34:p34)(h35:p35)(h36:Ms)(h37:Km)(h38:p38)(h39:L9) (h:p0→p1→p2→p3→p4→p5→p6→p7→p8→p9→p10→fk→p12→p13→p14→iw→p16→p17→jw→p19→lW→p21→rB→p23→p24→p25→p26→p27→p28→p29→yY→p31→p32→p33→p34→p35→Ms→Km→p38→L9→P:=by intro h0 h1 h2 h3 h4 h5 h6 h7 h8 h9 h10 h11 h12 h13 h14 h15 h16 h17 h18 h19 h20 h21 h22 h23 h24 h25 h26 h27 h28 h29 h30 h31 Kk h33 h34 h35 h36 h37 h38 h39; simp -implicitDefEqProofs (disch:=omega) only [ZS,seval,ZX,h0,h1,h2,h3,h4,h5,h6,h7,h8,h9,h10,h11,h12,h13,h14,h15,h16,h17,h18,h19,h20,h21,h22,h23,h24,h25,h26,h27,h28,h29,h30,h31,Kk,h33,h34,h35,h36,h37,h38,h39]<;>first | rfl | exact Nat.le_refl _ | assumption | omega):P:=h h0 h1 h2 h3 h4 h5 h6 h7 h8 h9 h10 h11 h12 h13 h14 h15 h16 h17 h18 h19 h20 h21 h22 h23 h24 h25 h26 h27 h28 h29 h30 h31 Kk h33 h34 h35 h36 h37 h38 h39
theorem nN {p0 p1 p2 p3 p4 p5 p6 p7 p8 p9 p10 fk p12 p13 p14 iw p16 p17 jw p19 lW p21 rB p23 p24 p25 p26 p27 p28 p29 yY p31 p32 p33 p34 p35 Ms Km p38 L9 P Q:Prop} (h0:p0)(h1:p1)(h2:p2)(h3:p3)(h4:p4)(h5:p5)(h6:p6)(h7:p7)(h8:p8)(h9:p9)(h10:p10)(h11:fk)(h12:p12)(h13:p13)(h14:p14)(h15:iw)(h16:p16)(h17:p17)(h18:jw)(h19:p19)(h20:lW)(h21:p21)(h22:rB)(h23:p23)(h24:p24)(h25:p25)(h26:p26)(h27:p27)(h28:p28)(h29:p29)(h30:yY)(h31:p31)(Kk:p32)(h33:p33)(h34:p34)(h35:p35)(h36:Ms)(h37:Km)(h38:p38)(h39:L9) (q:Q) (h:p0→p1→p2→p3→p4→p5→p6→p7→p8→p9→p10→fk→p12→p13→p14→iw→p16→p17→jw→p19→lW→p21→rB→p23→p24→p25→p26→p27→p28→p29→yY→p31→p32→p33→p34→p35→Ms→Km→p38→L9→Q→P:=by intro h0 h1 h2 h3 h4 h5 h6 h7 h8 h9 h10 h11 h12 h13 h14 h15 h16 h17 h18 h19 h20 h21 h22 h23 h24 h25 h26 h27 h28 h29 h30 h31 Kk h33 h34 h35 h36 h37 h38 h39 q; simp -implicitDefEqProofs (disch:=omega) only [ZS,seval,ZX,h0,h1,h2,h3,h4,h5,h6,h7,h8,h9,h10,h11,h12,h13,h14,h15,h16,h17,h18,h19,h20,h21,h22,h23,h24,h25,h26,h27,h28,h29,h30,h31,Kk,h33,h34,h35,h36,h37,h38,h39]; exact q):P:=h h0 h1 h2 h3 h4 h5 h6 h7 h8 h9 h10 h11 h12 h13 h14 h15 h16 h17 h18 h19 h20 h21 h22 h23 h24 h25 h26 h27 h28 h29 h30 h31 Kk h33 h34 h35 h36 h37 h38 h39 q
theorem yq:type_of% (And.intro (@eA.eq_1)<|And.intro (@eA.eq_2)<|And.intro (@eA.eq_3)<|And.intro (@eA.eq_4)<|And.intro (@eA.eq_5)<|@eA.eq_6):=And.intro (@eA.eq_1)<|And.intro (@eA.eq_2)<|And.intro (@eA.eq_3)<|And.intro (@eA.eq_4)<|And.intro (@eA.eq_5)<|@eA.eq_6
theorem D9:type_of% (And.intro (@ig.eq_1)<|@ig.eq_2):=And.intro (@ig.eq_1)<|@ig.eq_2
theorem xE:type_of% (And.intro (@fw.eq_1)<|@fw.eq_2):=And.intro (@fw.eq_1)<|@fw.eq_2
section
variable {P:Program}{Γ:Nat→Option fN}{ext:ai}
theorem om {P:Prop} (h:P:=by omega):P:=h
theorem dt {p:Prop} [Decidable p] (h:p:=by omega):decide p=true:=decide_eq_true h
theorem df {p:Prop} [Decidable p] (h:¬ p:=by omega):decide p=false:=decide_eq_false h
theorem bf {a b:Nat} (h:a≠b:=by omega):(a == b)=false:=beq_eq_false_iff_ne.2 h
abbrev iN (a:Nat):PV:=.sc (.int .i64 (a:Int))
abbrev sS (a:ByteArray):PV:=.sc (.string a)
end
theorem q1 (fn:fN) (r:Nat) {P:Program}{Γ:Nat→Option fN}{ext:ai}{g:Nat}{args:List PV}{s:PS}{u:Value} (h:Er (fun f' s'=>s'=⟨s.h,s.n,s.n⟩∧f' r=.sc u) (aS P Γ ext fn.body (cK args 0) ⟨s.h,s.n,s.n⟩)) (hg:Γ g=some fn:=by rfl) (hl:args.length≤fn.nt:=by exact Nat.le_of_ble_eq_true rfl) (hr:fn.res=[.tmp r]:=by rfl) (hk:fn.keep=false:=by rfl):aU P Γ ext g args s=some (.sc u,s):=IC hg hl hr hk h
end Go.PE
namespace Go.Proofs.YtflfflfodghgpaaGreatDoor
open Go Go.EvL Go.PE
variable {ext:ai}
structure ao where
 kind:Int
 text:ByteArray
 op:Int
 colon:Bool
 parts:PV
def ao.cells (x:ao):List PV:=[.sc (.int .i64 x.kind),.sc (.string x.text),.sc (.int .i64 x.op),.sc (.bool x.colon),x.parts]
theorem ao.len (x:ao):x.cells.length=5:=(rfl)
def ao.eqB (x y:ao):Bool:=x.kind == y.kind && (x.text.toList == y.text.toList && (x.op == y.op && x.colon == y.colon))
def tQ:bw:=(.seq (.draw [(⟨some 19,.mv (.tmp 0),none⟩,[0],[]),
       (⟨some 20,.mv (.tmp 5),none⟩,[5],[0]),
       (⟨some 21,.iaddr 5 (.tmp 19) (.tmp 20),none⟩,[19,20],[]),
       (⟨some 22,.load 90 true 5 (.tmp 21),none⟩,[21],[]),
       (⟨some 23,.mv (.tmp 1),none⟩,[1],[3,2,1,0]),
       (⟨some 24,.mv (.tmp 5),none⟩,[5],[4,3,2,1,0]),
       (⟨some 25,.iaddr 5 (.tmp 23) (.tmp 24),none⟩,[23,24],[3,2,1,0]),
       (⟨some 26,.load 90 true 5 (.tmp 25),none⟩,[25],[3,2,1,0]),
       (⟨some 6,.alloc 90 (.agg #[(.int .i64 0),(.string ⟨#[]⟩),(.int .i64 0),(.bool false),(.slice none 0 0)]),none⟩,[],[7,6,5,4,3,2,1,0]),
       (⟨some 7,.alloc 90 (.agg #[(.int .i64 0),(.string ⟨#[]⟩),(.int .i64 0),(.bool false),(.slice none 0 0)]),none⟩,[],[8,7,6,5,4,3,2,1,0]),
       (⟨none,.store 90 5 (.tmp 6) (.tmp 22),none⟩,[6,22],[7,6,5,4]),
       (⟨none,.store 90 5 (.tmp 7) (.tmp 26),none⟩,[7,26],[])])
     (.seq (.reg [⟨some 27,.faddr 0 (.tmp 6),none⟩,
       ⟨some 28,.load 3 false 1 (.tmp 27),none⟩,
       ⟨some 29,.faddr 0 (.tmp 7),none⟩,
       ⟨some 30,.load 3 false 1 (.tmp 29),none⟩,
       ⟨some 31,.bin .neq 3 (.tmp 28) (.tmp 30),none⟩,
       ⟨some 32,.mv (.tmp 31),none⟩,
       ⟨some 33,.faddr 1 (.tmp 6),(some (32,false))⟩,
       ⟨some 34,.load 9 false 1 (.tmp 33),(some (32,false))⟩,
       ⟨some 35,.faddr 1 (.tmp 7),(some (32,false))⟩,
       ⟨some 36,.load 9 false 1 (.tmp 35),(some (32,false))⟩,
       ⟨some 37,.bin .neq 9 (.tmp 34) (.tmp 36),(some (32,false))⟩,
       ⟨some 38,.pick (.tmp 32) (.const (.bool true)) (.tmp 37),none⟩,
       ⟨some 39,.mv (.tmp 38),none⟩,
       ⟨some 40,.faddr 2 (.tmp 6),(some (39,false))⟩,
       ⟨some 41,.load 3 false 1 (.tmp 40),(some (39,false))⟩,
       ⟨some 42,.faddr 2 (.tmp 7),(some (39,false))⟩,
       ⟨some 43,.load 3 false 1 (.tmp 42),(some (39,false))⟩,
       ⟨some 44,.bin .neq 3 (.tmp 41) (.tmp 43),(some (39,false))⟩,
       ⟨some 45,.pick (.tmp 39) (.const (.bool true)) (.tmp 44),none⟩,
       ⟨some 46,.mv (.tmp 45),none⟩,
       ⟨some 47,.faddr 3 (.tmp 6),(some (46,false))⟩,
       ⟨some 48,.load 4 false 1 (.tmp 47),(some (46,false))⟩,
       ⟨some 49,.faddr 3 (.tmp 7),(some (46,false))⟩,
       ⟨some 50,.load 4 false 1 (.tmp 49),(some (46,false))⟩,
       ⟨some 51,.bin .neq 4 (.tmp 48) (.tmp 50),(some (46,false))⟩,
       ⟨some 52,.pick (.tmp 46) (.const (.bool true)) (.tmp 51),none⟩,
       ⟨some 53,.mv (.tmp 52),none⟩,
       ⟨some 54,.faddr 4 (.tmp 6),(some (53,false))⟩,
       ⟨some 55,.load 80 false 1 (.tmp 54),(some (53,false))⟩,
       ⟨some 56,.faddr 4 (.tmp 7),(some (53,false))⟩,
       ⟨some 57,.load 80 false 1 (.tmp 56),(some (53,false))⟩,
       ⟨some 58,.call (.func 185) [(.tmp 55),(.tmp 57)],(some (53,false))⟩,
       ⟨some 59,.un .not (.tmp 58),(some (53,false))⟩,
       ⟨some 60,.pick (.tmp 53) (.const (.bool true)) (.tmp 59),none⟩])
     (.cond (.tmp 60)
      (.seq (.reg [⟨some 4,.mv (.const (.bool false)),none⟩])
      .ret)
      (.skip))))
theorem TS:Rz=wW 61 tQ:=rfl
theorem TL (x y:ao) (hx:cX x.parts=true) (hy:cX y.parts=true) (r:Bool) (h:∀s,aU Tryz.prog Γ ext 185 [x.parts,y.parts] s=some (.sc (.bool r),s)) {l m:Option (List ao)}{i:Nat} (hl:(l.getD [])[i]?=some x) (hm:(m.getD [])[i]?=some y) (f:aO) (s:PS) (hin:Av 90 ao.cells l m i f) :
  ∃f' s',aS Tryz.prog Γ ext (.block 1 tQ) f s=some (if (x.eqB y && r) then (.normal,f',s') else (.ret,f',s'))∧((x.eqB y && r)=true→f' 0=f 0∧f' 1=f 1∧f' 5=f 5)∧((x.eqB y && r)=false→f' 4=.sc (.bool false))∧(∀n0,n0≤s.n→n0≤s.w→n0≤s'.n∧n0≤s'.w):=by
 obtain⟨l,rfl⟩ : ∃k,l=some k:=by cases l with | none=>simp at hl | some k=>exact⟨k,rfl⟩
 obtain⟨m,rfl⟩ : ∃k,m=some k:=by cases m with | none=>simp at hm | some k=>exact⟨k,rfl⟩
 obtain⟨ha,hb,hii⟩:=hin;simp only [b9,Option.getD_some] at ha hb hl hm;have hi:i < l.length:=(List.getElem?_eq_some_iff.1 hl).1;have hj:i < m.length:=(List.getElem?_eq_some_iff.1 hm).1;have h1:=aQ ao.len l;have h2:=aQ ao.len m;have h3:=mO ao.len hl;have h4:=mO ao.len hm;have ox:x.cells.all cX=true:=by simp only [ao.cells,List.all_cons,List.all_nil,hx,Bool.and_true]; rfl
 have oy:y.cells.all cX=true:=by simp only [ao.cells,List.all_cons,List.all_nil,hy,Bool.and_true]; rfl
 have lx:x.cells.length=5:=x.len;have ly:y.cells.length=5:=y.len;have c1:(bne x.kind y.kind)=!(x.kind == y.kind):=(rfl)
 have c2:(bne x.op y.op)=!(x.op == y.op):=(rfl)
 have fin:∀(n0:Nat),n0≤s.n→n0≤s.w→n0≤s.n + 1 + 1∧n0≤min (min s.w s.n) (s.n + 1):=fun n0 w1 w2=>⟨by omega,by omega⟩
 simp -implicitDefEqProofs only [tQ,aD,bB,ce,bg,aq,aN,bm,Nat.zero_add,Nat.add_zero,Nat.reduceAdd,Option.map_some,Option.bind_some,aI,aM,Nat.reduceEqDiff,bx,↓reduceIte,bH,cG,aK,dw,cR,dD,ek,dl,au,List.length_cons,List.length_nil,Nat.left_eq_add,Nat.add_eq_left,Nat.one_ne_zero,Nat.reduceLeDiff,and_self,List.drop_zero,Nat.le_refl,Nat.le_add_right,List.map_cons,List.map_nil,Bool.false_eq_true,reduceCtorEq,uN,eE,zm,s7,rj,uB,vj,zh,cC,ec,gy,se,pY,uW,rW,rY,List.mem_cons,List.not_mem_nil,or_false,or_true,or_self,implies_true,false_implies,Nat.le_add_right,ha,hb,hii,hi,hj,h1,h2,h3,h4,ox,oy,lx,ly];simp -implicitDefEqProofs only [ao.cells] at h ⊢;cases e1:x.kind == y.kind with
 | false=>
  simp -implicitDefEqProofs only [aD,bB,cq,aY,aW,bg,j8,ax,aq,fq,aN,bm,Nat.zero_add,Nat.add_zero,Nat.reduceAdd,ef,Option.map_some,Option.bind_some,aI,aC,aM,Nat.reduceEqDiff,↓reduceIte,bH,cG,pw,fy,bz,aK,dD,dl,au,List.length_cons,List.length_nil,Nat.reduceLeDiff,and_self,List.drop_zero,List.take_succ_cons,List.take_zero,Nat.le_refl,gw,Bool.not_true,Bool.not_false,Gw,Bool.false_eq_true,ao.eqB,e1,Bool.false_and,c1];exact⟨_,_,rfl,fun hh=>(by cases hh),fun _=>by simp -implicitDefEqProofs only [aM,↓reduceIte],fin⟩
 | true=>
  cases e2:x.text.toList == y.text.toList with
  | false=>
   simp -implicitDefEqProofs only [aD,bB,cq,aY,aW,bg,j8,ax,aq,fD,fq,aN,bm,Nat.zero_add,Nat.add_zero,Nat.reduceAdd,ef,Option.map_some,Option.bind_some,aI,aC,aM,Nat.reduceEqDiff,↓reduceIte,bH,cG,pw,fy,bz,aK,dD,dl,au,List.length_cons,List.length_nil,Nat.left_eq_add,Nat.one_ne_zero,Nat.reduceLeDiff,and_self,List.drop_succ_cons,List.drop_zero,List.take_succ_cons,List.take_zero,Nat.le_refl,gw,jV,beq_self_eq_true,Bool.not_true,Bool.not_false,Gw,Bool.false_eq_true,ao.eqB,e1,e2,Bool.false_and,Bool.true_and,c1];exact⟨_,_,rfl,fun hh=>(by cases hh),fun _=>by simp -implicitDefEqProofs only [aM,↓reduceIte],fin⟩
  | true=>
   cases e3:x.op == y.op with
   | false=>
    simp -implicitDefEqProofs only [aD,bB,cq,aY,aW,bg,j8,ax,aq,fD,fq,aN,bm,Nat.zero_add,Nat.add_zero,Nat.reduceAdd,ef,Option.map_some,Option.bind_some,aI,aC,aM,Nat.reduceEqDiff,↓reduceIte,bH,cG,pw,fy,bz,aK,dD,dl,au,List.length_cons,List.length_nil,Nat.left_eq_add,Nat.one_ne_zero,Nat.reduceLeDiff,and_self,List.drop_succ_cons,List.drop_zero,List.take_succ_cons,List.take_zero,Nat.le_refl,gw,jV,beq_self_eq_true,Bool.not_true,Bool.not_false,Gw,Bool.false_eq_true,ao.eqB,e1,e2,e3,Bool.false_and,Bool.true_and,c1,c2];exact⟨_,_,rfl,fun hh=>(by cases hh),fun _=>by simp -implicitDefEqProofs only [aM,↓reduceIte],fin⟩
   | true=>
    cases e4:x.colon == y.colon with
    | false=>
     simp -implicitDefEqProofs only [aD,bB,cq,aY,aW,bg,j8,ax,aq,fD,fq,aN,bm,Nat.zero_add,Nat.add_zero,Nat.reduceAdd,ef,Option.map_some,Option.bind_some,aI,aC,aM,Nat.reduceEqDiff,↓reduceIte,bH,cG,pw,fy,bz,aK,dD,dl,au,List.length_cons,List.length_nil,Nat.left_eq_add,Nat.one_ne_zero,Nat.reduceLeDiff,and_self,List.drop_succ_cons,List.drop_zero,List.take_succ_cons,List.take_zero,Nat.le_refl,gw,jV,beq_self_eq_true,Bool.not_true,Bool.not_false,Gw,Bool.false_eq_true,ao.eqB,e1,e2,e3,e4,Bool.false_and,Bool.true_and,c1,c2,qX Tryz.underlying4];exact⟨_,_,rfl,fun hh=>(by cases hh),fun _=>by simp -implicitDefEqProofs only [aM,↓reduceIte],fin⟩
    | true=>
     cases r with
     | false=>
      simp -implicitDefEqProofs only [aD,bB,cq,aY,aW,bg,j8,ax,aq,fD,aN,bm,Nat.zero_add,Nat.add_zero,Nat.reduceAdd,ef,Option.map_some,Option.bind_some,aI,aC,fB,aM,Nat.reduceEqDiff,↓reduceIte,bH,cG,pw,fy,bz,aK,dD,dl,au,List.length_cons,List.length_nil,Nat.left_eq_add,Nat.one_ne_zero,Nat.reduceLeDiff,and_self,List.drop_succ_cons,List.drop_zero,List.take_succ_cons,List.take_zero,Nat.le_refl,gw,jV,rU,beq_self_eq_true,Bool.not_true,Bool.not_false,bS,List.map_cons,List.map_nil,List.nil_append,List.append_nil,Bool.false_eq_true,ao.eqB,e1,e2,e3,e4,h,Bool.and_false,Bool.true_and,c1,c2,qX Tryz.underlying4];exact⟨_,_,rfl,fun hh=>(by cases hh),fun _=>by simp -implicitDefEqProofs only [aM,↓reduceIte],fin⟩
     | true=>
      simp -implicitDefEqProofs only [aD,bB,cq,aY,aW,bg,j8,ax,aq,fD,aN,bm,Nat.zero_add,Nat.add_zero,Nat.reduceAdd,ef,Option.map_some,Option.bind_some,aI,aC,fB,aM,Nat.reduceEqDiff,↓reduceIte,bH,cG,lF,gq,bz,aK,dD,dl,au,List.length_cons,List.length_nil,Nat.left_eq_add,Nat.one_ne_zero,Nat.reduceLeDiff,and_self,List.drop_succ_cons,List.drop_zero,List.take_succ_cons,List.take_zero,Nat.le_refl,gw,jV,rU,beq_self_eq_true,Bool.not_true,bS,List.map_cons,List.map_nil,List.nil_append,List.append_nil,Bool.true_eq_false,Bool.false_eq_true,ao.eqB,e1,e2,e3,e4,h,Bool.and_true,c1,c2,qX Tryz.underlying4];exact⟨_,_,rfl,fun _=>⟨by simp -implicitDefEqProofs only [aM,↓reduceIte,reduceCtorEq,ha],by simp -implicitDefEqProofs only [aM,Nat.reduceEqDiff,↓reduceIte,hb],by simp -implicitDefEqProofs only [aM,Nat.reduceEqDiff,↓reduceIte,hii]⟩,fun hh=>(by cases hh),fin⟩
end Go.Proofs.YtflfflfodghgpaaGreatDoor
set_option linter.unusedSimpArgs false
namespace Go.Proofs.YtflfflfodghgpaaGreatDoor
open Go Go.EvL Go.PE Go.Mir
variable {ext:ai}
theorem qB (c:Nat) (s:PS):aU Tryz.prog Γ ext 274 [.sc (.int .u8 (c:Int))] s=some (.sc (.bool (i9 c)),s):=by
 rw [gv (fn:=wv) (by rfl) _ _ (by simp [wv])];cases h1:decide (97≤c) with
 | false=>
  cases h2:decide (65≤c) with
  | false=>
   exact qs @wv.eq_1 @i9.eq_1 h1 h2
  | true=>
   cases h3:decide (c≤90) with
   | false=>
    exact tI @wv.eq_1 @i9.eq_1 h1 h2 h3
   | true=>
    exact tI @wv.eq_1 @i9.eq_1 h1 h2 h3
 | true=>
  cases h4:decide (c≤122) with
  | false=>
   cases h5:decide (65≤c) with
   | false=>
    exact tI @wv.eq_1 @i9.eq_1 h1 h4 h5
   | true=>
    cases h6:decide (c≤90) with
    | false=>
     exact kU @wv.eq_1 @i9.eq_1 h1 h4 h5 h6
    | true=>
     exact kU @wv.eq_1 @i9.eq_1 h1 h4 h5 h6
  | true=>
   exact qs @wv.eq_1 @i9.eq_1 h1 h4
theorem cg (c:Nat) (s:PS):aU Tryz.prog Γ ext 226 [.sc (.int .u8 (c:Int))] s=some (.sc (.bool (bC c)),s):=by
 rw [gv (fn:=Fj) (by rfl) _ _ (by simp [Fj])];cases h1:decide (48≤c) with
 | false=>
  exact jC @Fj.eq_1 @bC.eq_1 h1
 | true=>
  cases h2:decide (c≤57) with
  | false=>
   exact qs @Fj.eq_1 @bC.eq_1 h1 h2
  | true=>
   exact qs @Fj.eq_1 @bC.eq_1 h1 h2
theorem eI (c:Nat) (s:PS):aU Tryz.prog Γ ext 227 [.sc (.int .u8 (c:Int))] s=some (.sc (.bool (dV c)),s):=by
 rw [gv (fn:=CJ) (by rfl) _ _ (by simp [CJ])];cases h1:i9 c with
 | false=>
  cases h2:bC c with
  | false=>
   cases h3:c == 95 with
   | false=>
    exact wn @CJ.eq_1 @dV.eq_1 @qB @cg h1 h2 h3
   | true=>
    exact wn @CJ.eq_1 @dV.eq_1 @qB @cg h1 h2 h3
  | true=>
   exact kU @CJ.eq_1 @dV.eq_1 @qB @cg h1 h2
 | true=>
  exact tI @CJ.eq_1 @dV.eq_1 @qB @cg h1
theorem dq (c:Nat) (s:PS):aU Tryz.prog Γ ext 371 [.sc (.int .u8 (c:Int))] s=some (.sc (.bool (fg c)),s):=by
 rw [gv (fn:=EZ) (by rfl) _ _ (by simp [EZ])];cases h1:c == 9 with
 | false=>
  cases h2:c == 32 with
  | false=>
   exact qs @EZ.eq_1 @fg.eq_1 h1 h2
  | true=>
   exact qs @EZ.eq_1 @fg.eq_1 h1 h2
 | true=>
  exact jC @EZ.eq_1 @fg.eq_1 h1
theorem cU (c:Nat) (s:PS):aU Tryz.prog Γ ext 372 [.sc (.int .u8 (c:Int))] s=some (.sc (.bool (cY c)),s):=by
 rw [gv (fn:=vQ) (by rfl) _ _ (by simp [vQ])];cases h1:c == 38 with
 | false=>
  cases h2:c == 124 with
  | false=>
   cases h3:c == 59 with
   | false=>
    cases h4:c == 40 with
    | false=>
     cases h5:c == 41 with
     | false=>
      cases h6:c == 60 with
      | false=>
       cases h7:c == 62 with
       | false=>
        exact tf @vQ.eq_1 @cY.eq_1 h1 h2 h3 h4 h5 h6 h7
       | true=>
        exact tf @vQ.eq_1 @cY.eq_1 h1 h2 h3 h4 h5 h6 h7
      | true=>
       exact A9 @vQ.eq_1 @cY.eq_1 h1 h2 h3 h4 h5 h6
     | true=>
      exact wn @vQ.eq_1 @cY.eq_1 h1 h2 h3 h4 h5
    | true=>
     exact kU @vQ.eq_1 @cY.eq_1 h1 h2 h3 h4
   | true=>
    exact tI @vQ.eq_1 @cY.eq_1 h1 h2 h3
  | true=>
   exact qs @vQ.eq_1 @cY.eq_1 h1 h2
 | true=>
  exact jC @vQ.eq_1 @cY.eq_1 h1
end Go.Proofs.YtflfflfodghgpaaGreatDoor
set_option linter.unusedSimpArgs false
namespace Go.Proofs.YtflfflfodghgpaaGreatDoor
open Go Go.EvL Go.PE Go.Mir
variable {ext:ai}
theorem HU {b:ByteArray} (hb:b.data.toList.length < 4611686018427387904) (c:Nat) (s:PS):∀(k i:Nat) (f:aO),i + k=b.data.toList.length→f 0=.sc (.string b)→f 1=.sc (.int .u8 (c:Int))→f 5=iN i→
  Er (fun f' s'=>s'=s∧f' 4=.sc (.bool ((b.data.toList.drop i).any fun x=>x.toNat == c))) (LP Tryz.prog Γ ext 0 so BQ f s):=by
 intro k
 induction k with
 | zero=>
  intro i f hk h0 h1 h5;have e1:decide (i < b.data.toList.length)=false:=df;refine ac fun L hL=>?_;refine BD @so.eq_1 @BQ.eq_1 h0 h1 h5 e1 ?_;rw [List.drop_of_length_le om]; rfl
 | succ k ih=>
  intro i f hk h0 h1 h5;have hl:i < b.data.toList.length:=om;have e1:decide (i < b.data.toList.length)=true:=dt;have ed:=oj hl;have eg:=nL hl;cases e2:(bt b.data.toList i == c) with
  | true=>
   refine ac fun L hL=>?_;refine Ci @so.eq_1 h0 h1 h5 e1 hl e2 ?_;rw [ed,List.any_cons,← eg,e2]; rfl
  | false=>
   rw [ed,List.any_cons,← eg,e2,Bool.false_or];refine ac fun L hL=>?_;refine Ci @so.eq_1 h0 h1 h5 e1 hl e2 ?_;subst hL;exact ih (i + 1) _ om (aL h0) (aL h1) bh
theorem NM {b:ByteArray} (hb:b.data.toList.length < 4611686018427387904) (c:Nat) (s:PS):Pc ext 275 [.sc (.string b),.sc (.int .u8 (c:Int))] (.sc (.bool (b.data.toList.any fun x=>x.toNat == c))) s:=by
 refine q1 Or 4 ?_;unfold Or;refine HQ ?_;exact HU hb c _ b.data.toList.length 0 _ om eY eY eY
theorem Aq (c:Nat):cd c=(bC c || ([64,42,35,63,45,36,33]:List UInt8).any fun x=>x.toNat == c):=by
 unfold cd;have h:∀k:Nat,(k == c)=(c == k):=fun k=>by rw [Bool.eq_iff_iff,beq_iff_eq,beq_iff_eq]; exact eq_comm
 show _=(bC c || ((64 == c) || ((42 == c) || ((35 == c) || ((63 == c) || ((45 == c) || ((36 == c) || ((33 == c) || false))))))))
 simp only [h,Bool.or_false,Bool.or_assoc]
theorem gg (c:Nat) (s:PS):Pc ext 395 [.sc (.int .u8 (c:Int))] (.sc (.bool (cd c))) s:=by
 refine q1 Qo 2 ?_;have hh:=fun s=>NM (ext:=ext) (b:=⟨#[64,42,35,63,45,36,33]⟩) (by decide) c s;unfold Qo;rw [Aq];cases e:bC c with
 | true=>exact qf @cg e
 | false=>exact jC @cg e hh
theorem MV {b:ByteArray} (hb:b.data.toList.length < 4611686018427387904) (s:PS):∀(k i:Nat) (f:aO),i + k=b.data.toList.length→f 0=.sc (.string b)→f 1=iN i→
  Er (fun f' s'=>s'=s∧f' 4=iN (dP b.data.toList i)) (LP Tryz.prog Γ ext 0 rO zb f s):=by
 intro k
 induction k with
 | zero=>
  intro i f hk h0 h1;have e1:decide (i < b.data.toList.length)=false:=df;refine ac fun L hL=>?_;exact wn @rO.eq_1 @zb.eq_1 h0 h1 e1 @dP.eq_1 (y7 (q:=dV) (l:=b.data.toList) (i:=i) om)
 | succ k ih=>
  intro i f hk h0 h1;have hl:i < b.data.toList.length:=om;have e1:decide (i < b.data.toList.length)=true:=dt;refine ac fun L hL=>?_;cases e2:dV (bt b.data.toList i) with
  | false=>exact tj @rO.eq_1 @zb.eq_1 h0 h1 e1 hl @eI e2 @dP.eq_1 (yX hl e2)
  | true=>
   refine Ci @rO.eq_1 h0 h1 e1 hl @eI e2 ?_;subst hL;unfold dP;rw [vE hl e2];exact ih (i + 1) _ om (aL h0) bh
theorem vn {b:ByteArray} (hb:b.data.toList.length < 4611686018427387904) {i:Nat} (hi:i≤b.data.toList.length) (s:PS):Pc ext 332 [.sc (.string b),iN i] (iN (dP b.data.toList i)) s:=by
 refine q1 Q7 4 ?_;unfold Q7;refine Hm ?_;exact MV hb _ (b.data.toList.length - i) i _ om bh bh
theorem Iy {b:ByteArray} (hb:b.data.toList.length < 4611686018427387904) (s:PS):∀(k i:Nat) (f:aO),i + k=b.data.toList.length→f 0=.sc (.string b)→f 1=iN i→
  Er (fun f' s'=>s'=s∧f' 4=iN (cu b.data.toList 10 i)) (LP Tryz.prog Γ ext 0 rI yZ f s):=by
 intro k
 induction k with
 | zero=>
  intro i f hk h0 h1;have e1:decide (i < b.data.toList.length)=false:=df;refine ac fun L hL=>?_;exact wn @rI.eq_1 @yZ.eq_1 h0 h1 e1 @cu.eq_1 (y7 (q:=fun x=>x != 10) (l:=b.data.toList) (i:=i) om)
 | succ k ih=>
  intro i f hk h0 h1;have hl:i < b.data.toList.length:=om;have e1:decide (i < b.data.toList.length)=true:=dt;refine ac fun L hL=>?_;cases e2:bt b.data.toList i == 10 with
  | true=>exact tf @rI.eq_1 @yZ.eq_1 h0 h1 e1 hl e2 @cu.eq_1 (yX (q:=fun x=>x != 10) hl (by show (!(bt b.data.toList i == 10))=false; rw [e2]; rfl))
  | false=>
   refine BD @rI.eq_1 h0 h1 e1 hl e2 ?_;subst hL;unfold cu;rw [vE (q:=fun x=>x != 10) hl (by show (!(bt b.data.toList i == 10))=true; rw [e2]; rfl)];exact ih (i + 1) _ om (aL h0) bh
theorem Gi {b:ByteArray} (hb:b.data.toList.length < 4611686018427387904) {i:Nat} (hi:i≤b.data.toList.length) (s:PS):Pc ext 413 [.sc (.string b),iN i] (iN (cu b.data.toList 10 i)) s:=by
 refine q1 OG 4 ?_;unfold OG;refine Hm ?_;exact Iy hb _ (b.data.toList.length - i) i _ om bh bh
theorem r6 {b:ByteArray} (hb:b.data.toList.length < 4611686018427387904) {i:Nat} (hi:i≤b.data.toList.length) (s:PS):Pc ext 414 [.sc (.string b),iN i] (.sc (.bool (cF b.data.toList i))) s:=by
 refine q1 OH 4 ?_;unfold OH cF;cases e1:decide (i + 1 < b.data.toList.length) with
 | false=>exact aL e1
 | true=>
  have h1:i + 1 < b.data.toList.length:=of_decide_eq_true e1;have hl:i < b.data.toList.length:=om;cases e2:bt b.data.toList i == 92 with
  | false=>exact jC e1 hl e2
  | true=>exact qs e1 hl h1 e2
theorem fY {b:ByteArray} (hb:b.data.toList.length < 4611686018427387904) {i:Nat} (hi:i≤b.data.toList.length) (s:PS):Pc ext 366 [.sc (.string b),iN i] (.sc (.bool (cF b.data.toList i))) s:=by
 refine q1 OL 4 ?_;unfold OL cF;cases e1:decide (i + 1 < b.data.toList.length) with
 | false=>exact aL e1
 | true=>
  have h1:i + 1 < b.data.toList.length:=of_decide_eq_true e1;have hl:i < b.data.toList.length:=om;cases e2:bt b.data.toList i == 92 with
  | false=>exact jC e1 hl e2
  | true=>exact qs e1 hl h1 e2
theorem cV {b:ByteArray} (hb:b.data.toList.length < 4611686018427387904) {i:Nat} (hi:i≤b.data.toList.length) (s:PS):Pc ext 385 [.sc (.string b),iN i] (.sc (.bool (bZ b.data.toList i))) s:=by
 refine q1 P5 4 ?_;unfold P5 bZ;by_cases h1:i + 1 < b.data.toList.length
 ·have hl:i < b.data.toList.length:=om;have e0:decide (i + 1 < b.data.toList.length)=true:=decide_eq_true h1;have e1:decide (b.data.toList.length≤i + 1)=false:=df;cases e2:bt b.data.toList i == 36 with
  | false=>exact qs e0 e1 hl e2
  | true=>
   cases e3:dV (bt b.data.toList (i + 1)) with
   | true=>exact wn e0 e1 hl h1 e2 @eI e3
   | false=>
    cases e4:cd (bt b.data.toList (i + 1)) with
    | true=>exact tf e0 e1 hl h1 e2 @eI @gg e3 e4
    | false=>
     cases e5:bt b.data.toList (i + 1) == 123 with
     | true=>exact tj e0 e1 hl h1 e2 @eI @gg e3 e4 e5
     | false=>exact tj e0 e1 hl h1 e2 @eI @gg e3 e4 e5
 ·have e0:decide (i + 1 < b.data.toList.length)=false:=decide_eq_false h1;have e1:decide (b.data.toList.length≤i + 1)=true:=dt;exact qf e0 e1
end Go.Proofs.YtflfflfodghgpaaGreatDoor
set_option linter.unusedSimpArgs false
namespace Go.Proofs.YtflfflfodghgpaaGreatDoor
open Go Go.EvL Go.PE Go.Mir
variable {ext:ai}{b:ByteArray}
def RC (ext:ai) (b:ByteArray):fV→Nat→Nat→Prop
 | .pass a p,r,e=>∀s,aU Tryz.prog Γ ext 383 [.sc (.string b),.sc (.int .i64 (a:Int)),.sc (.int .i64 (p:Int))] s=some (.tup [.sc (.int .i64 (r:Int)),.sc (.int .i64 (e:Int))],s)
 | .exp a p,r,e=>∀s,aU Tryz.prog Γ ext 392 [.sc (.string b),.sc (.int .i64 (a:Int)),.sc (.int .i64 (p:Int))] s=some (.tup [.sc (.int .i64 (r:Int)),.sc (.int .i64 (e:Int))],s)
 | .bq i a,r,e=>∀s f,f 0=.sc (.string b)→f 1=.sc (.int .i64 (a:Int))→f 6=.sc (.int .i64 (i:Int))→Er (fun f' s'=>s'=s∧f' 4=.sc (.int .i64 (r:Int))∧f' 5=.sc (.int .i64 (e:Int))) (LP Tryz.prog Γ ext 0 mX Dl f s)
 | .dbl i a,r,e=>∀s f,f 0=.sc (.string b)→f 1=.sc (.int .i64 (a:Int))→f 6=.sc (.int .i64 (i:Int))→Er (fun f' s'=>s'=s∧f' 4=.sc (.int .i64 (r:Int))∧f' 5=.sc (.int .i64 (e:Int))) (LP Tryz.prog Γ ext 0 qe Cz f s)
 | .brc i a p,r,e=>∀s f,f 0=.sc (.string b)→f 1=.sc (.int .i64 (a:Int))→f 2=.sc (.int .i64 (p:Int))→f 8=.sc (.int .i64 (i:Int))→Er (fun f' s'=>s'=s∧f' 6=.sc (.int .i64 (r:Int))∧f' 7=.sc (.int .i64 (e:Int))) (LP Tryz.prog Γ ext 0 kM Cv f s)
 | .cmd i a o g,r,e=>1≤o→o≤i→∀s f,f 0=.sc (.string b)→f 1=.sc (.int .i64 (a:Int))→f 6=.sc (.int .i64 (i:Int))→f 7=.sc (.int .i64 (o:Int))→f 8=.sc (.bool g)→Er (fun f' s'=>s'=s∧f' 4=.sc (.int .i64 (r:Int))∧f' 5=.sc (.int .i64 (e:Int))) (LP Tryz.prog Γ ext 0 dr vk f s)
 | .ari i a o,r,e=>o≤i→∀s f,f 0=.sc (.string b)→f 1=.sc (.int .i64 (a:Int))→f 6=.sc (.int .i64 (i:Int))→f 7=.sc (.int .i64 (o:Int))→Er (fun f' s'=>s'=s∧f' 4=.sc (.int .i64 (r:Int))∧f' 5=.sc (.int .i64 (e:Int))) (LP Tryz.prog Γ ext 0 j9 BJ f s)
section
variable (hb:b.data.toList.length < 4611686018427387904)
include hb
theorem Lb {a:Nat} : RC ext b (.bq b.data.toList.length a) a 7:=by
 have _:=hb;intro s f h0 h1 h6;have e1:decide (b.data.toList.length < b.data.toList.length)=false:=decide_eq_false (by omega);refine ac fun L hL=>?_;refine Lq @mX.eq_1 @Dl.eq_1 h0 h1 h6 e1 ?_;rfl
theorem Sr {i a:Nat} (hl:i < b.data.toList.length) (h:bt b.data.toList i=96):RC ext b (.bq i a) (i + 1) 0:=by
 intro s f h0 h1 h6;have e1:decide (i < b.data.toList.length)=true:=decide_eq_true (by omega);have q96:(bt b.data.toList (i) == 96)=true:=by rw [h]; rfl
 refine ac fun L hL=>?_;refine Gd @mX.eq_1 h0 h1 h6 e1 hl q96 ?_;rfl
theorem Ju {i a:Nat} (h:bt b.data.toList i=92) (h2:i + 1=b.data.toList.length):RC ext b (.bq i a) i 7:=by
 intro s f h0 h1 h6;have hl:i < b.data.toList.length:=by omega
 have e1:decide (i < b.data.toList.length)=true:=decide_eq_true (by omega);have q96:(bt b.data.toList (i) == 96)=false:=by rw [h]; rfl
 have q92:(bt b.data.toList (i) == 92)=true:=by rw [h]; rfl
 have e2:(i + 1 == b.data.toList.length)=true:=by rw [h2]; exact beq_self_eq_true _
 refine ac fun L hL=>?_;refine Sq @mX.eq_1 h0 h1 h6 e1 hl e2 q96 q92 ?_;rfl
theorem Ll {i a r e:Nat} (h:bt b.data.toList i=92) (h2:i + 1 < b.data.toList.length) (ih:RC ext b (.bq (i + 2) a) r e):RC ext b (.bq i a) r e:=by
 intro s f h0 h1 h6;have hl:i < b.data.toList.length:=by omega
 have e1:decide (i < b.data.toList.length)=true:=decide_eq_true (by omega);have q96:(bt b.data.toList (i) == 96)=false:=by rw [h]; rfl
 have q92:(bt b.data.toList (i) == 92)=true:=by rw [h]; rfl
 have e2:(i + 1 == b.data.toList.length)=false:=beq_eq_false_iff_ne.2 (by omega);refine ac fun L hL=>?_;refine GI @mX.eq_1 h0 h1 h6 e1 hl e2 q96 q92 ?_;subst hL;exact ih s _ (aL h0) (aL h1) bh
theorem Mx {i a r e:Nat} (hl:i < b.data.toList.length) (h:bt b.data.toList i≠96) (h2:bt b.data.toList i≠92) (ih:RC ext b (.bq (i + 1) a) r e):RC ext b (.bq i a) r e:=by
 intro s f h0 h1 h6;have e1:decide (i < b.data.toList.length)=true:=decide_eq_true (by omega);have q96:(bt b.data.toList (i) == 96)=false:=beq_eq_false_iff_ne.2 (h);have q92:(bt b.data.toList (i) == 92)=false:=beq_eq_false_iff_ne.2 (h2);refine ac fun L hL=>?_;refine Bz @mX.eq_1 h0 h1 h6 e1 hl q96 q92 ?_;subst hL;exact ih s _ (fR h0) (fR h1) eY
theorem KT {a:Nat} : RC ext b (.dbl b.data.toList.length a) a 7:=by
 have _:=hb;intro s f h0 h1 h6;have e1:decide (b.data.toList.length < b.data.toList.length)=false:=decide_eq_false (by omega);refine ac fun L hL=>?_;refine Lq @qe.eq_1 @Cz.eq_1 h0 h1 h6 e1 ?_;rfl
theorem Ri {i a:Nat} (hl:i < b.data.toList.length) (h:bt b.data.toList i=34):RC ext b (.dbl i a) (i + 1) 0:=by
 intro s f h0 h1 h6;have e1:decide (i < b.data.toList.length)=true:=decide_eq_true (by omega);have q34:(bt b.data.toList (i) == 34)=true:=by rw [h]; rfl
 refine ac fun L hL=>?_;refine Gd @qe.eq_1 h0 h1 h6 e1 hl q34 ?_;rfl
theorem Nb {i a r e:Nat} (hl:i < b.data.toList.length) (h:bt b.data.toList i≠34) (ih:RC ext b (.pass i 1) r e) (he:e≠0):RC ext b (.dbl i a) r e:=by
 intro s f h0 h1 h6;have e1:decide (i < b.data.toList.length)=true:=decide_eq_true (by omega);have q34:(bt b.data.toList (i) == 34)=false:=beq_eq_false_iff_ne.2 (h);have e2:(e == 0)=false:=beq_eq_false_iff_ne.2 he;have ih1:∀s,_:=ih;rw [show ((1:Nat):Int)=1 from rfl] at ih1;refine ac fun L hL=>?_;exact tf @qe.eq_1 h0 h1 h6 e1 hl ih1 e2 q34
theorem QS {i a j r e:Nat} (hl:i < b.data.toList.length) (h:bt b.data.toList i≠34) (ih:RC ext b (.pass i 1) j 0) (ih2:RC ext b (.dbl j a) r e):RC ext b (.dbl i a) r e:=by
 intro s f h0 h1 h6;have e1:decide (i < b.data.toList.length)=true:=decide_eq_true (by omega);have q34:(bt b.data.toList (i) == 34)=false:=beq_eq_false_iff_ne.2 (h);have ih1:∀s,_:=ih;rw [show ((1:Nat):Int)=1 from rfl] at ih1;refine ac fun L hL=>?_;refine Bz @qe.eq_1 h0 h1 h6 e1 hl ih1 q34 ?_;subst hL;exact ih2 s _ (aL h0) (aL h1) bh
end
end Go.Proofs.YtflfflfodghgpaaGreatDoor
set_option linter.unusedSimpArgs false
namespace Go.Proofs.YtflfflfodghgpaaGreatDoor
open Go Go.EvL Go.PE Go.Mir
variable {ext:ai}{b:ByteArray}
section
variable (hb:b.data.toList.length < 4611686018427387904)
include hb
theorem LS {a p:Nat} : RC ext b (.brc b.data.toList.length a p) a 7:=by
 have _:=hb;intro s f h0 h1 h2 h8;have e1:decide (b.data.toList.length < b.data.toList.length)=false:=df;refine ac fun L hL=>?_;refine Gd @kM.eq_1 @Cv.eq_1 h0 h1 h2 h8 e1 ?_;rfl
theorem SJ {i a p:Nat} (hl:i < b.data.toList.length) (h:bt b.data.toList i=125):RC ext b (.brc i a p) (i + 1) 0:=by
 intro s f h0 h1 h2 h8;have e1:decide (i < b.data.toList.length)=true:=dt;have q125:(bt b.data.toList (i) == 125)=true:=by rw [h]; rfl
 refine ac fun L hL=>?_;refine FI @kM.eq_1 h0 h1 h2 h8 e1 hl q125 ?_;rfl
theorem N3 {i a:Nat} (hl:i < b.data.toList.length) (h:bt b.data.toList i=34):RC ext b (.brc i a 1) i 6:=by
 intro s f h0 h1 h2 h8;have e1:decide (i < b.data.toList.length)=true:=dt;have q125:(bt b.data.toList (i) == 125)=false:=by rw [h]; rfl
 have q34:(bt b.data.toList (i) == 34)=true:=by rw [h]; rfl
 refine ac fun L hL=>?_;refine Sq @kM.eq_1 h0 h1 h2 h8 e1 hl q125 q34 ?_;rfl
theorem NE {i a p r e:Nat} (hl:i < b.data.toList.length) (h:bt b.data.toList i≠125) (h3:p=1→bt b.data.toList i≠34) (ih:RC ext b (.pass i p) r e) (he:e≠0):RC ext b (.brc i a p) r e:=by
 intro s f h0 h1 h2 h8;have e1:decide (i < b.data.toList.length)=true:=dt;have q125:(bt b.data.toList i == 125)=false:=beq_eq_false_iff_ne.2 h;have ih1:∀s,_:=ih;have e2:(e == 0)=false:=beq_eq_false_iff_ne.2 he;cases q34:bt b.data.toList i == 34 with
 | false=>
  refine ac fun L hL=>?_;exact oQ @kM.eq_1 h0 h1 h2 h8 e1 hl q125 q34 ih1 e2 tv
 | true=>
  have qp:(p == 1)=false:=beq_eq_false_iff_ne.2 fun hp=>h3 hp (eq_of_beq q34);refine ac fun L hL=>?_;exact oQ @kM.eq_1 h0 h1 h2 h8 e1 hl q125 q34 qp ih1 e2
theorem P0 {i a p j r e:Nat} (hl:i < b.data.toList.length) (h:bt b.data.toList i≠125) (h3:p=1→bt b.data.toList i≠34) (ih:RC ext b (.pass i p) j 0) (ih2:RC ext b (.brc j a p) r e):RC ext b (.brc i a p) r e:=by
 intro s f h0 h1 h2 h8;have e1:decide (i < b.data.toList.length)=true:=dt;have q125:(bt b.data.toList i == 125)=false:=beq_eq_false_iff_ne.2 h;have ih1:∀s,_:=ih;cases q34:bt b.data.toList i == 34 with
 | false=>
  refine ac fun L hL=>?_;refine yi @kM.eq_1 h0 h1 h2 h8 e1 hl q125 q34 ih1 ?_;subst hL;exact ih2 s _ (aL h0) (aL h1) (aL h2) bh
 | true=>
  have qp:(p == 1)=false:=beq_eq_false_iff_ne.2 fun hp=>h3 hp (eq_of_beq q34);refine ac fun L hL=>?_;refine jp @kM.eq_1 h0 h1 h2 h8 e1 hl q125 q34 qp ih1 tv ?_;subst hL;exact ih2 s _ (fR h0) (fR h1) (fR h2) eY
theorem Li {a o:Nat} : RC ext b (.ari b.data.toList.length a o) a 7:=by
 have _:=hb;intro ho s f h0 h1 h6 h7;have e1:decide (b.data.toList.length < b.data.toList.length)=false:=df;refine ac fun L hL=>?_;refine Gd @j9.eq_1 @BJ.eq_1 h0 h1 h6 h7 e1 ?_;rfl
theorem Ou {i a:Nat} (h:bt b.data.toList i=41) (h2:i + 1=b.data.toList.length):RC ext b (.ari i a 0) a 7:=by
 intro ho s f h0 h1 h6 h7;have hl:i < b.data.toList.length:=om;have e1:decide (i < b.data.toList.length)=true:=dt;have q40:(bt b.data.toList (i) == 40)=false:=by rw [h]; rfl
 have q41:(bt b.data.toList (i) == 41)=true:=by rw [h]; rfl
 have z0:decide (0 < 0)=false:=rfl;have e2:(i + 1 == b.data.toList.length)=true:=by rw [h2]; exact beq_self_eq_true _
 refine ac fun L hL=>?_;refine El @j9.eq_1 h0 h1 h6 h7 e1 hl q40 q41 z0 e2 tv ?_;rfl
theorem RZ {i a:Nat} (h:bt b.data.toList i=41) (h2:i + 1 < b.data.toList.length) (h3:bt b.data.toList (i + 1)=41):RC ext b (.ari i a 0) (i + 2) 0:=by
 intro ho s f h0 h1 h6 h7;have hl:i < b.data.toList.length:=om;have e1:decide (i < b.data.toList.length)=true:=dt;have q40:(bt b.data.toList (i) == 40)=false:=by rw [h]; rfl
 have q41:(bt b.data.toList (i) == 41)=true:=by rw [h]; rfl
 have z0:decide (0 < 0)=false:=rfl;have e2:(i + 1 == b.data.toList.length)=false:=bf;have q1:(bt b.data.toList (i + 1) == 41)=true:=by rw [h3]; rfl
 refine ac fun L hL=>?_;refine NV @j9.eq_1 h0 h1 h6 h7 e1 hl q40 q41 z0 e2 h2 q1 tv ?_;rfl
theorem KO {i a:Nat} (h:bt b.data.toList i=41) (h2:i + 1 < b.data.toList.length) (h3:bt b.data.toList (i + 1)≠41):RC ext b (.ari i a 0) i 6:=by
 intro ho s f h0 h1 h6 h7;have hl:i < b.data.toList.length:=om;have e1:decide (i < b.data.toList.length)=true:=dt;have q40:(bt b.data.toList (i) == 40)=false:=by rw [h]; rfl
 have q41:(bt b.data.toList (i) == 41)=true:=by rw [h]; rfl
 have z0:decide (0 < 0)=false:=rfl;have e2:(i + 1 == b.data.toList.length)=false:=bf;have q1:(bt b.data.toList (i + 1) == 41)=false:=beq_eq_false_iff_ne.2 h3;refine ac fun L hL=>?_;refine NV @j9.eq_1 h0 h1 h6 h7 e1 hl q40 q41 z0 e2 h2 q1 tv ?_;rfl
theorem KC {i a o r e:Nat} (hl:i < b.data.toList.length) (h:bt b.data.toList i=41→o≠0) (ih:RC ext b (.pass i 2) r e) (he:e≠0):RC ext b (.ari i a o) r e:=by
 intro ho s f h0 h1 h6 h7;have e1:decide (i < b.data.toList.length)=true:=dt;have ih1:∀s,_:=ih;rw [show ((2:Nat):Int)=2 from rfl] at ih1;have e2:(e == 0)=false:=beq_eq_false_iff_ne.2 he;cases q40:bt b.data.toList i == 40 with
 | true=>
  have c40:(bt b.data.toList i=40)=True:=eq_true (eq_of_beq q40);have c41:True:=trivial;refine ac fun L hL=>?_;exact tj @j9.eq_1 h0 h1 h6 h7 e1 hl q40 ih1 e2
 | false=>
  have c40:(bt b.data.toList i=40)=False:=eq_false (beq_eq_false_iff_ne.1 q40);cases q41:bt b.data.toList i == 41 with
  | true=>
   have c41:(bt b.data.toList i=41)=True:=eq_true (eq_of_beq q41);have ho1 : 1≤o:=by have:=h (eq_of_beq q41); omega
   have z1:decide (0 < o)=true:=dt;refine ac fun L hL=>?_;exact oQ @j9.eq_1 h0 h1 h6 h7 e1 hl q40 q41 z1 ih1 e2
  | false=>
   have c41:(bt b.data.toList i=41)=False:=eq_false (beq_eq_false_iff_ne.1 q41);refine ac fun L hL=>?_;exact oQ @j9.eq_1 h0 h1 h6 h7 e1 hl q40 q41 ih1 e2 tv
theorem P9 {i a o j r e:Nat} (hl:i < b.data.toList.length) (h:bt b.data.toList i=41→o≠0) (hj:i < j) (ih:RC ext b (.pass i 2) j 0) (ih2:RC ext b (.ari j a (cI (bt b.data.toList i) o)) r e):RC ext b (.ari i a o) r e:=by
 intro ho s f h0 h1 h6 h7;have e1:decide (i < b.data.toList.length)=true:=dt;have ih1:∀s,_:=ih;rw [show ((2:Nat):Int)=2 from rfl] at ih1;cases q40:bt b.data.toList i == 40 with
 | true=>
  have c40:(bt b.data.toList i=40)=True:=eq_true (eq_of_beq q40);have c41:True:=trivial;refine ac fun L hL=>?_;refine GI @j9.eq_1 h0 h1 h6 h7 e1 hl q40 ih1 ?_;subst hL;have hop:cI (bt b.data.toList i) o=o + 1:=by unfold cI; simp only [c40,c41,if_true,if_false]
  rw [hop] at ih2;exact ih2 om s _ (aL h0) (aL h1) bh (aL h7)
 | false=>
  have c40:(bt b.data.toList i=40)=False:=eq_false (beq_eq_false_iff_ne.1 q40);cases q41:bt b.data.toList i == 41 with
  | true=>
   have c41:(bt b.data.toList i=41)=True:=eq_true (eq_of_beq q41);have ho1 : 1≤o:=by have:=h (eq_of_beq q41); omega
   have z1:decide (0 < o)=true:=dt;refine ac fun L hL=>?_;refine jp @j9.eq_1 h0 h1 h6 h7 e1 hl q40 q41 z1 ih1 tv ?_;subst hL;have hop:cI (bt b.data.toList i) o=o - 1:=by unfold cI; simp only [c40,c41,if_true,if_false]
   rw [hop] at ih2;exact ih2 om s _ (aL h0) (aL h1) bh (aL h7)
  | false=>
   have c41:(bt b.data.toList i=41)=False:=eq_false (beq_eq_false_iff_ne.1 q41);refine ac fun L hL=>?_;refine yi @j9.eq_1 h0 h1 h6 h7 e1 hl q40 q41 ih1 ?_;subst hL;have hop:cI (bt b.data.toList i) o=o:=by unfold cI; simp only [c40,c41,if_true,if_false]
   rw [hop] at ih2;exact ih2 om s _ (aL h0) (aL h1) bh (aL h7)
end
end Go.Proofs.YtflfflfodghgpaaGreatDoor
set_option linter.unusedSimpArgs false
namespace Go.Proofs.YtflfflfodghgpaaGreatDoor
open Go Go.EvL Go.PE Go.Mir
variable {ext:ai}{b:ByteArray}
section
variable (hb:b.data.toList.length < 4611686018427387904)
include hb
theorem MN {a o:Nat}{g:Bool} : RC ext b (.cmd b.data.toList.length a o g) a 7:=by
 have _:=hb;intro ho1 ho s f h0 h1 h6 h7 h8;have e1:decide (b.data.toList.length < b.data.toList.length)=false:=df;refine ac fun L hL=>?_;refine FI @dr.eq_1 @vk.eq_1 h0 h1 h6 h7 h8 e1 ?_;rfl
theorem KE {i a o r e:Nat} (hl:i < b.data.toList.length) (h:bt b.data.toList i=35) (ih:RC ext b (.cmd (cu b.data.toList 10 i) a o true) r e):RC ext b (.cmd i a o true) r e:=by
 intro ho1 ho s f h0 h1 h6 h7 h8;have e1:decide (i < b.data.toList.length)=true:=dt;have q35:(bt b.data.toList (i) == 35)=true:=by rw [h]; rfl
 have hc:=fun s=>Gi (ext:=ext) hb (i:=i) om s;have hge:i≤cu b.data.toList 10 i:=mW _ _ _;refine ac fun L hL=>?_;refine yi @dr.eq_1 h0 h1 h6 h7 h8 e1 hl q35 hc ?_;subst hL;exact ih ho1 om s _ (aL h0) (aL h1) bh (aL h7) (aL h8)
theorem HG {i a o:Nat}{g:Bool}{r e:Nat} (h:cF b.data.toList i=true) (ih:RC ext b (.cmd (i + 2) a o g) r e):RC ext b (.cmd i a o g) r e:=by
 intro ho1 ho s f h0 h1 h6 h7 h8;have hl1:=iG h;have hl:i < b.data.toList.length:=om;have e1:decide (i < b.data.toList.length)=true:=dt;have hj:=fun s=>r6 (ext:=ext) hb (i:=i) om s;have q35:(bt b.data.toList i == 35)=false:=by rw [(AN h).1]; rfl
 cases g with
 | false=>
  refine ac fun L hL=>?_;refine jp @dr.eq_1 h0 h1 h6 h7 h8 e1 hl q35 hj h tv ?_;subst hL;exact ih ho1 om s _ (aL h0) (aL h1) bh (aL h7) (aL h8)
 | true=>
  refine ac fun L hL=>?_;refine jp @dr.eq_1 h0 h1 h6 h7 h8 e1 hl q35 hj h tv ?_;subst hL;exact ih ho1 om s _ (fR h0) (fR h1) eY (fR h7) (fR h8)
theorem SA {i a:Nat}{g:Bool} (hl:i < b.data.toList.length) (h:bt b.data.toList i=41):RC ext b (.cmd i a 1 g) (i + 1) 0:=by
 intro ho1 ho s f h0 h1 h6 h7 h8;have e1:decide (i < b.data.toList.length)=true:=dt;have hj:=fun s=>r6 (ext:=ext) hb (i:=i) om s;have hn:cF b.data.toList i=false:=by unfold cF; rw [h]; cases decide (i + 1 < b.data.toList.length)<;>rfl
 have q35:(bt b.data.toList (i) == 35)=false:=by rw [h]; rfl
 have q41:(bt b.data.toList (i) == 41)=true:=by rw [h]; rfl
 cases g with
 | false=>
  refine ac fun L hL=>?_;refine El @dr.eq_1 h0 h1 h6 h7 h8 e1 hl q35 q41 hj hn ?_;rfl
 | true=>
  refine ac fun L hL=>?_;refine El @dr.eq_1 h0 h1 h6 h7 h8 e1 hl q35 q41 hj hn ?_;rfl
theorem Nh {i a o:Nat}{g:Bool}{r e:Nat} (hl:i < b.data.toList.length) (h:g=true→bt b.data.toList i≠35) (hn:cF b.data.toList i=false) (h3:bt b.data.toList i=41→o≠1) (ih:RC ext b (.pass i 0) r e) (he:e≠0):RC ext b (.cmd i a o g) r e:=by
 intro ho1 ho s f h0 h1 h6 h7 h8;have e1:decide (i < b.data.toList.length)=true:=dt;have ih1:∀s,_:=ih;rw [show ((0:Nat):Int)=0 from rfl] at ih1;have hjn:=fun s=>r6 (ext:=ext) hb (i:=i) om s;have hg:g=false∨(bt b.data.toList i == 35)=false:=by
  cases g with
  | false=>exact .inl rfl
  | true=>exact .inr (beq_eq_false_iff_ne.2 (h rfl))
 have e2:(e == 0)=false:=beq_eq_false_iff_ne.2 he;have key:∀(qg:g=false∨(bt b.data.toList i == 35)=false),Er (fun f' s'=>s'=s∧f' 4=iN r∧f' 5=iN e) (LP Tryz.prog Γ ext 0 dr vk f s):=by
  intro qg;cases q40:bt b.data.toList i == 40 with
  | true=>
   have c40:(bt b.data.toList i=40)=True:=eq_true (eq_of_beq q40);have c41:True:=trivial;have e40:=eq_of_beq q40;have q35:(bt b.data.toList i == 35)=false:=by rw [e40]; rfl
   have q41:(bt b.data.toList i == 41)=false:=by rw [e40]; rfl
   have q10:(bt b.data.toList i == 10)=false:=by rw [e40]; rfl
   have hB:fg (bt b.data.toList i)=false:=by rw [e40]; rfl
   have hO:cY (bt b.data.toList i)=true:=by rw [e40]; rfl
   have hbr:bR (bt b.data.toList i)=true:=by rw [e40]; rfl
   cases g with
   | false=>
    refine ac fun L hL=>?_;exact AU @dr.eq_1 h0 h1 h6 h7 h8 e1 hl q35 q40 q41 q10 hB hO hjn hn @dq @cU ih1 e2 tv tv
   | true=>
    refine ac fun L hL=>?_;exact AU @dr.eq_1 h0 h1 h6 h7 h8 e1 hl q35 q40 q41 q10 hB hO hjn hn @dq @cU ih1 e2 tv tv
  | false=>
   have c40:(bt b.data.toList i=40)=False:=eq_false (beq_eq_false_iff_ne.1 q40);cases q41:bt b.data.toList i == 41 with
   | true=>
    have c41:(bt b.data.toList i=41)=True:=eq_true (eq_of_beq q41);have e41:=eq_of_beq q41;have qo:(o == 1)=false:=beq_eq_false_iff_ne.2 (h3 e41);have ho2 : 2≤o:=by have:=h3 e41; omega
    have q35:(bt b.data.toList i == 35)=false:=by rw [e41]; rfl
    have q10:(bt b.data.toList i == 10)=false:=by rw [e41]; rfl
    have hB:fg (bt b.data.toList i)=false:=by rw [e41]; rfl
    have hO:cY (bt b.data.toList i)=true:=by rw [e41]; rfl
    have hbr:bR (bt b.data.toList i)=true:=by rw [e41]; rfl
    cases g with
    | false=>
     refine ac fun L hL=>?_;exact AU @dr.eq_1 h0 h1 h6 h7 h8 e1 hl q35 q40 q41 qo q10 hB hO hjn hn @dq @cU ih1 e2 tv
    | true=>
     refine ac fun L hL=>?_;exact AU @dr.eq_1 h0 h1 h6 h7 h8 e1 hl q35 q40 q41 qo q10 hB hO hjn hn @dq @cU ih1 e2 tv
   | false=>
    have c41:(bt b.data.toList i=41)=False:=eq_false (beq_eq_false_iff_ne.1 q41);cases g with
    | false=>
     cases hB:fg (bt b.data.toList i) with
     | true=>
      have hbr:bR (bt b.data.toList i)=true:=by unfold bR; rw [hB]; rfl
      refine ac fun L hL=>?_;exact lb @dr.eq_1 h0 h1 h6 h7 h8 e1 hl q40 q41 hB hjn hn @dq @cU ih1 e2 tv tv
     | false=>
      cases q10:bt b.data.toList i == 10 with
      | true=>
       have hbr:bR (bt b.data.toList i)=true:=by unfold bR; rw [hB,q10]; rfl
       refine ac fun L hL=>?_;exact lb @dr.eq_1 h0 h1 h6 h7 h8 e1 hl q40 q41 hB q10 hjn hn @dq @cU ih1 e2 tv
      | false=>
       have hbr:bR (bt b.data.toList i)=cY (bt b.data.toList i):=by unfold bR; rw [hB,q10]; rfl
       refine ac fun L hL=>?_;exact lb @dr.eq_1 h0 h1 h6 h7 h8 e1 hl q40 q41 hB q10 hjn hn @dq @cU ih1 e2 tv
    | true=>
     have q35:=qg.resolve_left (fun hh=>by cases hh);cases hB:fg (bt b.data.toList i) with
     | true=>
      have hbr:bR (bt b.data.toList i)=true:=by unfold bR; rw [hB]; rfl
      refine ac fun L hL=>?_;exact lb @dr.eq_1 h0 h1 h6 h7 h8 e1 hl q35 q40 q41 hB hjn hn @dq @cU ih1 e2 tv
     | false=>
      cases q10:bt b.data.toList i == 10 with
      | true=>
       have hbr:bR (bt b.data.toList i)=true:=by unfold bR; rw [hB,q10]; rfl
       refine ac fun L hL=>?_;exact lb @dr.eq_1 h0 h1 h6 h7 h8 e1 hl q35 q40 q41 hB q10 hjn hn @dq @cU ih1 e2
      | false=>
       have hbr:bR (bt b.data.toList i)=cY (bt b.data.toList i):=by unfold bR; rw [hB,q10]; rfl
       refine ac fun L hL=>?_;exact lb @dr.eq_1 h0 h1 h6 h7 h8 e1 hl q35 q40 q41 hB q10 hjn hn @dq @cU ih1 e2
 exact key hg
theorem P4 {i a o:Nat}{g:Bool}{j r e:Nat} (hl:i < b.data.toList.length) (h:g=true→bt b.data.toList i≠35) (hn:cF b.data.toList i=false) (h3:bt b.data.toList i=41→o≠1) (hj:i < j) (ih:RC ext b (.pass i 0) j 0) (ih2:RC ext b (.cmd j a (cI (bt b.data.toList i) o) (bR (bt b.data.toList i))) r e):RC ext b (.cmd i a o g) r e:=by
 intro ho1 ho s f h0 h1 h6 h7 h8;have e1:decide (i < b.data.toList.length)=true:=dt;have ih1:∀s,_:=ih;rw [show ((0:Nat):Int)=0 from rfl] at ih1;have hjn:=fun s=>r6 (ext:=ext) hb (i:=i) om s;have hg:g=false∨(bt b.data.toList i == 35)=false:=by
  cases g with
  | false=>exact .inl rfl
  | true=>exact .inr (beq_eq_false_iff_ne.2 (h rfl))
 have key:∀(qg:g=false∨(bt b.data.toList i == 35)=false),Er (fun f' s'=>s'=s∧f' 4=iN r∧f' 5=iN e) (LP Tryz.prog Γ ext 0 dr vk f s):=by
  intro qg;cases q40:bt b.data.toList i == 40 with
  | true=>
   have c40:(bt b.data.toList i=40)=True:=eq_true (eq_of_beq q40);have c41:True:=trivial;have e40:=eq_of_beq q40;have q35:(bt b.data.toList i == 35)=false:=by rw [e40]; rfl
   have q41:(bt b.data.toList i == 41)=false:=by rw [e40]; rfl
   have q10:(bt b.data.toList i == 10)=false:=by rw [e40]; rfl
   have hB:fg (bt b.data.toList i)=false:=by rw [e40]; rfl
   have hO:cY (bt b.data.toList i)=true:=by rw [e40]; rfl
   have hbr:bR (bt b.data.toList i)=true:=by rw [e40]; rfl
   cases g with
   | false=>
    refine ac fun L hL=>?_;refine rG @dr.eq_1 h0 h1 h6 h7 h8 e1 hl q35 q40 q41 q10 hB hO hjn hn @dq @cU ih1 ?_;subst hL;have hop:cI (bt b.data.toList i) o=o + 1:=by unfold cI; simp only [c40,c41,if_true,if_false]
    rw [hop] at ih2;exact ih2 om om s _ (aL h0) (aL h1) bh (aL h7) (aL hbr)
   | true=>
    refine ac fun L hL=>?_;refine rG @dr.eq_1 h0 h1 h6 h7 h8 e1 hl q35 q40 q41 q10 hB hO hjn hn @dq @cU ih1 ?_;subst hL;have hop:cI (bt b.data.toList i) o=o + 1:=by unfold cI; simp only [c40,c41,if_true,if_false]
    rw [hop] at ih2;exact ih2 om om s _ (aL h0) (aL h1) bh (aL h7) (aL hbr)
  | false=>
   have c40:(bt b.data.toList i=40)=False:=eq_false (beq_eq_false_iff_ne.1 q40);cases q41:bt b.data.toList i == 41 with
   | true=>
    have c41:(bt b.data.toList i=41)=True:=eq_true (eq_of_beq q41);have e41:=eq_of_beq q41;have qo:(o == 1)=false:=beq_eq_false_iff_ne.2 (h3 e41);have ho2 : 2≤o:=by have:=h3 e41; omega
    have q35:(bt b.data.toList i == 35)=false:=by rw [e41]; rfl
    have q10:(bt b.data.toList i == 10)=false:=by rw [e41]; rfl
    have hB:fg (bt b.data.toList i)=false:=by rw [e41]; rfl
    have hO:cY (bt b.data.toList i)=true:=by rw [e41]; rfl
    have hbr:bR (bt b.data.toList i)=true:=by rw [e41]; rfl
    cases g with
    | false=>
     refine ac fun L hL=>?_;refine KR @dr.eq_1 h0 h1 h6 h7 h8 e1 hl q35 q40 q41 qo q10 hB hO hjn hn @dq @cU ih1 tv tv ?_;subst hL;have hop:cI (bt b.data.toList i) o=o - 1:=by unfold cI; simp only [c40,c41,if_true,if_false]
     rw [hop] at ih2;exact ih2 om om s _ (aL h0) (aL h1) bh (aL h7) (aL hbr)
    | true=>
     refine ac fun L hL=>?_;refine KR @dr.eq_1 h0 h1 h6 h7 h8 e1 hl q35 q40 q41 qo q10 hB hO hjn hn @dq @cU ih1 tv tv ?_;subst hL;have hop:cI (bt b.data.toList i) o=o - 1:=by unfold cI; simp only [c40,c41,if_true,if_false]
     rw [hop] at ih2;exact ih2 om om s _ (aL h0) (aL h1) bh (aL h7) (aL hbr)
   | false=>
    have c41:(bt b.data.toList i=41)=False:=eq_false (beq_eq_false_iff_ne.1 q41);cases g with
    | false=>
     cases hB:fg (bt b.data.toList i) with
     | true=>
      have hbr:bR (bt b.data.toList i)=true:=by unfold bR; rw [hB]; rfl
      refine ac fun L hL=>?_;refine GT @dr.eq_1 h0 h1 h6 h7 h8 e1 hl q40 q41 hB hjn hn @dq @cU ih1 ?_;subst hL;have hop:cI (bt b.data.toList i) o=o:=by unfold cI; simp only [c40,c41,if_true,if_false]
      rw [hop] at ih2;exact ih2 om om s _ (aL h0) (aL h1) bh (aL h7) (aL hbr)
     | false=>
      cases q10:bt b.data.toList i == 10 with
      | true=>
       have hbr:bR (bt b.data.toList i)=true:=by unfold bR; rw [hB,q10]; rfl
       refine ac fun L hL=>?_;refine rG @dr.eq_1 h0 h1 h6 h7 h8 e1 hl q40 q41 hB q10 hjn hn @dq @cU ih1 tv tv ?_;subst hL;have hop:cI (bt b.data.toList i) o=o:=by unfold cI; simp only [c40,c41,if_true,if_false]
       rw [hop] at ih2;exact ih2 om om s _ (aL h0) (aL h1) bh (aL h7) (aL hbr)
      | false=>
       have hbr:bR (bt b.data.toList i)=cY (bt b.data.toList i):=by unfold bR; rw [hB,q10]; rfl
       refine ac fun L hL=>?_;refine rG @dr.eq_1 h0 h1 h6 h7 h8 e1 hl q40 q41 hB q10 hjn hn @dq @cU ih1 tv tv ?_;subst hL;have hop:cI (bt b.data.toList i) o=o:=by unfold cI; simp only [c40,c41,if_true,if_false]
       rw [hop] at ih2;exact ih2 om om s _ (aL h0) (aL h1) bh (aL h7) (aL hbr)
    | true=>
     have q35:=qg.resolve_left (fun hh=>by cases hh);cases hB:fg (bt b.data.toList i) with
     | true=>
      have hbr:bR (bt b.data.toList i)=true:=by unfold bR; rw [hB]; rfl
      refine ac fun L hL=>?_;refine rG @dr.eq_1 h0 h1 h6 h7 h8 e1 hl q35 q40 q41 hB hjn hn @dq @cU ih1 tv tv ?_;subst hL;have hop:cI (bt b.data.toList i) o=o:=by unfold cI; simp only [c40,c41,if_true,if_false]
      rw [hop] at ih2;exact ih2 om om s _ (aL h0) (aL h1) bh (aL h7) (aL hbr)
     | false=>
      cases q10:bt b.data.toList i == 10 with
      | true=>
       have hbr:bR (bt b.data.toList i)=true:=by unfold bR; rw [hB,q10]; rfl
       refine ac fun L hL=>?_;refine rG @dr.eq_1 h0 h1 h6 h7 h8 e1 hl q35 q40 q41 hB q10 hjn hn @dq @cU ih1 tv ?_;subst hL;have hop:cI (bt b.data.toList i) o=o:=by unfold cI; simp only [c40,c41,if_true,if_false]
       rw [hop] at ih2;exact ih2 om om s _ (aL h0) (aL h1) bh (aL h7) (aL hbr)
      | false=>
       have hbr:bR (bt b.data.toList i)=cY (bt b.data.toList i):=by unfold bR; rw [hB,q10]; rfl
       refine ac fun L hL=>?_;refine rG @dr.eq_1 h0 h1 h6 h7 h8 e1 hl q35 q40 q41 hB q10 hjn hn @dq @cU ih1 tv ?_;subst hL;have hop:cI (bt b.data.toList i) o=o:=by unfold cI; simp only [c40,c41,if_true,if_false]
       rw [hop] at ih2;exact ih2 om om s _ (aL h0) (aL h1) bh (aL h7) (aL hbr)
 exact key hg
end
end Go.Proofs.YtflfflfodghgpaaGreatDoor
set_option linter.unusedSimpArgs false
namespace Go.Proofs.YtflfflfodghgpaaGreatDoor
open Go Go.EvL Go.PE Go.Mir
variable {ext:ai}{b:ByteArray}
section
variable (hb:b.data.toList.length < 4611686018427387904)
include hb
theorem MJ {a r e:Nat} (hl:a < b.data.toList.length) (ih:RC ext b (.bq (a + 1) a) r e) (s:PS):Pc ext 391 [.sc (.string b),iN a] (.tup [iN r,iN e]) s:=by
 refine da (fn:=Lz) (r:=4) (r2:=5) (by rfl) (by simp [Lz]) (by rfl) (by rfl) ?_;unfold Lz;refine Hm ?_;exact ih _ _ bh bh bh
theorem Ke {a r e:Nat} (hl:a < b.data.toList.length) (ih:RC ext b (.dbl (a + 1) a) r e) (s:PS):Pc ext 394 [.sc (.string b),iN a] (.tup [iN r,iN e]) s:=by
 refine da (fn:=NB) (r:=4) (r2:=5) (by rfl) (by simp [NB]) (by rfl) (by rfl) ?_;unfold NB;refine Hm ?_;exact ih _ _ bh bh bh
theorem J2 {a p r e:Nat} (hl:a < b.data.toList.length) (ih:RC ext b (.brc (a + 2) a p) r e) (s:PS):Pc ext 400 [.sc (.string b),iN a,iN p] (.tup [iN r,iN e]) s:=by
 refine da (fn:=Lj) (r:=6) (r2:=7) (by rfl) (by simp [Lj]) (by rfl) (by rfl) ?_;unfold Lj;refine Hm ?_;exact ih _ _ bh bh bh bh
theorem HB {a r e:Nat} (hl:a < b.data.toList.length) (ih:RC ext b (.ari (a + 3) a 0) r e) (s:PS):Pc ext 401 [.sc (.string b),iN a] (.tup [iN r,iN e]) s:=by
 refine da (fn:=LQ) (r:=4) (r2:=5) (by rfl) (by simp [LQ]) (by rfl) (by rfl) ?_;unfold LQ;refine HQ ?_;exact ih om _ _ eY eY eY eY
theorem Jo {a r e:Nat} (hl:a < b.data.toList.length) (ih:RC ext b (.cmd (a + 2) a 1 true) r e) (s:PS):Pc ext 402 [.sc (.string b),iN a] (.tup [iN r,iN e]) s:=by
 refine da (fn:=N8) (r:=4) (r2:=5) (by rfl) (by simp [N8]) (by rfl) (by rfl) ?_;unfold N8;refine HQ ?_;exact ih om om _ _ eY eY eY eY eY
theorem MZ (s:PS) {a r e:Nat} : ∀(k i:Nat) (f:aO),i + k=b.data.toList.length→(cu b.data.toList 39 i < b.data.toList.length→r=cu b.data.toList 39 i + 1∧e=0)→(cu b.data.toList 39 i=b.data.toList.length→r=a∧e=7)→f 0=.sc (.string b)→f 1=iN a→f 6=iN i→Er (fun f' s'=>s'=s∧f' 4=iN r∧f' 5=iN e) (LP Tryz.prog Γ ext 0 sk Df f s):=by
 intro k
 induction k with
 | zero=>
  intro i f hk g1 g2 h0 h1 h6;have e1:decide (i < b.data.toList.length)=false:=df;obtain⟨rfl,rfl⟩:=g2 (by unfold cu; rw [y7 om]; omega);refine ac fun L hL=>?_;refine Lq @sk.eq_1 @Df.eq_1 h0 h1 h6 e1 ?_;rfl
 | succ k ih=>
  intro i f hk g1 g2 h0 h1 h6;have hl:i < b.data.toList.length:=om;have e1:decide (i < b.data.toList.length)=true:=dt;cases q39:bt b.data.toList i == 39 with
  | true=>
   have ht:cu b.data.toList 39 i=i:=yX (q:=fun x=>x != 39) hl (by show (!(bt b.data.toList i == 39))=false; rw [q39]; rfl);obtain⟨rfl,rfl⟩:=g1 om;rw [ht];refine ac fun L hL=>?_;refine Gd @sk.eq_1 h0 h1 h6 e1 hl q39 ?_;rfl
  | false=>
   have ht:cu b.data.toList 39 i=cu b.data.toList 39 (i + 1):=vE (q:=fun x=>x != 39) hl (by show (!(bt b.data.toList i == 39))=true; rw [q39]; rfl);rw [ht] at g1 g2;refine ac fun L hL=>?_;refine Ci @sk.eq_1 h0 h1 h6 e1 hl q39 ?_;subst hL;exact ih (i + 1) _ om g1 g2 (aL h0) (aL h1) bh
theorem DZ {a r e:Nat} (hl:a < b.data.toList.length) (g1:cu b.data.toList 39 (a + 1) < b.data.toList.length→r=cu b.data.toList 39 (a + 1) + 1∧e=0) (g2:cu b.data.toList 39 (a + 1)=b.data.toList.length→r=a∧e=7) (s:PS):Pc ext 393 [.sc (.string b),iN a] (.tup [iN r,iN e]) s:=by
 refine da (fn:=N9) (r:=4) (r2:=5) (by rfl) (by simp [N9]) (by rfl) (by rfl) ?_;unfold N9;refine Hm ?_;exact MZ hb _ (b.data.toList.length - (a + 1)) (a + 1) _ om g1 g2 bh bh bh
theorem Mb {a p r e:Nat} (hx:bZ b.data.toList a=true) (h:bt b.data.toList (a + 1)=123) (ih:RC ext b (.brc (a + 2) a p) r e):RC ext b (.exp a p) r e:=by
 intro s;have hl1:=bL hx;have hl:a < b.data.toList.length:=om;have q123:(bt b.data.toList (a + 1) == 123)=true:=by rw [h]; rfl
 have q40:(bt b.data.toList (a + 1) == 40)=false:=by rw [h]; rfl
 have hc:=J2 (ext:=ext) hb hl ih;refine da (fn:=oI) (r:=6) (r2:=7) (by rfl) (by simp [oI]) (by rfl) (by rfl) ?_;unfold oI;exact tI hl1 hl q123 q40 hc
theorem Nu {a p r e:Nat} (hx:bZ b.data.toList a=true) (h:bt b.data.toList (a + 1)=40) (h2:a + 2 < b.data.toList.length) (h3:bt b.data.toList (a + 2)=40) (ih:RC ext b (.ari (a + 3) a 0) r e):RC ext b (.exp a p) r e:=by
 intro s;have hl1:=bL hx;have hl:a < b.data.toList.length:=om;have q123:(bt b.data.toList (a + 1) == 123)=false:=by rw [h]; rfl
 have q40:(bt b.data.toList (a + 1) == 40)=true:=by rw [h]; rfl
 have e2:decide (a + 2 < b.data.toList.length)=true:=decide_eq_true h2;have q2:(bt b.data.toList (a + 2) == 40)=true:=by rw [h3]; rfl
 have hc:=HB (ext:=ext) hb hl ih;refine da (fn:=oI) (r:=6) (r2:=7) (by rfl) (by simp [oI]) (by rfl) (by rfl) ?_;unfold oI;exact A9 hl1 hl h2 e2 q2 q123 q40 hc
theorem Lt {a p r e:Nat} (hx:bZ b.data.toList a=true) (h:bt b.data.toList (a + 1)=40) (h2:a + 2 < b.data.toList.length→bt b.data.toList (a + 2)≠40) (ih:RC ext b (.cmd (a + 2) a 1 true) r e):RC ext b (.exp a p) r e:=by
 intro s;have hl1:=bL hx;have hl:a < b.data.toList.length:=om;have q123:(bt b.data.toList (a + 1) == 123)=false:=by rw [h]; rfl
 have q40:(bt b.data.toList (a + 1) == 40)=true:=by rw [h]; rfl
 have hc:=Jo (ext:=ext) hb hl ih;refine da (fn:=oI) (r:=6) (r2:=7) (by rfl) (by simp [oI]) (by rfl) (by rfl) ?_;unfold oI;cases e2:decide (a + 2 < b.data.toList.length) with
 | true=>
  have hl2:=of_decide_eq_true e2;have q2:(bt b.data.toList (a + 2) == 40)=false:=beq_eq_false_iff_ne.2 (h2 hl2);exact A9 hl1 hl hl2 e2 q2 q123 q40 hc
 | false=>exact Ts hl1 hl e2 q123 q40 hc
theorem Qp {a p:Nat} (hx:bZ b.data.toList a=true) (h:cd (bt b.data.toList (a + 1))=true):RC ext b (.exp a p) (a + 2) 0:=by
 intro s;have hl1:=bL hx;have hl:a < b.data.toList.length:=om;have n123:bt b.data.toList (a + 1)≠123:=fun hh=>by rw [hh] at h; cases h
 have n40:bt b.data.toList (a + 1)≠40:=fun hh=>by rw [hh] at h; cases h
 have q123:(bt b.data.toList (a + 1) == 123)=false:=beq_eq_false_iff_ne.2 n123;have q40:(bt b.data.toList (a + 1) == 40)=false:=beq_eq_false_iff_ne.2 n40;refine da (fn:=oI) (r:=6) (r2:=7) (by rfl) (by simp [oI]) (by rfl) (by rfl) ?_;unfold oI;refine Lq hl1 hl q123 q40 @gg h ?_;rfl
theorem PR {a p:Nat} (hx:bZ b.data.toList a=true) (h:bt b.data.toList (a + 1)≠123) (h2:bt b.data.toList (a + 1)≠40) (h3:cd (bt b.data.toList (a + 1))=false):RC ext b (.exp a p) (dP b.data.toList (a + 1)) 0:=by
 intro s;have hl1:=bL hx;have hl:a < b.data.toList.length:=om;have q123:(bt b.data.toList (a + 1) == 123)=false:=beq_eq_false_iff_ne.2 h;have q40:(bt b.data.toList (a + 1) == 40)=false:=beq_eq_false_iff_ne.2 h2;have hn:=fun s=>vn (ext:=ext) hb (i:=a + 1) om s;refine da (fn:=oI) (r:=6) (r2:=7) (by rfl) (by simp [oI]) (by rfl) (by rfl) ?_;unfold oI;refine Gd hl1 hl q123 q40 @gg h3 hn ?_;rfl
theorem JA {a p:Nat} (h:bt b.data.toList a=92) (h2:a + 1=b.data.toList.length):RC ext b (.pass a p) a 7:=by
 intro s;have hl:a < b.data.toList.length:=om;have q92:(bt b.data.toList (a) == 92)=true:=by rw [h]; rfl
 have e2:(a + 1 == b.data.toList.length)=true:=by rw [h2]; exact beq_self_eq_true _
 refine da (fn:=jx) (r:=6) (r2:=7) (by rfl) (by simp [jx]) (by rfl) (by rfl) ?_;unfold jx;refine SK hl e2 q92 ?_;rfl
theorem LH {a p:Nat} (h:bt b.data.toList a=92) (h2:a + 1 < b.data.toList.length):RC ext b (.pass a p) (a + 2) 0:=by
 intro s;have hl:a < b.data.toList.length:=om;have q92:(bt b.data.toList (a) == 92)=true:=by rw [h]; rfl
 have e2:(a + 1 == b.data.toList.length)=false:=bf;refine da (fn:=jx) (r:=6) (r2:=7) (by rfl) (by simp [jx]) (by rfl) (by rfl) ?_;unfold jx;refine SK hl e2 q92 ?_;rfl
theorem Pn {a p r e:Nat} (hl:a < b.data.toList.length) (h:bt b.data.toList a=96) (ih:RC ext b (.bq (a + 1) a) r e):RC ext b (.pass a p) r e:=by
 intro s;have q92:(bt b.data.toList (a) == 92)=false:=by rw [h]; rfl
 have q96:(bt b.data.toList (a) == 96)=true:=by rw [h]; rfl
 have hc:=MJ (ext:=ext) hb hl ih;refine da (fn:=jx) (r:=6) (r2:=7) (by rfl) (by simp [jx]) (by rfl) (by rfl) ?_;unfold jx;exact qs hl q92 q96 hc
theorem LG {a p r e:Nat} (h:bZ b.data.toList a=true) (ih:RC ext b (.exp a p) r e):RC ext b (.pass a p) r e:=by
 intro s;have hl1:=bL h;have hl:a < b.data.toList.length:=om;have q92:(bt b.data.toList (a) == 92)=false:=by rw [(yE h)]; rfl
 have q96:(bt b.data.toList (a) == 96)=false:=by rw [(yE h)]; rfl
 have hx0:=fun s=>cV (ext:=ext) hb (i:=a) om s;have ih1:∀s,_:=ih;refine da (fn:=jx) (r:=6) (r2:=7) (by rfl) (by simp [jx]) (by rfl) (by rfl) ?_;unfold jx;exact kU hl q92 q96 hx0 h ih1
theorem Qd {a:Nat} (hl:a < b.data.toList.length) (h:bt b.data.toList a=39) (h2:cu b.data.toList 39 (a + 1) < b.data.toList.length):RC ext b (.pass a 0) (cu b.data.toList 39 (a + 1) + 1) 0:=by
 intro s;have q92:(bt b.data.toList (a) == 92)=false:=by rw [h]; rfl
 have q96:(bt b.data.toList (a) == 96)=false:=by rw [h]; rfl
 have q39:(bt b.data.toList (a) == 39)=true:=by rw [h]; rfl
 have hx0:=fun s=>cV (ext:=ext) hb (i:=a) om s;have nx:bZ b.data.toList a=false:=by unfold bZ; rw [h]; simp
 have hc:=DZ (ext:=ext) hb hl (fun _=>⟨rfl,rfl⟩) (fun hh=>absurd hh om);refine da (fn:=jx) (r:=6) (r2:=7) (by rfl) (by simp [jx]) (by rfl) (by rfl) ?_;unfold jx;exact wn hl q92 q96 q39 hx0 nx hc
theorem Nq {a:Nat} (hl:a < b.data.toList.length) (h:bt b.data.toList a=39) (h2:cu b.data.toList 39 (a + 1)=b.data.toList.length):RC ext b (.pass a 0) a 7:=by
 intro s;have q92:(bt b.data.toList (a) == 92)=false:=by rw [h]; rfl
 have q96:(bt b.data.toList (a) == 96)=false:=by rw [h]; rfl
 have q39:(bt b.data.toList (a) == 39)=true:=by rw [h]; rfl
 have hx0:=fun s=>cV (ext:=ext) hb (i:=a) om s;have nx:bZ b.data.toList a=false:=by unfold bZ; rw [h]; simp
 have hc:=DZ (ext:=ext) hb hl (fun hh=>absurd h2 om) (fun _=>⟨rfl,rfl⟩);refine da (fn:=jx) (r:=6) (r2:=7) (by rfl) (by simp [jx]) (by rfl) (by rfl) ?_;unfold jx;exact wn hl q92 q96 q39 hx0 nx hc
theorem QG {a r e:Nat} (hl:a < b.data.toList.length) (h:bt b.data.toList a=34) (ih:RC ext b (.dbl (a + 1) a) r e):RC ext b (.pass a 0) r e:=by
 intro s;have q92:(bt b.data.toList (a) == 92)=false:=by rw [h]; rfl
 have q96:(bt b.data.toList (a) == 96)=false:=by rw [h]; rfl
 have q39:(bt b.data.toList (a) == 39)=false:=by rw [h]; rfl
 have q34:(bt b.data.toList (a) == 34)=true:=by rw [h]; rfl
 have hx0:=fun s=>cV (ext:=ext) hb (i:=a) om s;have nx:bZ b.data.toList a=false:=by unfold bZ; rw [h]; simp
 have hc:=Ke (ext:=ext) hb hl ih;refine da (fn:=jx) (r:=6) (r2:=7) (by rfl) (by simp [jx]) (by rfl) (by rfl) ?_;unfold jx;exact A9 hl q92 q96 q39 q34 hx0 nx hc
theorem Ld {a p:Nat} (hl:a < b.data.toList.length) (h1:bt b.data.toList a≠92) (h2:bt b.data.toList a≠96) (nx:bZ b.data.toList a=false) (h4:p=0→bt b.data.toList a≠39∧bt b.data.toList a≠34):RC ext b (.pass a p) (a + 1) 0:=by
 intro s;have q92:(bt b.data.toList a == 92)=false:=beq_eq_false_iff_ne.2 h1;have q96:(bt b.data.toList a == 96)=false:=beq_eq_false_iff_ne.2 h2;have hx0:=fun s=>cV (ext:=ext) hb (i:=a) om s;refine da (fn:=jx) (r:=6) (r2:=7) (by rfl) (by simp [jx]) (by rfl) (by rfl) ?_;unfold jx;cases qp:p == 0 with
 | true=>
  have h5:=h4 (eq_of_beq qp);have q39:(bt b.data.toList a == 39)=false:=beq_eq_false_iff_ne.2 h5.1;have q34:(bt b.data.toList a == 34)=false:=beq_eq_false_iff_ne.2 h5.2;refine FI hl q92 q96 hx0 nx qp q39 q34 ?_;rfl
 | false=>
  cases q39:bt b.data.toList a == 39 with
  | true=>
   have q34:(bt b.data.toList a == 34)=false:=by rw [eq_of_beq q39]; rfl
   refine FI hl q92 q96 hx0 nx qp q39 q34 ?_;rfl
  | false=>
   cases q34:bt b.data.toList a == 34 with
   | true=>
    refine FI hl q92 q96 hx0 nx qp q39 q34 ?_;rfl
   | false=>
    refine FI hl q92 q96 hx0 nx qp q39 q34 ?_;rfl
theorem pT {t:fV}{r e:Nat} (h:Lx b.data.toList t r e):t.ok b.data.toList→RC ext b t r e:=by
 induction h with
 | p_esc0 h h2=>intro ok; exact JA hb h h2
 | p_esc h h2=>intro ok; exact LH hb h h2
 | p_bq hl h k ih=>intro ok; exact Pn hb hl h (ih ⟨om,hl⟩)
 | p_exp h k ih=>intro ok; exact LG hb h (ih h)
 | p_sq hl h h2=>intro ok; exact Qd hb hl h h2
 | p_sq0 hl h h2=>intro ok; exact Nq hb hl h h2
 | p_dq hl h k ih=>intro ok; exact QG hb hl h (ih ⟨om,hl⟩)
 | p_one hl h1 h2 h3 h4=>intro ok; exact Ld hb hl h1 h2 h3 h4
 | e_brc h k ih=>intro ok; have hl:=bL ok; exact Mb hb ok h (ih ⟨om,om⟩)
 | e_ari h h2 h3 k ih=>intro ok; have hl:=bL ok; exact Nu hb ok h h2 h3 (ih ⟨om,om⟩)
 | e_cmd h h2 k ih=>intro ok; have hl:=bL ok; exact Lt hb ok h h2 (ih ⟨om,om⟩)
 | e_sp h=>intro ok; exact Qp hb ok h
 | e_nm h h2 h3=>intro ok; exact PR hb ok h h2 h3
 | b_end=>intro ok; exact Lb hb
 | b_q hl h=>intro ok; exact Sr hb hl h
 | b_esc0 h h2=>intro ok; exact Ju hb h h2
 | b_esc h h2 k ih=>intro ok; exact Ll hb h h2 (ih ⟨om,ok.2⟩)
 | b_one hl h h2 k ih=>intro ok; exact Mx hb hl h h2 (ih ⟨om,ok.2⟩)
 | d_end=>intro ok; exact KT hb
 | d_q hl h=>intro ok; exact Ri hb hl h
 | d_err hl h k he ih=>intro ok; exact Nb hb hl h (ih hl) he
 | d_on hl h k k2 ih ih2=>intro ok; exact QS hb hl h (ih hl) (ih2 ⟨(k.bound hl).1,ok.2⟩)
 | r_end=>intro ok; exact LS hb
 | r_q hl h=>intro ok; exact SJ hb hl h
 | r_bad hl h=>intro ok; exact N3 hb hl h
 | r_err hl h h2 k he ih=>intro ok; exact NE hb hl h h2 (ih hl) he
 | r_on hl h h2 k k2 ih ih2=>intro ok; exact P0 hb hl h h2 (ih hl) (ih2 ⟨(k.bound hl).1,ok.2⟩)
 | c_end=>intro ok; exact MN hb
 | @c_cmt i a o r e hl h k ih=>intro ok; exact KE hb hl h (ih ⟨kr (q:=fun x=>x != 10) (l:=b.data.toList) (i:=i) om,ok.2⟩)
 | c_join h k ih=>intro ok; have hl:=iG h; exact HG hb h (ih ⟨om,ok.2⟩)
 | c_q hl h=>intro ok; exact SA hb hl h
 | c_err hl h h2 h3 k he ih=>intro ok; exact Nh hb hl h h2 h3 (ih hl) he
 | c_on hl h h2 h3 k k2 ih ih2=>intro ok; exact P4 hb hl h h2 h3 ((k.bound hl).2 rfl) (ih hl) (ih2 ⟨(k.bound hl).1,ok.2⟩)
 | a_end=>intro ok; exact Li hb
 | a_q0 h h2=>intro ok; exact Ou hb h h2
 | a_q h h2 h3=>intro ok; exact RZ hb h h2 h3
 | a_bad h h2 h3=>intro ok; exact KO hb h h2 h3
 | a_err hl h k he ih=>intro ok; exact KC hb hl h (ih hl) he
 | a_on hl h k k2 ih ih2=>intro ok; exact P9 hb hl h ((k.bound hl).2 rfl) (ih hl) (ih2 ⟨(k.bound hl).1,ok.2⟩)
end
end Go.Proofs.YtflfflfodghgpaaGreatDoor
