/- What functions of the program and of the reference compute, on values. No statement is proved here. -/
import Derived.Test.YtioblbopbilmaaaGreatDoorTxD
import Derived.Test.YtioblbopbilmaaaGreatDoorProg
import Derived.KernelRfl
set_option linter.all false
namespace Go.Proofs.YtioblbopbilmaaaGreatDoor
open Go Go.EvL Go.PE
theorem kf {g:FuncId}{f:Func}{c:fe} (h:Tryz.prog.funcs[g]?=some f) (h2:qV Tryz.prog f c.keep=some c:=by kernel_rfl):∃fn k,Tryz.prog.funcs[g]?=some fn∧qV Tryz.prog fn k=some c:=⟨_,_,h,h2⟩
theorem We:gx Tryz.prog Γ1:=by
 intro g pf h;unfold Γ1 at h;split at h
 all_goals first | cases h; done | injection h with h; subst h
 ·exact kf Tryz.func3
 ·exact kf Tryz.func5
 ·exact kf Tryz.func6
 ·exact kf Tryz.func7
 ·exact kf Tryz.func11
 ·exact kf Tryz.func12
 ·exact kf Tryz.func13
 ·exact kf Tryz.func14
 ·exact kf Tryz.func15
 ·exact kf Tryz.func16
 ·exact kf Tryz.func17
 ·exact kf Tryz.func18
 ·exact kf Tryz.func19
 ·exact kf Tryz.func26
 ·exact kf Tryz.func27
 ·exact kf Tryz.func28
 ·exact kf Tryz.func29
 ·exact kf Tryz.func30
 ·exact kf Tryz.func31
 ·exact kf Tryz.func32
 ·exact kf Tryz.func34
 ·exact kf Tryz.func35
 ·exact kf Tryz.func36
 ·exact kf Tryz.func37
 ·exact kf Tryz.func38
 ·exact kf Tryz.func39
 ·exact kf Tryz.func41
 ·exact kf Tryz.func58
 ·exact kf Tryz.func59
 ·exact kf Tryz.func60
 ·exact kf Tryz.func61
 ·exact kf Tryz.func62
 ·exact kf Tryz.func63
 ·exact kf Tryz.func64
 ·exact kf Tryz.func65
 ·exact kf Tryz.func67
 ·exact kf Tryz.func68
 ·exact kf Tryz.func69
 ·exact kf Tryz.func70
 ·exact kf Tryz.func71
 ·exact kf Tryz.func72
 ·exact kf Tryz.func73
 ·exact kf Tryz.func74
theorem UR:gx Tryz.prog Γ2:=by
 intro g pf h;unfold Γ2 at h;split at h
 all_goals first | cases h; done | injection h with h; subst h
 ·exact kf Tryz.func75
 ·exact kf Tryz.func76
 ·exact kf Tryz.func77
 ·exact kf Tryz.func78
 ·exact kf Tryz.func93
 ·exact kf Tryz.func94
 ·exact kf Tryz.func95
 ·exact kf Tryz.func96
 ·exact kf Tryz.func97
 ·exact kf Tryz.func98
 ·exact kf Tryz.func99
 ·exact kf Tryz.func100
 ·exact kf Tryz.func101
 ·exact kf Tryz.func102
 ·exact kf Tryz.func103
 ·exact kf Tryz.func104
 ·exact kf Tryz.func105
 ·exact kf Tryz.func110
 ·exact kf Tryz.func111
 ·exact kf Tryz.func112
 ·exact kf Tryz.func113
 ·exact kf Tryz.func114
 ·exact kf Tryz.func115
 ·exact kf Tryz.func116
 ·exact kf Tryz.func138
 ·exact kf Tryz.func141
 ·exact kf Tryz.func142
 ·exact kf Tryz.func143
 ·exact kf Tryz.func145
 ·exact kf Tryz.func146
 ·exact kf Tryz.func147
 ·exact kf Tryz.func148
 ·exact kf Tryz.func149
 ·exact kf Tryz.func150
 ·exact kf Tryz.func151
 ·exact kf Tryz.func152
 ·exact kf Tryz.func153
 ·exact kf Tryz.func168
 ·exact kf Tryz.func169
 ·exact kf Tryz.func170
 ·exact kf Tryz.func171
 ·exact kf Tryz.func172
 ·exact kf Tryz.func173
 ·exact kf Tryz.func174
theorem VL:gx Tryz.prog Γ3:=by
 intro g pf h;unfold Γ3 at h;split at h
 all_goals first | cases h; done | injection h with h; subst h
 ·exact kf Tryz.func175
 ·exact kf Tryz.func176
 ·exact kf Tryz.func177
 ·exact kf Tryz.func178
 ·exact kf Tryz.func179
 ·exact kf Tryz.func180
 ·exact kf Tryz.func181
 ·exact kf Tryz.func182
 ·exact kf Tryz.func183
 ·exact kf Tryz.func184
 ·exact kf Tryz.func185
 ·exact kf Tryz.func186
 ·exact kf Tryz.func194
 ·exact kf Tryz.func195
 ·exact kf Tryz.func196
 ·exact kf Tryz.func197
 ·exact kf Tryz.func198
 ·exact kf Tryz.func199
 ·exact kf Tryz.func200
 ·exact kf Tryz.func201
 ·exact kf Tryz.func202
 ·exact kf Tryz.func203
 ·exact kf Tryz.func204
 ·exact kf Tryz.func205
 ·exact kf Tryz.func206
 ·exact kf Tryz.func207
 ·exact kf Tryz.func208
 ·exact kf Tryz.func209
 ·exact kf Tryz.func210
 ·exact kf Tryz.func211
 ·exact kf Tryz.func216
 ·exact kf Tryz.func217
 ·exact kf Tryz.func218
 ·exact kf Tryz.func219
 ·exact kf Tryz.func220
 ·exact kf Tryz.func221
 ·exact kf Tryz.func222
 ·exact kf Tryz.func223
 ·exact kf Tryz.func224
 ·exact kf Tryz.func225
 ·exact kf Tryz.func226
 ·exact kf Tryz.func227
 ·exact kf Tryz.func228
 ·exact kf Tryz.func229
theorem G2 {A B:Nat→Option fe} (hA:gx Tryz.prog A) (hB:gx Tryz.prog B):gx Tryz.prog fun g=>(A g).or (B g):=by
 intro g pf h;have h:(A g).or (B g)=some pf:=h;cases h1:A g with
 | some x=>rw [h1] at h; exact hA g pf (h1.trans h)
 | none=>rw [h1] at h; exact hB g pf h
theorem HK:gx Tryz.prog Γ:=G2 We (G2 UR VL)
end Go.Proofs.YtioblbopbilmaaaGreatDoor
