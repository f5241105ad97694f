/- What functions of the program and of the reference compute, on values. No statement is proved here. -/
import Derived.Test.YtioblbopbilmaaaGreatDoorTxJ
import Derived.Test.YtioblbopbilmaaaGreatDoorTxK
import Derived.Test.YtioblbopbilmaaaGreatDoorTxL
set_option linter.all false
namespace Go.Proofs.YtioblbopbilmaaaGreatDoor
open Go Go.EvL Go.PE Go.RowKit
set_option maxRecDepth 1000000 in
theorem iP:lW Tryz.prog:=Mj 144 (by kernel_rfl) (by kernel_rfl) (fun v w=>by kernel_rfl)
set_option maxRecDepth 1000000 in
theorem pC:Qk Tryz.prog:=PT (by kernel_rfl)
theorem yR:Tryz.prog.globals.size=6:=by kernel_rfl
theorem Jt:Tryz.prog.follows .mixedOrders=true:=by kernel_rfl
theorem tz:hZ Tryz.prog:=fun call hC hM=>by
 have hO:=yX iP pC;have hOm:=Aq Tryz.prog;have hD:=F6 Jt hO hOm hC hM;have hDm:=yg (P:=Tryz.prog) (call:=call) hOm hM;exact⟨hD,hDm,C9 iP hO hOm hC hM hD hDm,v4 hOm hM hDm⟩
theorem wI:∀x∈di,x.g < Tryz.prog.globals.size∧x.cells.all (plain 50)=true:=fun x hx=>by
 obtain rfl:x=⟨0,LM,153⟩:=by simpa [di] using hx
 exact⟨by rw [yR]; decide,by kernel_rfl⟩
theorem Gj:∀x∈di,x.cells.length < 1000000:=fun x hx=>by
 obtain rfl:x=⟨0,LM,153⟩:=by simpa [di] using hx
 show LM.length < 1000000;unfold LM;rw [List.length_map,List.length_range]; decide
theorem Ai:v5 (gX Tryz.prog di) (fun _=>0) 0:=fun x hx=>by
 obtain rfl:x=⟨0,LM,153⟩:=by simpa [di] using hx
 refine⟨?_,⟨?_,fun k hk=>absurd hk (Nat.not_lt_zero _)⟩,?_⟩
 ·kernel_rfl
 ·rw [fD]; show 0 < Tryz.prog.globals.size; rw [yR]; decide
 ·kernel_rfl
theorem yZ (w:World) (hw:Tryz.prog.globals.size≤w.heap.size) (hl:lU w):Calls Tryz.prog 4 #[] w fun e w'=>e=.returned (.bool true)∧Below w.heap.size w w':=
 xJ iP pC Jt (Jy _) wI Df w hw hl
theorem Ls:bM Tryz.prog (cz Γ) EP:=
 IM iP (yX iP pC) Jt tz HK (IV (Kn ⟨_,_,Tryz.func4,rfl⟩ wI Gj yZ _))
theorem vL {W:World} (hg:Tryz.prog.globals.size≤W.heap.size) (hl:lU W) (b:ByteArray) (x0:Int):Calls Tryz.prog 3 #[.string b,.int .i64 x0] W fun e w'=>e=.returned (.bool true)∧Below W.heap.size W w':=by
 obtain⟨⟨l⟩⟩:=b;refine Ic (pvs:=[sv l,.sc (.int .i64 x0)]) (vs:=[.string ⟨⟨l⟩⟩,.int .i64 x0]) iP (yX iP pC) Jt tz HK Ls wI Ai rfl hg hl ?_ ?_ (Bl l x0 WA)
 ·exact .cons _ _ _ _ (.string _) (.cons _ _ _ _ (.int _ _) .nil)
 ·exact .cons _ _ _ _ (.cl _ _ (.sc _ rfl)) (.cons _ _ _ _ (.cl _ _ (.sc _ rfl)) .nil)
end Go.Proofs.YtioblbopbilmaaaGreatDoor
