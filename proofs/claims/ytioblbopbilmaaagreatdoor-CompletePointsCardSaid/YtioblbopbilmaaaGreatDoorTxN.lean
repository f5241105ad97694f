/- What functions of the program and of the reference compute, on values. No statement is proved here. -/
import Derived.Test.YtioblbopbilmaaaGreatDoorTxM
import Derived.Test.YtioblbopbilmaaaGreatDoorTie
import Derived.Test.YtioblbopbilmaaaGreatDoorCards
import Derived.WalkKit
import Derived.ProofKit
import Derived.OpenShut
import Derived.ShutString
import Derived.ChangeOld
import Derived.LaidMore
import Derived.Stop.Joined
import Derived.SevenTiedAt
import Derived.LaidOnce
import Derived.Carry
import Derived.Deep.DeepHandedRow
set_option linter.all false
namespace Go.Proofs.YtioblbopbilmaaaGreatDoor
open Go Go.EvL Go.PE Go.ChangeShapes Go.WideShapes Go.ChangeAt Go.RowKit
theorem own:ownKnob Tryz.prog.godebug=none:=by kernel_rfl
theorem CG:laidOutB Tryz.prog=true:=by kernel_rfl
abbrev yW:List (String × DataW Unit):=Rows.completePointsRow.laid
theorem Jm {W:World} (hs:W.ShapedOpen Tryz.prog) (b:Nat) (hb:b < 6) (hk:(((begin Tryz.prog (fun _ _=>0) default).world.heap[b]?).bind Obj.row?).isSome=true):∃C e fz,W.heap[b]?=some (.cells C e fz):=by
 obtain⟨⟨zero,t⟩,hz⟩:=Option.isSome_iff_exists.1 hk;obtain⟨cs,hcs,_⟩:=hs.1 b zero t (by rw [yR]; exact hb) hz;exact⟨cs,t,_,hcs⟩
set_option maxRecDepth 100000 in
theorem E6 {W:World} (hs:W.ShapedOpen Tryz.prog):Tryz.prog.globals.size≤W.heap.size:=by
 obtain⟨C,e,fz,h⟩:=Jm hs 5 (by decide) (by kernel_rfl);have:=AL h;rw [yR];omega
noncomputable def Td (os:Os):World:=
 { World.doorLaid Tryz.prog 1000 os with heap:=(World.doorLaid Tryz.prog 1000 os).heap.setIfInBounds 3 (.cells (Pinned.utf8FirstZ.map fun (n:Nat)=>Value.int .u8 (n:Int)).toArray 153) }
noncomputable def RA (P:Program) (w:World) (fuel M:Nat) (names:List String):Option (List (String × DataW Unit)):=
 (DataW.laidRun P w fuel names).bind fun x=>if nodupBits M x.2 0 && laidRowsB P w x.2 then some x.1 else none
theorem Og {P:Program}{w:World}{l:List (String × DataW Unit)} (fuel M:Nat) (h:RA P w fuel M (l.map (·.1))=some l):laidMet P l w:=by
 unfold RA at h;rw [Option.bind_eq_some_iff] at h;obtain⟨x,hx,h⟩:=h;split at h
 ·rename_i hb;simp only [Bool.and_eq_true] at hb;have e:=Option.some.inj h;exact laidMet_of_run (ps:=x.2) fuel (by rw [hx,← e]) (decide_eq_true (nodupBits_sound hb.1).1) hb.2
 ·cases h
set_option maxRecDepth 100000 in
theorem Fg (os:Os) (args:Array Value):laidMetH Tryz.prog yW ((Td os).forCall (fun _ _=>0) ⟨#[],args,[]⟩).memory:=
 laidMetH_of_parts3 (fuel:=8) (Og 8 257 (by kernel_rfl)) (by kernel_rfl) (by kernel_rfl)
end Go.Proofs.YtioblbopbilmaaaGreatDoor
