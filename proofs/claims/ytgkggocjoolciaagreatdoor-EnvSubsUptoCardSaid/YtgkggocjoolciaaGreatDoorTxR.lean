/- What functions of the program and of the reference compute, on values. No statement is proved here. -/
import Derived.Test.YtgkggocjoolciaaGreatDoorTxK
import Derived.Test.YtgkggocjoolciaaGreatDoorTxL
import Derived.Test.YtgkggocjoolciaaGreatDoorTxQ
import Derived.Test.YtgkggocjoolciaaGreatDoorTie
import Derived.Test.YtgkggocjoolciaaGreatDoorCards
import Derived.WalkKit
import Derived.ProofKit
import Derived.OpenShut
import Derived.ShutString
import Derived.ChangeOld
import Derived.LaidMore
import Derived.Stop.Joined
import Derived.SevenTiedAt
import Derived.LaidOnce
import Derived.Carry
import Derived.Deep.DeepHandedRow
set_option linter.all false
namespace Go.Proofs.YtgkggocjoolciaaGreatDoor
open Go Go.EvL Go.PE Go.ChangeShapes Go.WideShapes Go.ChangeAt Go.RowKit
theorem own:ownKnob Tryz.prog.godebug=none:=by kernel_rfl
theorem Ol:laidOutB Tryz.prog=true:=by kernel_rfl
theorem OD:Tryz.prog.globals.size=3:=by kernel_rfl
abbrev Uo:List (String × DataW Unit):=Rows.envSubsUptoRow.laid
theorem Fq {W:World} (hs:W.ShapedOpen Tryz.prog) (b:Nat) (hb:b < 3) (hk:(((begin Tryz.prog (fun _ _=>0) default).world.heap[b]?).bind Obj.row?).isSome=true):∃C e fz,W.heap[b]?=some (.cells C e fz):=by
 obtain⟨⟨zero,t⟩,hz⟩:=Option.isSome_iff_exists.1 hk;obtain⟨cs,hcs,_⟩:=hs.1 b zero t (by rw [OD]; exact hb) hz;exact⟨cs,t,_,hcs⟩
set_option maxRecDepth 100000 in
theorem VH {W:World} (hs:W.ShapedOpen Tryz.prog):∃C e fz,W.heap[0]?=some (.cells C e fz):=Fq hs 0 (by decide) (by kernel_rfl)
set_option maxRecDepth 100000 in
theorem GH {W:World} (hs:W.ShapedOpen Tryz.prog):Tryz.prog.globals.size≤W.heap.size:=by
 obtain⟨C,e,fz,h⟩:=Fq hs 2 (by decide) (by kernel_rfl);have:=vU h;rw [OD];omega
noncomputable def Ri (os:Os):World:=
 { World.doorLaid Tryz.prog 326 os with heap:=(World.doorLaid Tryz.prog 326 os).heap.setIfInBounds 1 (.cells (Pinned.utf8FirstZ.map fun (n:Nat)=>Value.int .u8 (n:Int)).toArray 251) }
noncomputable def SV (P:Program) (w:World) (fuel M:Nat) (names:List String):Option (List (String × DataW Unit)):=
 (DataW.laidRun P w fuel names).bind fun x=>if nodupBits M x.2 0 && laidRowsB P w x.2 then some x.1 else none
theorem Rp {P:Program}{w:World}{l:List (String × DataW Unit)} (fuel M:Nat) (h:SV P w fuel M (l.map (·.1))=some l):laidMet P l w:=by
 unfold SV at h;rw [Option.bind_eq_some_iff] at h;obtain⟨x,hx,h⟩:=h;split at h
 ·rename_i hb;simp only [Bool.and_eq_true] at hb;have e:=Option.some.inj h;exact laidMet_of_run (ps:=x.2) fuel (by rw [hx,← e]) (decide_eq_true (nodupBits_sound hb.1).1) hb.2
 ·cases h
set_option maxRecDepth 100000 in
theorem HD (os:Os) (args:Array Value):laidMetH Tryz.prog Uo ((Ri os).forCall (fun _ _=>0) ⟨#[],args,[]⟩).memory:=
 laidMetH_of_parts3 (fuel:=8) (Rp 8 257 (by kernel_rfl)) (by kernel_rfl) (by kernel_rfl)
def RN (H:Type):Dx H where
 b:=Rows.uptoBulk
 bs:=Rows.uptoBulkAll
 nil:=by simp [Rows.uptoBulkAll]
 cons:=fun d l=>by simp [Rows.uptoBulkAll]
 slice:=fun l r=>by simp [Rows.uptoBulk]
 agg:=fun l=>by simp [Rows.uptoBulk]
 str:=fun l=>by simp [Rows.uptoBulk]
 pos:=fun d=>by
  cases d with
  | lit l=>cases l<;>simp [Rows.uptoBulk]
  | _=>simp [Rows.uptoBulk]
def oU:List TypeId:=[2,3,4,9,22,23,24,25,26,28,30,43,46,58,63,64,65,66,67,69,71,95,97,99,124,129,150]
theorem ID:∀t,oU.contains t=true→Uv Tryz.prog oU t=true:=by
 intro t ht;have h:oU.all (fun t=>Uv Tryz.prog oU t)=true:=by kernel_rfl
 have hm:t∈oU:=by simpa using ht
 exact List.all_eq_true.1 h t hm
theorem Qr {P:Program}{t:TypeId}{fs:Array Field} (hu:P.underlying t=some (.struct fs)) {W:World}{base:Nat}{v:Value} (h:Value.okWide P W .any base t v):∃cs,v=.agg cs:=by
 unfold Value.okWide at h;rw [hu] at h;obtain⟨cs,h1,_⟩:=h;exact⟨cs,h1⟩
abbrev QR:Value:=.agg #[.string ⟨#[]⟩,.slice none 0 0,.slice none 0 0,.slice none 0 0,.slice none 0 0,.slice none 0 0,.int .i64 0,.int .i64 0,.int .i64 0,.int .i64 0,.string ⟨#[]⟩,.int .i64 0,.int .i64 0,.int .i64 0,.bool false]
end Go.Proofs.YtgkggocjoolciaaGreatDoor
