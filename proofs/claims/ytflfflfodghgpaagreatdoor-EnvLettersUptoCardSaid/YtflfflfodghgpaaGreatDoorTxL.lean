/- What functions of the program and of the reference compute, on values. No statement is proved here. -/
import Derived.Test.YtflfflfodghgpaaGreatDoorTxI
import Derived.Test.YtflfflfodghgpaaGreatDoorTxJ
import Derived.Test.YtflfflfodghgpaaGreatDoorTxK
set_option linter.unusedSimpArgs false
set_option linter.unusedVariables false
namespace Go.Proofs.YtflfflfodghgpaaGreatDoor
open Go Go.EvL Go.RowKit Go.Maps Go.Sort Go.Shelf
theorem NF (m:Nat):AnyZ.SortsIn Tryz.prog Tryz.sorted70_ren Fence.wide m:=
 ⟨fun blk off cap ss W hH hblk hsz=>callsIn_wide.2 (AnyM.slices_Sort_string Tryz.sort107 blk off cap ss W hH hblk hsz),
  fun p cap W=>callsIn_wide.2 (AnyM.slices_Sort_string_none Tryz.sort107 p cap W)⟩
def sA (_:Value):Option (DataW Unit × List MemPlace):=some (.nil,[])
set_option maxHeartbeats 1000000 in
theorem pZ (p b nn:Nat) (D0:DataW Unit) (W:World) (hp:p < W.heap.size) (hc:W.cell? ⟨p,0,none⟩=some (.map (some b))) (hown:W.ownsMap Tryz.prog 9 sA b nn D0) (hmax:Maps.size D0≤2) :
  Calls Tryz.prog 135 #[.func (.func 215) #[] #[.pointer (some ⟨p,0,none⟩)]] W fun e w'=>∃(v:Value) (ss:List (List UInt8)),e=.returned v∧ss.Perm (strKeys D0)∧
   w'.ownsRow W.heap.size 9 1 v ss.length ((ss.mergeSort (fun x y=>decide (x≤y))).map encStr)∧(v=.slice none 0 0↔ss=[])∧Below W.heap.size W w':=by
 have hseq:SeqGives Fence.wide 2 Tryz.prog 215 #[.pointer (some ⟨p,0,none⟩)] encStr (fun ss=>ss.Perm (strKeys D0)) (Maps.size D0) W:=
  AnyZ.keys_gives (ρ:=Tryz.keys71_ren) { Tryz.keys71 with } Fence.wide _ trivial rfl (by omega) p b nn D0 _ hp hc hown
 exact (callsIn_wide (n:=5)).1 (AnyZ.sorted_in Tryz.sorted70 Fence.wide 5 trivial trivial trivial trivial rfl (by omega) (NF _) (enters_of Tryz.func193 (by kernel_rfl) rfl) 215 #[.pointer (some ⟨p,0,none⟩)]  trivial (enters_of Tryz.func215 (by kernel_rfl) rfl) _ _ (by unfold maxLen; omega) (by omega) _ hseq)
theorem s8 {g t it:Nat} (h:Au.sorted g=some t) (hit:Au.iter it=true):g=135∧t=9∧it=215:=by
 cases hb:Nat.beq g 135 with
 | false=>exact absurd h (by show (Bool.rec none (some 9) (Nat.beq g 135):Option Nat)≠_; rw [hb]; simp)
 | true=>
  have h':(Bool.rec none (some 9) (Nat.beq g 135):Option Nat)=some t:=h;rw [hb] at h';injection h' with h';exact⟨Nat.eq_of_beq_eq_true hb,h'.symm,Nat.eq_of_beq_eq_true hit⟩
theorem PD (k:ByteArray) (hk:k.size≤1048576):keyOf Tryz.prog 9 (.string k)=some (.string k.data.toList):=by
 have hu:Tryz.prog.underlying 9=some .string:=Tryz.underlying9;simp only [keyOf,hu,mapKey];rw [if_pos (by unfold maxLen; omega)]
theorem SH:uQ Tryz.prog Au where
 tab:=fun g args v h=>by cases h
 keys:=fun g it t h mb W=>by
  have hg:g=153∧it=215∧t=181:=by
   cases hb:Nat.beq g 153 with
   | false=>exact absurd h (by show (Bool.rec none (some (215,181)) (Nat.beq g 153):Option (Nat × Nat))≠_; rw [hb]; simp)
   | true=>
    have h':(Bool.rec none (some (215,181)) (Nat.beq g 153):Option (Nat × Nat))=some (it,t):=h;rw [hb] at h';injection h' with h';injection h' with h1 h2;exact⟨Nat.eq_of_beq_eq_true hb,h1.symm,h2.symm⟩
  obtain⟨rfl,rfl,rfl⟩:=hg;exact (callsIn_wide (n:=5)).1 (AnyZ.keys_in Tryz.keys71 Fence.wide 5 trivial rfl mb W)
 one:=fun g t h=>by
  have ht:t=9:=by
   cases hb:Nat.beq g 135 with
   | false=>exact absurd h (by show (Bool.rec none (some 9) (Nat.beq g 135):Option Nat)≠_; rw [hb]; simp)
   | true=>
    have h':(Bool.rec none (some 9) (Nat.beq g 135):Option Nat)=some t:=h;rw [hb] at h';injection h' with h';exact h'.symm
  subst ht;show Tryz.prog.cellsOf 9=1
  kernel_rfl
 none_:=fun g t h it hit p b clock W hc hb=>by
  obtain⟨rfl,rfl,rfl⟩:=s8 h hit;have hp:p < W.heap.size:=World.block_lt_of_cell? W ⟨p,0,none⟩ hc;have hown:W.ownsMap Tryz.prog 9 sA b 0 (.map []):=⟨#[],clock,hb,⟨by simp,⟨by simp,by simp,by simp⟩,by simp⟩,by simp,rfl⟩
  refine (pZ p b 0 _ W hp hc hown (by simp [Maps.size])).mono ?_;rintro e w' ⟨v,ss,rfl,hperm,_,hnil,hbw⟩;have hss:ss=[]:=by
   have:=hperm.length_eq;simpa [strKeys] using this
  exact⟨congrArg Ending.returned (hnil.2 hss),hbw⟩
 some_:=fun g t h it hit p b clock W k v born hc hb hlt hk=>by
  obtain⟨rfl,rfl,rfl⟩:=s8 h hit;have hp:p < W.heap.size:=World.block_lt_of_cell? W ⟨p,0,none⟩ hc;have hrd:Go.WideElems.rd Tryz.prog 9 sA ⟨.string k,v,born⟩=some (.string k.data.toList,.nil):=by
   unfold Go.WideElems.rd;rw [PD k hk];rfl
  have hown:W.ownsMap Tryz.prog 9 sA b 1 (.map [(.string k.data.toList,.nil)]):=by
   refine⟨_,clock,hb,⟨by simp [maxLen],⟨by simpa using hlt,by simp,by simp⟩,?_⟩,by simp,?_⟩
   ·intro x hx;simp at hx;subst hx;exact⟨_,hrd⟩
   ·simp [Go.WideElems.rg,hrd,DataW.insert]
  refine (pZ p b 1 _ W hp hc hown (by simp [Maps.size])).mono ?_;rintro e w' ⟨u,ss,rfl,hperm,hrow,hnil,hbw⟩;have hss:ss=[k.data.toList]:=by
   have:=List.perm_singleton.1 (show ss.Perm [k.data.toList] from hperm);exact this
  subst hss;have hsort:([k.data.toList]:List (List UInt8)).mergeSort (fun x y=>decide (x≤y))=[k.data.toList]:=by simp
  rw [hsort] at hrow;rcases hrow.2 with ⟨_,h0⟩ | ⟨gb,cap,cur,rfl,hg1,hg2,hg3,hg4,hg5,hg6⟩
  ·simp at h0
  ·refine⟨gb,cap,cur,rfl,hg1,hg2,hg3,by simpa using hg5,?_,hbw⟩;have:cur.toList.take 1=[encStr k.data.toList]:=by simpa using hg6
   rw [this]
 two_:=fun g t h it hit p b clock W k v born k2 v2 born2 hc hb h1 h2 hk hk2 hlt=>by
  obtain⟨rfl,rfl,rfl⟩:=s8 h hit;have hp:p < W.heap.size:=World.block_lt_of_cell? W ⟨p,0,none⟩ hc;have hrd:Go.WideElems.rd Tryz.prog 9 sA ⟨.string k,v,born⟩=some (.string k.data.toList,.nil):=by
   unfold Go.WideElems.rd;rw [PD k hk];rfl
  have hrd2:Go.WideElems.rd Tryz.prog 9 sA ⟨.string k2,v2,born2⟩=some (.string k2.data.toList,.nil):=by
   unfold Go.WideElems.rd;rw [PD k2 hk2];rfl
  obtain⟨D,hD⟩ : ∃D:DataW Unit,D=.map (([⟨.string k,v,born⟩,⟨.string k2,v2,born2⟩].map (Go.WideElems.rg Tryz.prog 9 sA)).foldr DataW.insert []):=⟨_,rfl⟩
  have hD2:D=.map (DataW.insert (.string k.data.toList,.nil) [(.string k2.data.toList,.nil)]):=by
   rw [hD];simp [Go.WideElems.rg,hrd,hrd2,DataW.insert]
  have hperm0:(strKeys D).Perm [k.data.toList,k2.data.toList]∧Maps.size D=2:=by
   rw [hD2];simp only [DataW.insert];split
   ·exact⟨List.Perm.refl _,rfl⟩
   ·exact⟨List.Perm.swap _ _ _,rfl⟩
  have hown:W.ownsMap Tryz.prog 9 sA b 2 D:=by
   refine⟨_,clock,hb,⟨by simp [maxLen],⟨by simp; omega,by simp; omega,by simp; rintro rfl; simp only [Bool.or_self] at hlt; rw [js] at hlt; exact List.lt_irrefl _ (of_decide_eq_true hlt)⟩,?_⟩,by simp,hD⟩;intro x hx;simp at hx;rcases hx with rfl | rfl
   ·exact⟨_,hrd⟩
   ·exact⟨_,hrd2⟩
  refine (pZ p b 2 D W hp hc hown (by rw [hperm0.2]; exact Nat.le_refl _)).mono ?_;rintro e w' ⟨u,ss,rfl,hperm,hrow,hnil,hbw⟩;have hss:=hperm.trans hperm0.1;obtain⟨hsort,hlen⟩:=IOo hss hlt;rw [hsort,hlen] at hrow;rcases hrow.2 with ⟨_,h0⟩ | ⟨gb,cap,cur,rfl,hg1,hg2,hg3,hg4,hg5,hg6⟩
  ·simp at h0
  ·refine⟨gb,cap,cur,rfl,hg1,hg2,hg3,by simpa using hg5,?_,hbw⟩;have h7:cur.toList.take 2=(qP k.data.toList k2.data.toList).map encStr:=by simpa using hg6
   rw [h7];unfold qP fZ;cases gQ k.data.toList k2.data.toList<;>rfl
 look:=fun g off f h=>by cases h
theorem IX:zE Tryz.prog Au:=Se SH
set_option maxRecDepth 1000000 in
theorem mR:yG Tryz.prog:=env_of 316 (by kernel_rfl) (by kernel_rfl) (fun v w=>by kernel_rfl)
set_option maxRecDepth 1000000 in
theorem wc:QW Tryz.prog:=PO (by kernel_rfl)
theorem PG:Tryz.prog.follows .mixedOrders=true:=by kernel_rfl
theorem D7:sU Tryz.prog:=fun call hC hM=>by
 have hO:=Ey mR wc;have hOm:=Dn Tryz.prog;have hD:=HD PG hO hOm hC hM;have hDm:=Ag (P:=Tryz.prog) (call:=call) hOm hM;exact⟨hD,hDm,Dt mR hO hOm hC hM hD hDm,xa hOm hM hDm⟩
theorem AD (w:World) (hw:Tryz.prog.globals.size≤w.heap.size):Calls Tryz.prog 32 #[] w fun e w'=>e=.returned (.bool true)∧Below w.heap.size w w':=
 xN mR wc PG IX (Nat.le_refl _) [] (fun x hx=>by cases hx) Cw w hw (fun x hx=>by cases hx)
end Go.Proofs.YtflfflfodghgpaaGreatDoor
