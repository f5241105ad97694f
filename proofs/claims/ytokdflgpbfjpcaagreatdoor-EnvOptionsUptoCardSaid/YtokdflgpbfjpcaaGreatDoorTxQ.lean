/- What functions of the program and of the reference compute, on values. No statement is proved here. -/
import Derived.Test.YtokdflgpbfjpcaaGreatDoorTxN
import Derived.Test.YtokdflgpbfjpcaaGreatDoorTxO
import Derived.Test.YtokdflgpbfjpcaaGreatDoorTxP
set_option linter.all false
namespace Go.Proofs.YtokdflgpbfjpcaaGreatDoor
open Go Go.EvL Go.RowKit Go.Maps Go.Sort Go.Shelf
theorem P1 (m:Nat):AnyZ.SortsIn Tryz.prog Tryz.sorted70_ren Fence.wide m:=
 ⟨fun blk off cap ss W hH hblk hsz=>callsIn_wide.2 (AnyM.slices_Sort_string Tryz.sort107 blk off cap ss W hH hblk hsz),
  fun p cap W=>callsIn_wide.2 (AnyM.slices_Sort_string_none Tryz.sort107 p cap W)⟩
def tM (_:Value):Option (DataW Unit × List MemPlace):=some (.nil,[])
set_option maxHeartbeats 1000000 in
theorem r7 (p b nn:Nat) (D0:DataW Unit) (W:World) (hp:p < W.heap.size) (hc:W.cell? ⟨p,0,none⟩=some (.map (some b))) (hown:W.ownsMap Tryz.prog 9 tM b nn D0) (hmax:Maps.size D0≤2) :
  Calls Tryz.prog 71 #[.func (.func 120) #[] #[.pointer (some ⟨p,0,none⟩)]] W fun e w'=>∃(v:Value) (ss:List (List UInt8)),e=.returned v∧ss.Perm (strKeys D0)∧
   w'.ownsRow W.heap.size 9 1 v ss.length ((ss.mergeSort (fun x y=>decide (x≤y))).map encStr)∧(v=.slice none 0 0↔ss=[])∧Below W.heap.size W w':=by
 have hseq:SeqGives Fence.wide 2 Tryz.prog 120 #[.pointer (some ⟨p,0,none⟩)] encStr (fun ss=>ss.Perm (strKeys D0)) (Maps.size D0) W:=
  AnyZ.keys_gives (ρ:=Tryz.keys71_ren) { Tryz.keys71 with } Fence.wide _ trivial rfl (by omega) p b nn D0 _ hp hc hown
 exact (callsIn_wide (n:=5)).1 (AnyZ.sorted_in Tryz.sorted70 Fence.wide 5 trivial trivial trivial trivial rfl (by omega) (P1 _) (enters_of Tryz.func119 (by kernel_rfl) rfl) 120 #[.pointer (some ⟨p,0,none⟩)]  trivial (enters_of Tryz.func120 (by kernel_rfl) rfl) _ _ (by unfold maxLen; omega) (by omega) _ hseq)
theorem sK {g t it:Nat} (h:C9.sorted g=some t) (hit:C9.iter it=true):g=71∧t=9∧it=120:=by
 cases hb:Nat.beq g 71 with
 | false=>exact absurd h (by show (Bool.rec none (some 9) (Nat.beq g 71):Option Nat)≠_; rw [hb]; simp)
 | true=>
  have h':(Bool.rec none (some 9) (Nat.beq g 71):Option Nat)=some t:=h;rw [hb] at h';injection h' with h';exact⟨Nat.eq_of_beq_eq_true hb,h'.symm,Nat.eq_of_beq_eq_true hit⟩
theorem QN (k:ByteArray) (hk:k.size≤1048576):keyOf Tryz.prog 9 (.string k)=some (.string k.data.toList):=by
 have hu:Tryz.prog.underlying 9=some .string:=Tryz.underlying9;simp only [keyOf,hu,mapKey];rw [if_pos (by unfold maxLen; omega)]
theorem Ug:Ey Tryz.prog C9 where
 keys:=fun g it t h mb W=>by
  have hg:g=72∧it=120∧t=109:=by
   cases hb:Nat.beq g 72 with
   | false=>exact absurd h (by show (Bool.rec none (some (120,109)) (Nat.beq g 72):Option (Nat × Nat))≠_; rw [hb]; simp)
   | true=>
    have h':(Bool.rec none (some (120,109)) (Nat.beq g 72):Option (Nat × Nat))=some (it,t):=h;rw [hb] at h';injection h' with h';injection h' with h1 h2;exact⟨Nat.eq_of_beq_eq_true hb,h1.symm,h2.symm⟩
  obtain⟨rfl,rfl,rfl⟩:=hg;exact (callsIn_wide (n:=5)).1 (AnyZ.keys_in Tryz.keys71 Fence.wide 5 trivial rfl mb W)
 one:=fun g t h=>by
  have ht:t=9:=by
   cases hb:Nat.beq g 71 with
   | false=>exact absurd h (by show (Bool.rec none (some 9) (Nat.beq g 71):Option Nat)≠_; rw [hb]; simp)
   | true=>
    have h':(Bool.rec none (some 9) (Nat.beq g 71):Option Nat)=some t:=h;rw [hb] at h';injection h' with h';exact h'.symm
  subst ht;show Tryz.prog.cellsOf 9=1
  kernel_rfl
 none_:=fun g t h it hit p b clock W hc hb=>by
  obtain⟨rfl,rfl,rfl⟩:=sK h hit;have hp:p < W.heap.size:=World.block_lt_of_cell? W ⟨p,0,none⟩ hc;have hown:W.ownsMap Tryz.prog 9 tM b 0 (.map []):=⟨#[],clock,hb,⟨by simp,⟨by simp,by simp,by simp⟩,by simp⟩,by simp,rfl⟩
  refine (r7 p b 0 _ W hp hc hown (by simp [Maps.size])).mono ?_;rintro e w' ⟨v,ss,rfl,hperm,_,hnil,hbw⟩;have hss:ss=[]:=by
   have:=hperm.length_eq;simpa [strKeys] using this
  exact⟨congrArg Ending.returned (hnil.2 hss),hbw⟩
 some_:=fun g t h it hit p b clock W k v born hc hb hlt hk=>by
  obtain⟨rfl,rfl,rfl⟩:=sK h hit;have hp:p < W.heap.size:=World.block_lt_of_cell? W ⟨p,0,none⟩ hc;have hrd:Go.WideElems.rd Tryz.prog 9 tM ⟨.string k,v,born⟩=some (.string k.data.toList,.nil):=by
   unfold Go.WideElems.rd;rw [QN k hk];rfl
  have hown:W.ownsMap Tryz.prog 9 tM b 1 (.map [(.string k.data.toList,.nil)]):=by
   refine⟨_,clock,hb,⟨by simp [maxLen],⟨by simpa using hlt,by simp,by simp⟩,?_⟩,by simp,?_⟩
   ·intro x hx;simp at hx;subst hx;exact⟨_,hrd⟩
   ·simp [Go.WideElems.rg,hrd,DataW.insert]
  refine (r7 p b 1 _ W hp hc hown (by simp [Maps.size])).mono ?_;rintro e w' ⟨u,ss,rfl,hperm,hrow,hnil,hbw⟩;have hss:ss=[k.data.toList]:=by
   have:=List.perm_singleton.1 (show ss.Perm [k.data.toList] from hperm);exact this
  subst hss;have hsort:([k.data.toList]:List (List UInt8)).mergeSort (fun x y=>decide (x≤y))=[k.data.toList]:=by simp
  rw [hsort] at hrow;rcases hrow.2 with ⟨_,h0⟩ | ⟨gb,cap,cur,rfl,hg1,hg2,hg3,hg4,hg5,hg6⟩
  ·simp at h0
  ·refine⟨gb,cap,cur,rfl,hg1,hg2,hg3,by simpa using hg5,?_,hbw⟩;have:cur.toList.take 1=[encStr k.data.toList]:=by simpa using hg6
   rw [this]
 two_:=fun g t h it hit p b clock W k v born k2 v2 born2 hc hb h1 h2 hk hk2 hlt=>by
  obtain⟨rfl,rfl,rfl⟩:=sK h hit;have hp:p < W.heap.size:=World.block_lt_of_cell? W ⟨p,0,none⟩ hc;have hrd:Go.WideElems.rd Tryz.prog 9 tM ⟨.string k,v,born⟩=some (.string k.data.toList,.nil):=by
   unfold Go.WideElems.rd;rw [QN k hk];rfl
  have hrd2:Go.WideElems.rd Tryz.prog 9 tM ⟨.string k2,v2,born2⟩=some (.string k2.data.toList,.nil):=by
   unfold Go.WideElems.rd;rw [QN k2 hk2];rfl
  obtain⟨D,hD⟩ : ∃D:DataW Unit,D=.map (([⟨.string k,v,born⟩,⟨.string k2,v2,born2⟩].map (Go.WideElems.rg Tryz.prog 9 tM)).foldr DataW.insert []):=⟨_,rfl⟩
  have hD2:D=.map (DataW.insert (.string k.data.toList,.nil) [(.string k2.data.toList,.nil)]):=by
   rw [hD];simp [Go.WideElems.rg,hrd,hrd2,DataW.insert]
  have hperm0:(strKeys D).Perm [k.data.toList,k2.data.toList]∧Maps.size D=2:=by
   rw [hD2];simp only [DataW.insert];split
   ·exact⟨List.Perm.refl _,rfl⟩
   ·exact⟨List.Perm.swap _ _ _,rfl⟩
  have hown:W.ownsMap Tryz.prog 9 tM b 2 D:=by
   refine⟨_,clock,hb,⟨by simp [maxLen],⟨by simp; omega,by simp; omega,by simp; rintro rfl; simp only [Bool.or_self] at hlt; rw [jW] at hlt; exact List.lt_irrefl _ (of_decide_eq_true hlt)⟩,?_⟩,by simp,hD⟩;intro x hx;simp at hx;rcases hx with rfl | rfl
   ·exact⟨_,hrd⟩
   ·exact⟨_,hrd2⟩
  refine (r7 p b 2 D W hp hc hown (by rw [hperm0.2]; exact Nat.le_refl _)).mono ?_;rintro e w' ⟨u,ss,rfl,hperm,hrow,hnil,hbw⟩;have hss:=hperm.trans hperm0.1;obtain⟨hsort,hlen⟩:=Ll hss hlt;rw [hsort,hlen] at hrow;rcases hrow.2 with ⟨_,h0⟩ | ⟨gb,cap,cur,rfl,hg1,hg2,hg3,hg4,hg5,hg6⟩
  ·simp at h0
  ·refine⟨gb,cap,cur,rfl,hg1,hg2,hg3,by simpa using hg5,?_,hbw⟩;have h7:cur.toList.take 2=(rB k.data.toList k2.data.toList).map encStr:=by simpa using hg6
   rw [h7];unfold rB gM;cases ir k.data.toList k2.data.toList<;>rfl
theorem KJ:AU Tryz.prog C9:=UZ Ug
set_option maxRecDepth 1000000 in
theorem pe:yZ Tryz.prog:=env_of 214 (by kernel_rfl) (by kernel_rfl) (fun v w=>by kernel_rfl)
set_option maxRecDepth 1000000 in
theorem vd:Tk Tryz.prog:=So (by kernel_rfl)
theorem Ta:Tryz.prog.follows .mixedOrders=true:=by kernel_rfl
theorem ED:tZ Tryz.prog:=fun call hC hM=>by
 have hO:=FI pe vd;have hOm:=El Tryz.prog;have hD:=KP Ta hO hOm hC hM;have hDm:=BA (P:=Tryz.prog) (call:=call) hOm hM;exact⟨hD,hDm,Fg pe hO hOm hC hM hD hDm,y9 hOm hM hDm⟩
theorem C6 (w:World) (hw:Tryz.prog.globals.size≤w.heap.size):Calls Tryz.prog 5 #[] w fun e w'=>e=.returned (.bool true)∧Below w.heap.size w w':=
 yT pe vd Ta KJ (Nat.le_refl _) [] (fun x hx=>by cases hx) Dp w hw (fun x hx=>by cases hx)
end Go.Proofs.YtokdflgpbfjpcaaGreatDoor
