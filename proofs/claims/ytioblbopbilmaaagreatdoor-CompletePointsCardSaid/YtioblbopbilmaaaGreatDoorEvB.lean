/- An evaluator for closed calls, and its soundness. No statement is proved here. -/
import Derived.Test.YtioblbopbilmaaaGreatDoorEvA
import Derived.IntWalk
import Derived.Laws.BytesString
import Derived.Deep.Upon
import Derived.LoopN
import Derived.Recover
import Derived.Laws.Tables
import Derived.Great.BuildSlice
import Derived.Laws.RangeString
import Derived.MapKept
set_option linter.unusedSimpArgs false
set_option linter.unusedVariables false
set_option linter.defProp false
namespace Go.EvL
open Go
theorem qu:∀(l r:List UInt8),ru l r=(l == r):=by
 intro l
 induction l with
 | nil=>intro r; cases r<;>rfl
 | cons a l ih=>
  intro r;cases r with
  | nil=>rfl
  | cons b r=>
   show (Bool.rec false (ru l r) (Nat.beq a.toNat b.toNat):Bool)=_;rw [ih r];by_cases hab:a=b
   ·subst hab;rw [Nat.beq_refl];show (l == r)=(a :: l == a :: r)
    simp
   ·have:Nat.beq a.toNat b.toNat=false:=by
     cases hq:Nat.beq a.toNat b.toNat with
     | false=>rfl
     | true=>exact absurd (UInt8.toNat_inj.1 (Nat.eq_of_beq_eq_true hq)) hab
    rw [this];show false=(a :: l == b :: r)
    simp [hab]
theorem m9 (b:Bool):oK b=some (.bool b):=by cases b<;>rfl
theorem Ll (a b:Nat):((a:Int) == (b:Int))=Nat.beq a b:=by
 cases h:Nat.beq a b with
 | true=>rw [Nat.eq_of_beq_eq_true h]; simp
 | false=>
  have:a≠b:=fun e=>by subst e; rw [Nat.beq_refl] at h; cases h
  simp; omega
theorem Ca (a b:Nat):decide ((a:Int)≤(b:Int))=Nat.ble a b:=by
 cases h:Nat.ble a b with
 | true=>have:=Nat.le_of_ble_eq_true h; simp; omega
 | false=>
  have:¬ a≤b:=fun e=>by rw [Nat.ble_eq_true_of_le e] at h; cases h
  simp; omega
theorem Lq (a b:Nat):decide ((a:Int) < (b:Int))=Nat.ble (Nat.succ a) b:=by
 rw [← Ca]; exact decide_eq_decide.2 (by omega)
theorem Ay {op:BinOp}{a b:Nat}{v:Value} (h:jc op a b=some v):∀(P:Program) (w:World),(Op.intCmp op (a:Int) (b:Int)).run P w=.ok v w∧op≠.shl∧op≠.shr∧op≠.add∧op≠.sub∧op≠.mul∧op≠.quo∧op≠.rem∧op≠.and∧op≠.or∧op≠.xor∧op≠.andNot:=by
 intro P w;unfold jc at h;split at h
 all_goals first | (cases h; done) | skip
 all_goals
  rw [m9] at h;injection h with h;subst h;refine⟨?_,by decide⟩;simp only [Op.intCmp,Sem.run_pure,gt_iff_lt,ge_iff_le,bne,Ll,Ca,Lq]
theorem As {op:BinOp}{x y v:Value} (h:mr op x y=some v) (P:Program) (t:TypeId) (xo yo:Operand) (w:World):(do eqGuard op t xo yo x y; binOp op t x y:Sem Value).run P w=.ok v w:=by
 have hguard:∀(k k':IntKind) (a b:Int),(eqGuard op t xo yo (.int k a) (.int k' b)).run P w=.ok () w:=by
  intro k k' a b;unfold eqGuard;cases op<;>rfl
 have hguards:∀(a b:ByteArray),(eqGuard op t xo yo (.string a) (.string b)).run P w=.ok () w:=by
  intro a b;unfold eqGuard;cases op<;>rfl
 have hcmp:∀(k:IntKind) (a b:Nat),jc op a b=some v→(do eqGuard op t xo yo (.int k (a:Int)) (.int k (b:Int)); binOp op t (.int k (a:Int)) (.int k (b:Int)):Sem Value).run P w=.ok v w:=by
  intro k a b hc;obtain⟨h1,h2⟩:=Ay hc P w;rw [Sem.run_bind,hguard];simp only [Result.andThen];obtain⟨n1,n2,n3,n4,n5,n6,n7,n8,n9,n10,n11⟩:=h2;have:binOp op t (.int k (a:Int)) (.int k (b:Int))=Op.intCmp op (a:Int) (b:Int):=by
   cases op<;>first | (simp [binOp]; done) | contradiction
  rw [this];exact h1
 unfold mr at h;split at h
 ·rename_i k a;split at h
  ·rename_i k' b;unfold sV at h;split at h
   ·split at h
    ·unfold vH at h;split at h
     ·unfold vM at h;rw [bp] at h;obtain⟨h1,h2⟩:=aC h;injection h2 with h2;subst h2;have:=Nat.le_of_ble_eq_true h1;rw [Sem.run_bind,hguard];simp only [Result.andThen];show (binOp .add t (.int .i64 ((a:Nat):Int)) (.int .i64 ((b:Nat):Int))).run P w=.ok (.int .i64 ((Nat.add a b:Nat):Int)) w;have hw:IntKind.i64.wrap ((a:Int) + (b:Int))=((Nat.add a b:Nat):Int):=by
       rw [IntWalk.i64_in _ (by have:Nat.add a b=a + b:=rfl; omega)]; rfl
      simp [binOp,Op.intArith,hw]
     ·unfold wh at h;obtain⟨h1,h2⟩:=aC h;rw [bp] at h2;obtain⟨h3,h2⟩:=aC h2;injection h2 with h2;subst h2;have h4:=Nat.le_of_ble_eq_true h1;have h5:=Nat.le_of_ble_eq_true h3;rw [Sem.run_bind,hguard];simp only [Result.andThen];show (binOp .sub t (.int .i64 ((a:Nat):Int)) (.int .i64 ((b:Nat):Int))).run P w=.ok (.int .i64 ((Nat.sub a b:Nat):Int)) w;have hs:Nat.sub a b=a - b:=rfl;have hw:IntKind.i64.wrap ((a:Int) - (b:Int))=((Nat.sub a b:Nat):Int):=by
       rw [IntWalk.i64_in _ (by omega)]; omega
      simp [binOp,Op.intArith,hw]
     ·exact hcmp _ _ _ h
    ·cases h
   ·split at h
    ·exact hcmp _ _ _ h
    ·cases h
   ·split at h
    ·exact hcmp _ _ _ h
    ·cases h
   ·cases h
  ·cases h
 ·rename_i a;split at h
  ·rename_i b;unfold wK at h;split at h
   ·rw [m9,qu] at h;injection h with h;subst h;rw [Sem.run_bind,hguards];simp [Result.andThen,binOp,Op.stringOp,ByteArray.toList_eq]
   ·rw [m9,qu] at h;injection h with h;subst h;rw [Sem.run_bind,hguards];simp [Result.andThen,binOp,Op.stringOp,ByteArray.toList_eq]
   ·cases h
  ·cases h
 ·cases h
theorem yT {op:BinOp}{x y:Value}{t:TypeId}{xo yo:Operand}{P:Program}{w:World}{b:Bool} (hg:(eqGuard op t xo yo x y).run P w=.ok () w) (he:(Op.equal t x y).run P w=.ok b w)
  (hx:∀k n,x≠.int k n) (hf:∀k n,x≠.float k n) (hc:∀k a b,x≠.complex k a b) (hs:∀s,x≠.string s) :
  (op=.eql→(do eqGuard op t xo yo x y; binOp op t x y:Sem Value).run P w=.ok (.bool b) w)∧(op=.neq→(do eqGuard op t xo yo x y; binOp op t x y:Sem Value).run P w=.ok (.bool (!b)) w):=by
 constructor
 ·rintro rfl;rw [Sem.run_bind,hg];simp only [Result.andThen];have:binOp .eql t x y=(do pure (.bool (← Op.equal t x y)):Sem Value):=by
   cases x<;>first | rfl | exact absurd rfl (hx _ _) | exact absurd rfl (hf _ _) | exact absurd rfl (hc _ _ _) | exact absurd rfl (hs _)
  rw [this,Sem.run_bind,he];rfl
 ·rintro rfl;rw [Sem.run_bind,hg];simp only [Result.andThen];have:binOp .neq t x y=(do pure (.bool (!(← Op.equal t x y))):Sem Value):=by
   cases x<;>first | rfl | exact absurd rfl (hx _ _) | exact absurd rfl (hf _ _) | exact absurd rfl (hc _ _ _) | exact absurd rfl (hs _)
  rw [this,Sem.run_bind,he];rfl
theorem uz {P:Program}{t e:TypeId} (hu:P.underlying t=some (.pointer e)) (a:Addr) (w:World) (n:Nat):(Op.equalIn (n + 1) t (.pointer (some a)) (.pointer none)).run P w=.ok false w:=by
 rw [Op.equalIn,Sem.run_bind,run_underlying hu];rfl
theorem rj {P:Program}{t u:TypeId}{m:Array (String × TypeId)}{v:Value} (hu:P.underlying t=some (.interface m)) (w:World) (n:Nat):(Op.equalIn (n + 1) t (.iface u v) .nilIface).run P w=.ok false w:=by
 rw [Op.equalIn,Sem.run_bind,run_underlying hu];rfl
theorem lp {P:Program}{t e:TypeId} (hu:P.underlying t=some (.slice e)) (a:Addr) (l c l' c':Nat) (w:World) (n:Nat):(Op.equalIn (n + 1) t (.slice (some a) l c) (.slice none l' c')).run P w=.ok false w:=by
 rw [Op.equalIn,Sem.run_bind,run_underlying hu];rfl
theorem rR {P:Program}{t e m:TypeId} (hu:P.underlying t=some (.pointer e)) (hs:bP P e=some (m + 1)) (g o1 o2:Nat) (w:World) (n:Nat):(Op.equalIn (n + 1) t (.pointer (some ⟨g,o1,none⟩)) (.pointer (some ⟨g,o2,none⟩))).run P w=.ok (Nat.beq o1 o2) w:=by
 have hbq:(({ block:=g,off:=o1 } : Addr) == { block:=g,off:=o2 })=Nat.beq o1 o2:=by
  cases hz:Nat.beq o1 o2 with
  | true=>rw [Nat.eq_of_beq_eq_true hz]; simp
  | false=>
   have:o1≠o2:=fun e=>by subst e; rw [Nat.beq_refl] at hz; cases hz
   rw [beq_eq_false_iff_ne];intro hh;injection hh with _ hh;omega
 rw [Op.equalIn,Sem.run_bind,run_underlying hu];simp only [Result.andThen,Sem.run_bind,eF hs];simp [sameAddr,hbq]
section
variable {P:Program}{f:Fr}{A A':AS}{nx:cu}{d:Option Tmp}{ty:TypeId}{pos:String}{af:Array Edge}{gd:Option (Nat × Bool)}
theorem mw (hi:bE A) {op:BinOp}{t u:TypeId}{x y:Operand}{b:Bool} (h:u5 op b A=some (nx,A'))
  (hrun:∀(φ:cK) (w:World) (a:Act),dm φ f a→(eqGuard op t x y (a.eval x) (a.eval y)).run P w=.ok () w∧(Op.equal t (a.eval x) (a.eval y)).run P w=.ok b w∧(∀k n,a.eval x≠.int k n)∧(∀k n,a.eval x≠.float k n)∧(∀k n m,a.eval x≠.complex k n m)∧(∀s,a.eval x≠.string s)) :
  bQ P f A ⟨d,.binOp op t x y u,ty,pos,af,gd⟩ nx A':=by
 unfold u5 at h;split at h
 ·injection h with h;injection h with h1 h2;subst h1;subst h2;refine aM hi fun φ w a hf=>?_;obtain⟨g1,g2,g3,g4,g5,g6⟩:=hrun φ w a hf;have e:(execOp a.eval ⟨d,.binOp .eql t x y u,ty,pos,af,gd⟩).run P w=.ok (.value (.bool b)) w:=bT ((yT g1 g2 g3 g4 g5 g6).1 rfl);rw [e];exact .val _ _ (.bool _)
 ·injection h with h;injection h with h1 h2;subst h1;subst h2;refine aM hi fun φ w a hf=>?_;obtain⟨g1,g2,g3,g4,g5,g6⟩:=hrun φ w a hf;have e:(execOp a.eval ⟨d,.binOp .neq t x y u,ty,pos,af,gd⟩).run P w=.ok (.value (.bool (!b))) w:=bT ((yT g1 g2 g3 g4 g5 g6).2 rfl);rw [e];exact .val _ _ (.bool _)
 ·cases h
theorem Di (hi:bE A) (op:BinOp) (t u:TypeId) (x y:Operand) (h:aU P f ⟨d,.binOp op t x y u,ty,pos,af,gd⟩ A=some (nx,A')):bQ P f A ⟨d,.binOp op t x y u,ty,pos,af,gd⟩ nx A':=by
 have h':uk P f ⟨d,.binOp op t x y u,ty,pos,af,gd⟩ op t (f.eval x) (f.eval y) A=some (nx,A'):=h;unfold uk at h';split at h'
 ·rename_i va hx;split at h'
  ·rename_i vb hy;split at h'
   ·rename_i v hv;injection h' with h';injection h' with h1 h2;subst h1;subst h2;refine aM hi fun φ w a hf=>?_;have hpx:=hf.eval hx;have hpy:=hf.eval hy;have hk:=As hv P t x y w;have ex:a.eval x=va∧a.eval y=vb∧dE φ v v:=by
     unfold mr at hv;split at hv
     ·split at hv
      ·generalize a.eval x=q at hpx ⊢;generalize a.eval y=q2 at hpy ⊢;cases hpx;cases hpy;refine⟨rfl,rfl,?_⟩;unfold sV at hv;have hcv:∀{o:BinOp}{m n:Nat},jc o m n=some v→dE φ v v:=by
        intro o m n hh;unfold jc at hh;split at hh
        all_goals first | (cases hh; done) | (rw [m9] at hh; injection hh with hh; subst hh; exact .bool _)
       split at hv
       ·split at hv
        ·unfold vH at hv;split at hv
         ·unfold vM at hv;rw [bp] at hv;obtain⟨_,hv⟩:=aC hv;injection hv with hv;subst hv;exact .int _ _
         ·unfold wh at hv;obtain⟨_,hv⟩:=aC hv;rw [bp] at hv;obtain⟨_,hv⟩:=aC hv;injection hv with hv;subst hv;exact .int _ _
         ·exact hcv hv
        ·cases hv
       ·split at hv
        ·exact hcv hv
        ·cases hv
       ·split at hv
        ·exact hcv hv
        ·cases hv
       ·cases hv
      ·cases hv
     ·split at hv
      ·generalize a.eval x=q at hpx ⊢;generalize a.eval y=q2 at hpy ⊢;cases hpx;cases hpy;refine⟨rfl,rfl,?_⟩;unfold wK at hv;split at hv
       all_goals first | (cases hv; done) | (rw [m9] at hv; injection hv with hv; subst hv; exact .bool _)
      ·cases hv
     ·cases hv
    have e:(execOp a.eval ⟨d,.binOp op t x y u,ty,pos,af,gd⟩).run P w=.ok (.value v) w:=by
     refine bT ?_;rw [ex.1,ex.2.1];exact hk
    rw [e];exact .val _ _ ex.2.2
   ·unfold kF at h';split at h'
    ·rename_i p e hu hfb;refine mw hi h' fun φ w a hf=>?_;have hpx:=hf.eval hx;have hpy:=hf.eval hy;generalize hq:a.eval x=q at hpx;generalize hq2:a.eval y=q2 at hpy;cases hpy;cases hpx with
     | ptr bb oo i hφ=>
      refine⟨?_,?_,by intros; simp,by intros; simp,by intros; simp,by intros; simp⟩
      ·unfold eqGuard; cases op<;>rfl
      ·exact uz hu _ w 9999
    ·rename_i tt vv m hu hfb;refine mw hi h' fun φ w a hf=>?_;have hpx:=hf.eval hx;have hpy:=hf.eval hy;generalize hq:a.eval x=q at hpx;generalize hq2:a.eval y=q2 at hpy;cases hpy;cases hpx with
     | iface _ _ v' hvv=>
      refine⟨?_,?_,by intros; simp,by intros; simp,by intros; simp,by intros; simp⟩
      ·unfold eqGuard; cases op<;>rfl
      ·exact rj hu w 9999
    ·rename_i p l1 c1 l2 c2 e hu hfb;refine mw hi h' fun φ w a hf=>?_;have hpx:=hf.eval hx;have hpy:=hf.eval hy;generalize hq:a.eval x=q at hpx;generalize hq2:a.eval y=q2 at hpy;cases hpy;cases hpx with
     | slice _ _ _ _ cap' a' j hφ hl hc ha hr=>
      refine⟨?_,?_,by intros; simp,by intros; simp,by intros; simp,by intros; simp⟩
      ·unfold eqGuard; cases op<;>rfl
      ·exact lp hu _ _ _ _ _ w 9999
     | sliceX _ _ _ a' j hφ ha=>
      refine⟨?_,?_,by intros; simp,by intros; simp,by intros; simp,by intros; simp⟩
      ·unfold eqGuard; cases op<;>rfl
      ·exact lp hu _ _ _ _ _ w 9999
    ·rename_i b1 o1 b2 o2 e hu hfb;unfold rt at h';split at h'
     ·rename_i m hsz;obtain⟨hb,h1⟩:=aC h';have hb':b1=b2:=Nat.eq_of_beq_eq_true hb;subst hb';refine mw hi h1 fun φ w a hf=>?_;have hpx:=hf.eval hx;have hpy:=hf.eval hy;generalize hq:a.eval x=q at hpx;generalize hq2:a.eval y=q2 at hpy;cases hpx with
      | ptr _ _ i hφ=>
       cases hpy with
       | ptr _ _ i2 hφ2=>
        obtain rfl:i2=i:=by rw [hφ] at hφ2; injection hφ2 with hφ2; exact hφ2.symm
        refine⟨?_,?_,by intros; simp,by intros; simp,by intros; simp,by intros; simp⟩
        ·unfold eqGuard; cases op<;>rfl
        ·have he:=rR hu hsz i2.blk (i2.sh + o1) (i2.sh + o2) w 9999;have hb2:Nat.beq (i2.sh + o1) (i2.sh + o2)=Nat.beq o1 o2:=by
          cases hz:Nat.beq o1 o2 with
          | true=>rw [Nat.eq_of_beq_eq_true hz,Nat.beq_refl]
          | false=>
           cases hz2:Nat.beq (i2.sh + o1) (i2.sh + o2) with
           | false=>rfl
           | true=>
            have:=Nat.eq_of_beq_eq_true hz2;have h3:o1=o2:=by omega
            subst h3;rw [Nat.beq_refl] at hz;cases hz
         rw [hb2] at he;exact he
     ·cases h'
    ·exact cY hi _ (by intro _ _ hh; cases hh) h'
  ·cases h'
 ·cases h'
end
section
variable {P:Program}{f:Fr}{A A':AS}{nx:cu}{d:Option Tmp}{ty:TypeId}{pos:String}{af:Array Edge}{gd:Option (Nat × Bool)}
theorem Bo {φ:cK}{a:Act} (hf:dm φ f a) {args:Array Operand}{i:Nat}{v:Value} (h:(args.toList[i]?).bind f.eval=some v):∃v',(args.map a.eval)[i]?=some v'∧dE φ v v':=by
 cases hx:args.toList[i]? with
 | none=>rw [hx] at h; cases h
 | some x=>
  rw [hx] at h;refine⟨a.eval x,?_,hf.eval h⟩;rw [Array.getElem?_map,show args[i]?=some x by simpa using hx];rfl
theorem Bu {tys:Array TypeId}{i:Nat}{dd:TypeDesc} (h:(tys.toList[i]?).bind P.underlying=some dd):∃t,tys[i]?=some t∧P.underlying t=some dd:=by
 cases hx:tys.toList[i]? with
 | none=>rw [hx] at h; cases h
 | some x=>rw [hx] at h; exact⟨x,by simpa using hx,h⟩
theorem EG (hi:bE A) (args:Array Operand) (tys:Array TypeId) (h:BG P f ⟨d,.call ⟨.builtin .len,args,tys⟩,ty,pos,af,gd⟩ ((tys.toList[0]?).bind P.underlying) ((args.toList[0]?).bind f.eval) A=some (nx,A')) :
  bQ P f A ⟨d,.call ⟨.builtin .len,args,tys⟩,ty,pos,af,gd⟩ nx A':=by
 unfold BG at h;split at h
 ·rename_i e a0 n c ht hx;injection h with h;injection h with h1 h2;subst h1;subst h2;refine aM hi fun φ w a hf=>?_;obtain⟨v',g1,g2⟩:=Bo hf hx;obtain⟨t,g3,g4⟩:=Bu ht;have e:(execOp a.eval ⟨d,.call ⟨.builtin .len,args,tys⟩,ty,pos,af,gd⟩).run P w=.ok (.value (.int .i64 (n:Int))) w:=by
   refine bT ?_;cases g2 with
   | slice=>simp only [Builtin.len_,g3,g1,Sem.run_bind,run_underlying g4,Result.andThen]; rfl
   | nilSlice=>simp only [Builtin.len_,g3,g1,Sem.run_bind,run_underlying g4,Result.andThen]; rfl
   | sliceX=>simp only [Builtin.len_,g3,g1,Sem.run_bind,run_underlying g4,Result.andThen]; rfl
  rw [e];exact .val _ _ (.int _ _)
 ·rename_i b ht hx;rw [bp] at h;injection h with h;injection h with h1 h2;subst h1;subst h2;refine aM hi fun φ w a hf=>?_;obtain⟨v',g1,g2⟩:=Bo hf hx;obtain⟨t,g3,g4⟩:=Bu ht;have e:(execOp a.eval ⟨d,.call ⟨.builtin .len,args,tys⟩,ty,pos,af,gd⟩).run P w=.ok (.value (.int .i64 (b.data.toList.length:Int))) w:=by
   refine bT ?_;cases g2;simp only [Builtin.len_,g3,g1,Sem.run_bind,run_underlying g4,Result.andThen];rw [Array.length_toList];rfl
  rw [e];exact .val _ _ (.int _ _)
 ·rename_i kt et b ht hx;unfold vt at h;split at h
  ·rename_i es clk hb;rw [bp] at h;injection h with h;injection h with h1 h2;subst h1;subst h2;have hl:=(hi.lt _ _ hb).1;refine⟨fd hi hl,fun φ T w a hf hr hT _=>⟨φ,w,by rw [aB]; exact .refl hr rfl rfl rfl rfl rfl rfl rfl,?_⟩⟩;have hTb:T b:=hT b hl (.inl (by rw [aB,cg]; simp));obtain⟨i,q,e1,e2,e3⟩:=hr.obj b _ hb rfl hTb;obtain⟨v',g1,g2⟩:=Bo hf hx;obtain⟨t,g3,g4⟩:=Bu ht;cases e3 with
   | map _ _ es' hc he=>
    cases g2 with
    | map _ j hj=>
     rw [e1] at hj;injection hj with hj;subst hj;have hlen:es'.size=es.length:=by
      have:∀{l l':List MapEntry},pJ φ l l'→l'.length=l.length:=fun h=>by
       induction h with
       | nil=>rfl
       | cons _ _ _ _ _ _ _ _ _ ih=>rw [List.length_cons,List.length_cons,ih]
      rw [← Array.length_toList,this he]
     have e:(execOp a.eval ⟨d,.call ⟨.builtin .len,args,tys⟩,ty,pos,af,gd⟩).run P w=.ok (.value (.int .i64 (es.length:Int))) w:=by
      refine bT ?_;simp [Builtin.len_,g3,g1,Sem.run_bind,run_underlying g4,MapKept.run_getObj_map e2,Result.andThen,hlen,goInt]
     rw [e];exact .val _ _ (.int _ _)
  ·cases h
 ·exact cY hi _ (by intro _ _ hh; cases hh) h
structure lW (P:Program):Prop where
 num:∀(g:Nat) (fn:Func),P.funcs[g]?=some fn→(fn.name == "runtime.NumGoroutine")=false
 noesc:∀(g:Nat) (fn:Func),P.funcs[g]?=some fn→fn.body=none→(fn.name == "internal/abi.NoEscape")=true→∀v w,(callFunc g #[v]).run P w=.ok (.value v) w
theorem pR (hP:lW P) {g:FuncId}{fn:Func}{c:Code} (hfn:P.funcs[g]?=some fn) (hc:fn.body=some c) (args:Array Value) (w:World):(callFunc g args).run P w=.ok (.enter g args) w:=by
 simp only [callFunc,Sem.run_bind,run_program,Result.andThen,hfn,hP.num _ _ hfn,hc];simp
theorem zy (hP:lW P) (hi:bE A) {g:FuncId}{vs:List Value}{o:Oper} (h:mf P g vs A=some (nx,A')) (hrun:∀(φ:cK) (w:World) (a:Act),dm φ f a→∃vs',b8 φ vs vs'∧(execOp a.eval o).run P w=(callFunc g vs'.toArray).run P w):bQ P f A o nx A':=by
 unfold mf at h;split at h
 ·cases h
 ·rename_i fn hfn;split at h
  ·rename_i c hc;injection h with h;injection h with h1 h2;subst h1;subst h2;refine aM hi fun φ w a hf=>?_;obtain⟨vs',g1,g2⟩:=hrun φ w a hf;rw [g2,pR hP hfn hc];exact .enter _ _ _ g1
  ·rename_i hc;rcases eo h with ⟨hb,h⟩ | ⟨hb,h⟩
   ·obtain⟨hp,h⟩:=aC h;unfold gF at h;split at h
    ·rename_i v hv;obtain⟨hpv,h⟩:=aC h;injection h with h;injection h with h1 h2;subst h1;subst h2;refine aM hi fun φ w a hf=>?_;obtain⟨vs',g1,g2⟩:=hrun φ w a hf;have:vs'=vs:=pd (cN φ 50) _ _ hp g1;subst this;rw [g2,gJ P _ hv w];exact .val _ _ (cy φ _ _ hpv)
    ·cases h
   ·split at h
    ·rename_i v;injection h with h;injection h with h1 h2;subst h1;subst h2;refine aM hi fun φ w a hf=>?_;obtain⟨vs',g1,g2⟩:=hrun φ w a hf;cases g1 with
     | cons _ v' _ l' hv hs=>
      cases hs;rw [g2,hP.noesc _ _ hfn hc hb];exact .val _ _ hv
    ·cases h
theorem jg (hP:lW P) (hi:bE A) (x:Operand) (args:Array Operand) (tys:Array TypeId) (h:tf P (f.eval x) (iq f args.toList) A=some (nx,A')) :
  bQ P f A ⟨d,.call ⟨.value x,args,tys⟩,ty,pos,af,gd⟩ nx A':=by
 unfold tf at h;split at h
 ·rename_i g first cap as hx has;refine zy hP hi h fun φ w a hf=>?_;have hv:=hf.eval hx;have ha:=mF hf _ has;generalize hq:a.eval x=q at hv;cases hv with
  | func _ _ _ first' cap' h1 h2=>
   refine⟨first'.toList ++ (args.toList.map a.eval ++ cap'.toList),b8.append h1 (b8.append ha h2),?_⟩;have e:(first'.toList ++ (args.toList.map a.eval ++ cap'.toList)).toArray=first' ++ args.map a.eval ++ cap':=by
    apply Array.ext';simp
   rw [e];simp only [execOp,resolve,hq,Deferred.ofValue];rfl
 ·cases h
theorem xf (hi:bE A) (c:Call) (h:aU P f ⟨d,.defer c,ty,pos,af,gd⟩ A=some (nx,A')):bQ P f A ⟨d,.defer c,ty,pos,af,gd⟩ nx A':=by
 have h':nO f c A=some (nx,A'):=h;unfold nO at h';obtain⟨cal,args,tys⟩:=c;simp only at h';split at h'
 ·rename_i x;split at h'
  ·rename_i g first cap as hx has;injection h' with h';injection h' with h1 h2;subst h1;subst h2;refine aM hi fun φ w a hf=>?_;have hv:=hf.eval hx;have ha:=mF hf _ has;generalize hq:a.eval x=q at hv;cases hv with
   | func _ _ _ first' cap' h3 h4=>
    have e:(execOp a.eval ⟨d,.defer ⟨.value x,args,tys⟩,ty,pos,af,gd⟩).run P w=.ok (.defer ⟨.fn (.func g) cap',first' ++ args.map a.eval⟩) w:=by
     simp only [execOp,resolve,hq,Deferred.ofValue];rfl
    rw [e];refine .dfr _ _ (.mk _ _ _ _ _ h4 ?_);simpa using b8.append h3 ha
  ·cases h'
 ·cases h'
theorem xq (hi:bE A) (x:Operand) (h:aU P f ⟨d,.panic x,ty,pos,af,gd⟩ A=some (nx,A')):bQ P f A ⟨d,.panic x,ty,pos,af,gd⟩ nx A':=by
 have h':qj (f.eval x) A=some (nx,A'):=h;unfold qj at h';split at h'
 ·rename_i t v hx;injection h' with h';injection h' with h1 h2;subst h1;subst h2;refine aM hi fun φ w a hf=>?_;have hv:=hf.eval hx;have e:(execOp a.eval ⟨d,.panic x,ty,pos,af,gd⟩).run P w=.halt (.panic (a.eval x)) w:=by
   generalize hq:a.eval x=q at hv;cases hv;simp only [execOp,hq];rfl
  rw [e];exact .panic _ _ hv
 ·cases h'
end
section
variable {P:Program}{f:Fr}{A A' A₁:AS}{nx:cu}{d:Option Tmp}{ty:TypeId}{pos:String}{af:Array Edge}{gd:Option (Nat × Bool)}
structure Cr (P:Program) (A A₁:AS) (e:TypeId) (t:Option TypeDesc) (x:Value) (xs:List Value) (n:Nat):Prop where
 fr:bE A→kW A A₁
 heap:A₁.heap=A.heap
 fz:A₁.fz=A.fz
 next:A₁.next=A.next
 mem:A₁.mem=A.mem
 w:A₁.w=A.w
 nil:n=0→xs=[]
 src:∀(φ:cK) (T:Nat→Prop) (w:World) (x':Value) (tx:TypeId) (i:TypeInfo),bE A→gz P φ T A w→fU A A₁ T→dE φ x x'→P.underlying tx=t→P.info? e=some i→xs.length=n * i.size→xs.all nF=true→∃xs',b8 φ xs xs'∧Src P i.size tx x' n xs' w
theorem sG {e:TypeId}{t:Option TypeDesc}{x:Value}{xs:List Value}{n:Nat} (h0:n=0→xs=[]) (h:∀(φ:cK) (w:World) (x':Value) (tx:TypeId) (i:TypeInfo),dE φ x x'→P.underlying tx=t→P.info? e=some i→xs.length=n * i.size→xs.all nF=true→∃xs',b8 φ xs xs'∧Src P i.size tx x' n xs' w):Cr P A A e t x xs n:=
 ⟨fun h=>.refl h,rfl,rfl,rfl,rfl,rfl,h0,fun φ _ w x' tx i _ _ _=>h φ w x' tx i⟩
theorem oq {e:TypeId}{t:Option TypeDesc}{x:Value}{xs:List Value}{n:Nat} (h:dB P e t A x=some (xs,n,A₁)):Cr P A A₁ e t x xs n:=by
 unfold dB at h;split at h
 ·rename_i b;split at h
  ·rename_i hsz;injection h with h;injection h with h1 h2;injection h2 with h2 h3;subst h1;subst h2;subst h3;refine sG (fun h0=>by have h1:b.data.size=0:=h0; have h2:b.data.toList=[]:=List.eq_nil_of_length_eq_zero (by rw [Array.length_toList]; exact h1); rw [h2]; rfl) fun φ w x' tx i hv ht hi _ _=>?_;cases hv;obtain⟨i',g1,g2,_⟩:=hH hsz;rw [hi] at g1;injection g1 with g1;subst g1;rw [g2];refine⟨byteCells b,?_,Src.ofString w ht b⟩;refine mP (p:=plain 50) (cy φ 50) _ ?_;rw [List.all_map,List.all_eq_true];intro c _;rfl
  ·cases h
 ·injection h with h;injection h with h1 h2;injection h2 with h2 h3;subst h1;subst h2;subst h3;rename_i c e';refine sG (fun _=>rfl) fun φ w x' tx i hv ht hi _ _=>?_;cases hv;exact⟨[],.nil,Src.ofNil w ht _⟩
 ·rename_i b off m c e';split at h
  ·rename_i es hsz;cases m with
   | zero=>
    have h':some (([]:List Value),0,A)=some (xs,n,A₁):=h;injection h' with h';injection h' with h1 h2;injection h2 with h2 h3;subst h1;subst h2;subst h3;refine sG (fun _=>rfl) fun φ w x' tx i hv ht hi _ _=>?_;cases hv with
    | slice _ _ _ _ cap' a' j hφ hl hc ha hr=>exact⟨[],.nil,Src.ofSlice w ht a' 0 cap' [] (by simp) (fun j u hu=>by cases hu) (fun u hu=>by cases hu)⟩
   | succ m=>
    have h':(ld A b off (Nat.mul (m + 1) es)).map (fun (xs,s)=>(xs,m + 1,s))=some (xs,n,A₁):=h;cases hld:ld A b off (Nat.mul (m + 1) es) with
    | none=>rw [hld] at h'; cases h'
    | some r=>
     obtain⟨ys,s1⟩:=r;rw [hld] at h';have h'':some (ys,m + 1,s1)=some (xs,n,A₁):=h';injection h'' with h'';injection h'' with h1 h2;injection h2 with h2 h3;subst h1;subst h2;subst h3;obtain⟨cells,e2,c2,st2,hb,hxs,hlen,hs1⟩:=kU hld;refine⟨fun hi=>v7 hi hld,by rw [hs1,aB],by rw [hs1,aB],by rw [hs1,aB],by rw [hs1,aB],by rw [hs1,aB],(fun h0=>by omega),fun φ T w x' tx i hi hr hT hv ht hin hl hone=>?_⟩;cases hv with
     | slice _ _ _ _ cap' a' j hφ hlc hc ha hroom=>
      obtain⟨xs',g1,g2,_⟩:=qd hi hld hr hT hφ;have ha':a'=⟨j.blk,j.sh + off,none⟩:=ha.resolve_left (by omega);subst ha';refine⟨xs',g1,Src.ofSlice w ht _ (m + 1) cap' xs' (by rw [← g1.length]; exact hl) g2 (pi g1 hone)⟩
  ·cases h
 ·cases h
theorem rf {w:World}{g o:Nat}{e:TypeId}{fz:Nat × Nat}{C:Array Value}{vs:List Value} (hg:w.heap[g]?=some (.cells C e fz)) (hfz:fz.2≤o) (hl:o + vs.length≤C.size) (h1:∀v∈vs,v.oneCell'=true) (P:Program) :
  (∀j,j < vs.length→(w.cell? ⟨g,o + j,none⟩).isSome=true)∧(∀j,j < vs.length→w.frozen? ⟨g,o + j,none⟩=false)∧w.setCells g o vs=w.setRow g (C.toList.take o ++ vs ++ C.toList.drop (o + vs.length)).toArray:=by
 have a1:∀j,j < vs.length→(w.cell? ⟨g,o + j,none⟩).isSome=true:=by
  intro j hj;simp only [World.cell?,hg];rw [Array.getElem?_eq_getElem (by omega)];rfl
 have a2:∀j,j < vs.length→w.frozen? ⟨g,o + j,none⟩=false:=by
  intro j hj;obtain⟨lo,hi⟩:=fz;simp only [World.frozen?,hg,Bool.and_eq_false_iff,decide_eq_false_iff_not];right;simp only at hfz;omega
 refine⟨a1,a2,?_⟩;have e1:=run_storeCells_cells (P:=P) g o vs 0 w (by simpa using a1) (by simpa using a2) h1;have e2:=run_storeCells_atF P g o e fz vs 0 C w hg (by omega) (by omega) h1;rw [e1] at e2;injection e2 with _ e2
theorem bG.drew {φ φ':cK}{T:Nat→Prop}{w w':World} (h:bG P φ T A A' w.drew w' φ'):bG P φ T A A' w w' φ':=
 ⟨h.ext,h.out,h.rel,h.img,h.size,h.same,h.os,h.tape,h.output⟩
theorem gz.drew {φ:cK}{T:Nat→Prop}{w:World} (h:gz P φ T A w):gz P φ T A w.drew:=h.heap rfl rfl rfl
theorem iN (z:Array Value) (n:Nat):(Builtin.zeroCells z n).size=n * z.size:=by simp [Builtin.zeroCells]
theorem bG.step {φ φ':cK}{T:Nat→Prop}{w w':World} (h1:A₁.heap=A.heap) (h2:A₁.fz=A.fz) (h3:A₁.next=A.next) (hr:gz P φ T A w) (hf:kW A₁ A') (h:bG P φ (fun c=>T c∨(A.next≤c∧c < A₁.next)) A₁ A' w w' φ'):bG P φ T A A' w w' φ':=
 bG.trans (by omega) hf (bG.refl hr h1 h2 h3 rfl rfl rfl rfl) h
theorem fU.left {T:Nat→Prop} (f:kW A₁ A') (h:fU A A' T):fU A A₁ T:=fun c hc hh=>h c hc (hh.imp (f.r c) (f.w c))
theorem uI:∀(l:List Nat) (B:AS),(kill B l).next=B.next:=by
 intro l
 induction l with
 | nil=>intro B; rfl
 | cons q l ih=>
  intro B;have:(kill B (q :: l))=kill (jm B q) l:=rfl;rw [this,ih];unfold jm;split
  ·rw [gq]
  ·rfl
theorem rZ {off len n es e cls st:Nat}{cells xs:List Value} (h:sE A off len n es e cls st cells xs=some (nx,A')):A'.next=A.next + 1:=by
 unfold sE at h;rw [bg,bp] at h;obtain⟨_,h⟩:=aC h;rw [bg] at h;have kn:=uI ((co A cls).filter (ek A (Nat.add (Nat.add st off) (Nat.mul len es)))) A;generalize kill A ((co A cls).filter (ek A (Nat.add (Nat.add st off) (Nat.mul len es))))=B at h kn;cases B;unfold my at h;simp only [bg,bX,bp,aB,dq] at h;injection h with h;injection h with _ h;rw [← h];show Nat.add _ 1=_;simp only at kn;rw [kn]
theorem wz (hi:bE A) (hn:A'.next≤A'.next) (x y:Operand) (t u:TypeId) (h:Ez P (P.underlying t) (P.underlying u) (f.eval x) (f.eval y) A=some (nx,A')) :
  bQ P f A ⟨d,.call ⟨.builtin .append,#[x,y],#[t,u]⟩,ty,pos,af,gd⟩ nx A':=by
 unfold Ez at h;split at h
 ·rename_i e v vy ht hx hy;split at h
  ·rename_i xs n A1 harg;have sp:=oq harg;have fr1:=sp.fr hi;have hi1:=fr1.inv;unfold gZ at h;split at h
   ·rename_i base len cap;split at h
    ·rename_i i hin;have hex:∀(a:Act) (w w':World) (v':Value),(Builtin.append_ #[t,u] ty #[a.eval x,a.eval y]).run P w=.ok v' w'→(execOp a.eval ⟨d,.call ⟨.builtin .append,#[x,y],#[t,u]⟩,ty,pos,af,gd⟩).run P w=.ok (.value v') w':=fun a w w' v' hh=>by
      refine bT ?_;show (Builtin.append_ #[t,u] ty (Array.map a.eval #[x,y])).run P w=_;rw [show Array.map a.eval #[x,y] = #[a.eval x,a.eval y] by simp];exact hh
     cases n with
     | zero=>
      have h':some (cu.val (.slice base len cap),A1)=some (nx,A'):=h;injection h' with h';injection h' with h1 h2;subst h1;subst h2;refine⟨fr1,fun φ T w a hf hr hT hfr=>?_⟩;refine⟨φ,w,bG.refl hr sp.heap sp.fz sp.next rfl rfl rfl rfl,?_⟩;have hv:=hf.eval hx;have hxs:=sp.nil rfl;subst hxs;obtain⟨xs',g1,g2⟩:=sp.src φ T w _ u i hi hr hT (hf.eval hy) rfl hin (by simp) rfl;cases g1;generalize hq:a.eval x=q at hv;have hrun:∃base' cap',q=.slice base' len cap'∧len≤cap':=by
       cases hv with
       | nilSlice=>exact⟨_,_,rfl,Nat.le_refl _⟩
       | slice _ _ _ _ cap' a' j hφ hl hc=>exact⟨_,_,rfl,by omega⟩
       | sliceX=>exact⟨_,_,rfl,Nat.le_refl _⟩
      obtain⟨base',cap',rfl,hle⟩:=hrun;rw [hex a w w (.slice base' len cap') (by rw [hq]; exact run_append_nothing w t u ty e i ht hin base' len cap' hle _ g2)];exact .val _ _ hv
     | succ n0=>
      have h':(Bool.rec none (oY e A1 base len (n0 + 1) i.size xs) (uT i i.size len (n0 + 1) xs):eI)=some (nx,A'):=h;obtain⟨hok,h1⟩:=aC h';unfold uT at hok;split at hok
      ·rename_i z hz;simp only [Bool.and_eq_true] at hok;obtain⟨o1,o2,o3,o4,o5,o6⟩:=hok;have hxl:xs.length=(n0 + 1) * i.size:=Nat.eq_of_beq_eq_true o2;have hby:(len + (n0 + 1)) * i.bytes≤140737488355328:=Nat.le_of_ble_eq_true o3;have hzs:z.cells.size=i.size:=Nat.eq_of_beq_eq_true o4;have hbig:len + (n0 + 1)≤1073741824:=Nat.le_of_ble_eq_true o5;have hes:P.cellsOf e=i.size:=by simp [Program.cellsOf,hin]
       unfold oY at h1;split at h1
       ·
        obtain⟨hl0,h2⟩:=aC h1;have hl0':len=0:=Nat.eq_of_beq_eq_true hl0;subst hl0';injection h2 with h2;injection h2 with h3 h4;subst h3;subst h4;rw [aY] at hn;have fr2:=gC hi1 hn xs e;refine⟨fr1.trans fr2,fun φ T w a hf hr hT hfr=>?_⟩;have hT1:=hT.left fr2;obtain⟨xs',g1,g2⟩:=sp.src φ T w _ u i hi hr hT1 (hf.eval hy) rfl hin hxl o6;have hv:=hf.eval hx;generalize hq:a.eval x=q at hv;cases hv;have hlen:=g1.length;have hrun:=run_append_grow_src w t u ty e i z ht hin hz none 0 0 [] rfl (a.eval y) (n0 + 1) xs' g2 (by omega) (by omega) (growslice_fits (by omega) hby);have hcap:=grownCap_ge w (0 + (n0 + 1)) 0 e;have hr1:gz P φ (fun c=>T c∨(A.next≤c∧c < A1.next)) A1 w.drew:=(gz.drew (hr.heap (w':=w) sp.heap sp.fz rfl)).sub fun c hc=>hc.elim id fun hc=>by have:=sp.next; omega
        have hCs:(([] ++ xs').toArray ++ Builtin.zeroCells z.cells (grownCap w (0 + (n0 + 1)) 0 e - (0 + (n0 + 1)))).size=grownCap w (0 + (n0 + 1)) 0 e * i.size:=by
         rw [Array.size_append,iN,hzs,List.size_toArray,List.nil_append,← hlen,hxl,← Nat.add_mul];congr 1;omega
        obtain⟨φ',p1,p2⟩:=bG.new hi1 hn hr1 (hfr _ (by rw [sp.next]; exact Nat.le_refl _) (by rw [aY]; omega)) (fun b=>.row xs e b 0 true) rfl (.cells (([] ++ xs').toArray ++ Builtin.zeroCells z.cells (grownCap w (0 + (n0 + 1)) 0 e - (0 + (n0 + 1)))) e) 0 (grownCap w (0 + (n0 + 1)) 0 e * i.size) i.size 0 rfl (fun φ' he _=>by
         refine .row _ _ _ _ _ (0,0) rfl rfl hes.symm (by rw [hCs,Nat.zero_add]) (by rw [hCs,hxl,Nat.zero_add]; exact Nat.mul_le_mul_right _ (by omega)) ?_ (.inl rfl) _ (.inl ⟨rfl,Nat.dvd_zero _⟩);have:((([] ++ xs').toArray ++ Builtin.zeroCells z.cells (grownCap w (0 + (n0 + 1)) 0 e - (0 + (n0 + 1)))).toList.drop 0).take xs.length=xs':=by
          rw [List.drop_zero,Array.toList_append,List.toList_toArray,List.nil_append,hlen,List.take_left'];rfl
         rw [this];exact g1.mono he)
        rw [← dk] at p2;refine⟨φ',_,bG.step sp.heap sp.fz sp.next hr fr2 p2.drew,?_⟩;rw [hex a w _ _ (by rw [hq]; exact hrun)];have e0 : 0 + (n0 + 1)=n0 + 1:=by omega
        rw [show Value.slice (some ⟨w.heap.size,0,none⟩) (0 + (n0 + 1)) (grownCap w (0 + (n0 + 1)) 0 e)=Value.slice (some ⟨w.heap.size,0,none⟩) (n0 + 1) (grownCap w (0 + (n0 + 1)) 0 e) from by rw [e0]];exact .val _ _ (.slice A1.next 0 (n0 + 1) (n0 + 1) _ ⟨w.heap.size,0,none⟩ _ p1 (Nat.le_refl _) (by omega) (.inr rfl) (by show 0 + _ * i.size≤_ * i.size; rw [Nat.zero_add]; exact Nat.le_refl _))
       ·rename_i b off;split at h1
        ·rename_i cells e' cls st hb;obtain⟨he,h2⟩:=aC h1;have he':e'=e:=Nat.eq_of_beq_eq_true he;subst he';have hn1:A1.next + 1≤A1.next + 1:=by rw [← rZ h2]; exact hn
         obtain⟨rfl,K,as⟩:=xk hi1 hn1 hb h2;have fr2:=as.wr.fr hi1;refine⟨fr1.trans fr2,fun φ T w a hf hr hT hfr=>?_⟩;have hT1:=hT.left fr2;obtain⟨xs',g1,g2⟩:=sp.src φ T w _ u i hi hr hT1 (hf.eval hy) rfl hin hxl o6;have hlen:=g1.length;have hr1:gz P φ (fun c=>T c∨(A.next≤c∧c < A1.next)) A1 w:=(hr.heap (w':=w) sp.heap sp.fz rfl).sub fun c hc=>hc.elim id fun hc=>by have:=sp.next; omega
         have hTc:T cls:=hT cls (by have:=(hi1.lt _ _ hb).2; rw [sp.next] at this; exact this) (.inr (by rw [as.wr.w,cg]; simp));have hfresh:φ A1.next=none:=hfr _ (by rw [sp.next]; exact Nat.le_refl _) (by rw [rZ h2]; omega);have hv:=hf.eval hx;generalize hq:a.eval x=q at hv;cases hv with
         | slice _ _ _ _ cap' a' j hφ hl hc ha hroom0=>
          have hjes:j.es=i.size:=by
           obtain⟨jj,_,_,_,e1,_,_,_,e5,_⟩:=hr1.cells hb (.inl hTc);obtain rfl:jj=j:=by rw [hφ] at e1; injection e1 with e1; exact e1.symm
           rw [e5,hes]
          by_cases hroom:len + (n0 + 1)≤cap'
          ·have ha':a'=⟨j.blk,j.sh + off,none⟩:=ha.resolve_left (by omega);subst ha';obtain⟨C,fz,_,q1,q2,q3,q4⟩:=bG.room hi1 as hb hr1 (.inl hTc) hfresh g1 hxl hφ hroom hjes hroom0;obtain⟨s1,s2,s3⟩:=rf q1 q2 q3 (pi g1 o6) P;have hrun:=run_append_room_src w t u ty e' i ht hin j.blk (j.sh + off) len cap' (a.eval y) (n0 + 1) xs' g2 hroom s1 s2;rw [s3] at hrun;refine⟨_,_,bG.step sp.heap sp.fz sp.next hr fr2 q4,?_⟩;rw [hex a w _ _ (by rw [hq]; exact hrun)];exact .val _ _ (.slice A1.next 0 _ _ cap' ⟨j.blk,j.sh + off,none⟩ _ (if_pos rfl) (Nat.le_refl _) hroom (.inr rfl) (by show 0 + cap' * j.es≤j.sz - off; omega))
          ·obtain⟨j',C,fz,_,e1,e2,e3,e4,e5,e6,e7,e8,e9,e10⟩:=hr1.cells hb (.inl hTc);obtain rfl:j'=j:=by rw [hφ] at e1; injection e1 with e1; exact e1.symm
           have hold:=as.old;have hol:=((e8.drop off).take (len * i.size)).length;rw [hold] at hol;have hcell:∀(k:Nat) (v:Value),((((C.toList.drop j'.sh).take cells.length).drop off).take (len * i.size))[k]?=some v→w.drew.cell? (a'.add k)=some v:=by
            intro k v hk;have hkl:k < len * i.size:=by
             rw [List.getElem?_take] at hk;split at hk
             ·assumption
             ·cases hk
            have hl0 : 0 < len:=by
             rcases Nat.eq_zero_or_pos len with h0 | h0
             ·rw [h0,Nat.zero_mul] at hkl; omega
             ·exact h0
            have ha':a'=⟨j'.blk,j'.sh + off,none⟩:=ha.resolve_left (by omega);rw [ha',eB];rw [List.getElem?_take,if_pos hkl,List.getElem?_drop,List.getElem?_take,List.getElem?_drop] at hk;split at hk
            ·simp only [World.cell?,World.drew,e2];rw [Array.getElem?_toList] at hk;rw [← hk];simp [Nat.add_assoc]
            ·cases hk
           have hfirst:=run_firstCells_some (P:=P) w.drew i.size len a' len cap' _ hol.symm hcell;have hrun:=run_append_grow_src w t u ty e' i z ht hin hz (some a') len cap' _ hfirst (a.eval y) (n0 + 1) xs' g2 (by omega) (by omega) (growslice_fits (by omega) hby);have hcap:=grownCap_ge w (len + (n0 + 1)) cap' e';generalize hO:(((C.toList.drop j'.sh).take cells.length).drop off).take (len * i.size)=O at hrun hol hfirst hcell;have hOv:b8 φ ((cells.drop off).take (len * i.size)) O:=by rw [← hO]; exact (e8.drop off).take _
           have hCs:((O ++ xs').toArray ++ Builtin.zeroCells z.cells (grownCap w (len + (n0 + 1)) cap' e' - (len + (n0 + 1)))).size=grownCap w (len + (n0 + 1)) cap' e' * i.size:=by
            rw [Array.size_append,iN,hzs,List.size_toArray,List.length_append,← hol,← hlen,hxl,← Nat.add_mul,← Nat.add_mul];congr 1;omega
           have hall:((cells.drop off).take (len * i.size) ++ xs).length=(O ++ xs').length:=by rw [List.length_append,List.length_append,hold,hol,hlen]
           have p2:=bG.grow hi1 as hb hr1.drew hfresh ((O ++ xs').toArray ++ Builtin.zeroCells z.cells (grownCap w (len + (n0 + 1)) cap' e' - (len + (n0 + 1)))) hes (by
            rw [hall,Array.toList_append,List.toList_toArray,List.take_left']
            ·exact b8.append hOv g1
            ·rfl) (by rw [hall,hCs,List.length_append,← hol,← hlen,hxl,← Nat.add_mul]; exact Nat.mul_le_mul_right _ hcap)
           refine⟨_,_,bG.step sp.heap sp.fz sp.next hr fr2 p2.drew,?_⟩;rw [hex a w _ _ (by rw [hq]; exact hrun)];exact .val _ _ (.slice A1.next 0 _ _ _ ⟨w.heap.size,0,none⟩ _ (if_pos rfl) (Nat.le_refl _) hcap (.inr rfl) (by show 0 + _ * i.size≤_; rw [Nat.zero_add,hCs]; exact Nat.le_refl _))
        ·cases h1
       ·rename_i b off;split at h1
        ·rename_i cells e' cls st hb;unfold Jr at h1;rw [bg] at h1;obtain⟨hol0,h2⟩:=aC h1;have hold:((cells.drop off).take (len * i.size)).length=len * i.size:=Nat.eq_of_beq_eq_true hol0;injection h2 with h2;injection h2 with h3 h4;subst h3;subst h4;have hcn:cls < A1.next:=(hi1.lt _ _ hb).2;have frL:=fd hi1 hcn;have hiL:=frL.inv;have hnL:(bO A1 cls).next=A1.next:=by rw [aB]
         have frN:=gC hiL (Nat.le_refl _) ((cells.drop off).take (len * i.size) ++ xs) e;have fr2:=frL.trans frN;refine⟨fr1.trans fr2,fun φ T w a hf hr hT hfr=>?_⟩;have hT1:=hT.left fr2;obtain⟨xs',g1,g2⟩:=sp.src φ T w _ u i hi hr hT1 (hf.eval hy) rfl hin hxl o6;have hlen:=g1.length;have hr1:gz P φ (fun c=>T c∨(A.next≤c∧c < A1.next)) A1 w:=(hr.heap (w':=w) sp.heap sp.fz rfl).sub fun c hc=>hc.elim id fun hc=>by have:=sp.next; omega
         have hTc:T cls:=hT cls (by rw [sp.next] at hcn; exact hcn) (.inl (frN.r cls (by rw [aB,cg]; simp)));have hfresh:φ A1.next=none:=hfr _ (by rw [sp.next]; exact Nat.le_refl _) (by rw [aY,hnL]; omega);have hv:=hf.eval hx;generalize hq:a.eval x=q at hv;cases hv with
         | sliceX _ _ _ a' j hφ ha=>
          obtain⟨j',C,fz,_,e1,e2,e3,e4,e5,e6,e7,e8,e9,e10⟩:=hr1.cells hb (.inl hTc);obtain rfl:j'=j:=by rw [hφ] at e1; injection e1 with e1; exact e1.symm
          have hol:=((e8.drop off).take (len * i.size)).length;rw [hold] at hol;have hcell:∀(k:Nat) (v:Value),((((C.toList.drop j'.sh).take cells.length).drop off).take (len * i.size))[k]?=some v→w.drew.cell? (a'.add k)=some v:=by
           intro k v hk;have hkl:k < len * i.size:=by
            rw [List.getElem?_take] at hk;split at hk
            ·assumption
            ·cases hk
           have hl0:len≠0:=by
            intro h0;rw [h0,Nat.zero_mul] at hkl;omega
           have ha':a'=⟨j'.blk,j'.sh + off,none⟩:=ha.resolve_left hl0;rw [ha',eB];rw [List.getElem?_take,if_pos hkl,List.getElem?_drop,List.getElem?_take,List.getElem?_drop] at hk;split at hk
           ·simp only [World.cell?,World.drew,e2];rw [Array.getElem?_toList] at hk;rw [← hk];simp [Nat.add_assoc]
           ·cases hk
          have hfirst:=run_firstCells_some (P:=P) w.drew i.size len a' len len _ hol.symm hcell;have hrun:=run_append_grow_src w t u ty e i z ht hin hz (some a') len len _ hfirst (a.eval y) (n0 + 1) xs' g2 (by omega) (by omega) (growslice_fits (by omega) hby);have hcap:=grownCap_ge w (len + (n0 + 1)) len e;generalize hO:(((C.toList.drop j'.sh).take cells.length).drop off).take (len * i.size)=O at hrun hol hfirst hcell;have hOv:b8 φ ((cells.drop off).take (len * i.size)) O:=by rw [← hO]; exact (e8.drop off).take _
          have hCs:((O ++ xs').toArray ++ Builtin.zeroCells z.cells (grownCap w (len + (n0 + 1)) len e - (len + (n0 + 1)))).size=grownCap w (len + (n0 + 1)) len e * i.size:=by
           rw [Array.size_append,iN,hzs,List.size_toArray,List.length_append,← hol,← hlen,hxl,← Nat.add_mul,← Nat.add_mul];congr 1;omega
          have hall:((cells.drop off).take (len * i.size) ++ xs).length=(O ++ xs').length:=by rw [List.length_append,List.length_append,hold,hol,hlen]
          have hrL:gz P φ (fun c=>(T c∨(A.next≤c∧c < A1.next))∨(A1.next≤c∧c < (bO A1 cls).next)) (bO A1 cls) w.drew:=(gz.drew (hr1.heap (w':=w) (by rw [aB]) (by rw [aB]) rfl)).sub fun c hc=>hc.elim id fun hc=>by rw [hnL] at hc; omega
          obtain⟨φ',p1,p2⟩:=bG.new hiL (Nat.le_refl _) hrL (by rw [hnL]; exact hfresh) (fun b=>.row ((cells.drop off).take (len * i.size) ++ xs) e b 0 true) rfl (.cells ((O ++ xs').toArray ++ Builtin.zeroCells z.cells (grownCap w (len + (n0 + 1)) len e - (len + (n0 + 1)))) e) 0 (grownCap w (len + (n0 + 1)) len e * i.size) i.size 0 rfl (fun φ' he _=>by
           refine .row _ _ _ _ _ (0,0) rfl rfl hes.symm (by rw [hCs,Nat.zero_add]) ?_ ?_ (.inl rfl) _ (.inl ⟨rfl,Nat.dvd_zero _⟩)
           ·rw [hall,hCs,Nat.zero_add,List.length_append,← hol,← hlen,hxl,← Nat.add_mul];exact Nat.mul_le_mul_right _ hcap
           ·have:(((O ++ xs').toArray ++ Builtin.zeroCells z.cells (grownCap w (len + (n0 + 1)) len e - (len + (n0 + 1)))).toList.drop 0).take ((cells.drop off).take (len * i.size) ++ xs).length=O ++ xs':=by
             rw [hall,List.drop_zero,Array.toList_append,List.toList_toArray,List.take_left'];rfl
            rw [this];exact (b8.append hOv g1).mono he)
          rw [← dk] at p2;have p3:bG P φ (fun c=>T c∨(A.next≤c∧c < A1.next)) A1 (newRow (bO A1 cls) ((cells.drop off).take (len * i.size) ++ xs) e) w (w.drew.alloc (.cells ((O ++ xs').toArray ++ Builtin.zeroCells z.cells (grownCap w (len + (n0 + 1)) len e - (len + (n0 + 1)))) e)) φ':=by
           refine bG.step (A₁:=bO A1 cls) (by rw [aB]) (by rw [aB]) hnL hr1 frN ?_;exact p2.drew
          refine⟨φ',_,bG.step sp.heap sp.fz sp.next hr fr2 p3,?_⟩;rw [hex a w _ _ (by rw [hq]; exact hrun)];rw [hnL] at p1;exact .val _ _ (.slice A1.next 0 _ _ _ ⟨w.heap.size,0,none⟩ _ p1 (Nat.le_refl _) hcap (.inr rfl) (by show 0 + _ * i.size≤_ * i.size; rw [Nat.zero_add]; exact Nat.le_refl _))
        ·cases h1
       ·cases h1
      ·cases hok
    ·cases h
   ·cases h
  ·cases h
 ·cases h
theorem BF (hi:bE A) (hn:A'.next≤A'.next) (x y:Operand) (t u:TypeId) (h:qH P (P.underlying t) (P.underlying u) (f.eval x) (f.eval y) A=some (nx,A')) :
  bQ P f A ⟨d,.call ⟨.builtin .copy,#[x,y],#[t,u]⟩,ty,pos,af,gd⟩ nx A':=by
 unfold qH at h;split at h
 ·rename_i e base len cap vy ht hx hy;split at h
  ·rename_i xs m A1 i harg hin;obtain⟨hok,h1⟩:=aC h;simp only [Bool.and_eq_true] at hok;obtain⟨o1,o2,o3⟩:=hok;have hml:m≤len:=Nat.le_of_ble_eq_true o1;have hxl:xs.length=m * i.size:=Nat.eq_of_beq_eq_true o2;have sp:=oq harg;have fr1:=sp.fr hi;have hi1:=fr1.inv;have hsz:(P.info? e).map (·.size)=some i.size:=by rw [hin]; rfl
   have hex:∀(a:Act) (w w':World) (v':Value),(Builtin.copy_ #[t,u] ty #[a.eval x,a.eval y]).run P w=.ok v' w'→(execOp a.eval ⟨d,.call ⟨.builtin .copy,#[x,y],#[t,u]⟩,ty,pos,af,gd⟩).run P w=.ok (.value v') w':=fun a w w' v' hh=>by
    refine bT ?_;show (Builtin.copy_ #[t,u] ty (Array.map a.eval #[x,y])).run P w=_;rw [show Array.map a.eval #[x,y] = #[a.eval x,a.eval y] by simp];exact hh
   cases m with
   | zero=>
    have h':some (cu.val (.int .i64 (.ofNat 0)),A1)=some (nx,A'):=h1;injection h' with h';injection h' with h1 h2;subst h1;subst h2;refine⟨fr1,fun φ T w a hf hr hT hfr=>?_⟩;refine⟨φ,w,bG.refl hr sp.heap sp.fz sp.next rfl rfl rfl rfl,?_⟩;have hv:=hf.eval hx;have hxs:=sp.nil rfl;subst hxs;obtain⟨xs',g1,g2⟩:=sp.src φ T w _ u i hi hr hT (hf.eval hy) rfl hin (by simp) rfl;cases g1;generalize hq:a.eval x=q at hv;have hrun:∃base' cap',q=.slice base' len cap':=by
     cases hv with
     | nilSlice=>exact⟨_,_,rfl⟩
     | slice=>exact⟨_,_,rfl⟩
     | sliceX=>exact⟨_,_,rfl⟩
    obtain⟨base',cap',rfl⟩:=hrun;have hrun:(Builtin.copy_ #[t,u] ty #[.slice base' len cap',a.eval y]).run P w=.ok (goInt 0) w:=by
     have h0:=g2.cells;cases base'<;>simp [Builtin.copy_,run_underlying ht,g2.len,sizeOf,typeInfo,hin,h0,storeCells,goInt]
    rw [hex a w w _ (by rw [hq]; exact hrun)];exact .val _ _ (.int ..)
   | succ m0=>
    have h':(match (generalizing:=false) base with
     | some ⟨b,off,none⟩=>match Ea A1 b off xs with
      | some s=>some (cu.val (.int .i64 (.ofNat (Nat.add m0 1))),s)
      | none=>none
     | _=>none)=some (nx,A'):=h1
    split at h'
    ·rename_i b off;split at h'
     ·rename_i s1 hs1;injection h' with h';injection h' with h2 h3;subst h2;subst h3;obtain⟨cells,e',cls,st,K,ss⟩:=tH hi1 (Nat.le_refl _) hs1;have fr2:=ss.wr.fr hi1;refine⟨fr1.trans fr2,fun φ T w a hf hr hT hfr=>?_⟩;have hT1:=hT.left fr2;obtain⟨xs',g1,g2⟩:=sp.src φ T w _ u i hi hr hT1 (hf.eval hy) rfl hin hxl o3;have hr1:gz P φ (fun c=>T c∨(A.next≤c∧c < A1.next)) A1 w:=(hr.heap (w':=w) sp.heap sp.fz rfl).sub fun c hc=>hc.elim id fun hc=>by have:=sp.next; omega
      have hTc:T cls:=hT cls (by have:=(hi1.lt _ _ ss.row).2; rw [sp.next] at this; exact this) (.inr (by rw [ss.wr.w,cg]; simp));have hv:=hf.eval hx;generalize hq:a.eval x=q at hv;cases hv with
      | slice _ _ _ _ cap' a' j hφ hl hc ha hroom0=>
       have ha':a'=⟨j.blk,j.sh + off,none⟩:=ha.resolve_left (by omega);subst ha';obtain⟨C,fz,e2,k1,k2,k3,k4⟩:=bG.store hi1 ss hr1 (.inl hTc) g1 hφ;refine⟨φ,_,bG.step sp.heap sp.fz sp.next hr fr2 k4,?_⟩;have hst:=run_storeCells_atF P j.blk (j.sh + off) e2 fz xs' 0 C w k1 (by omega) (by omega) (pi g1 ss.one);have h0:=g2.cells;have hmin:Nat.min (m0 + 1) len=m0 + 1:=Nat.min_eq_left hml;have hrun:(Builtin.copy_ #[t,u] ty #[.slice (some ⟨j.blk,j.sh + off,none⟩) len cap',a.eval y]).run P w=.ok (goInt (m0 + 1:Nat)) (w.setRow j.blk (C.toList.take (j.sh + off) ++ xs' ++ C.toList.drop (j.sh + off + xs'.length)).toArray):=by
        simp only [Nat.add_zero] at hst;simp [Builtin.copy_,run_underlying ht,g2.len,sizeOf,typeInfo,hin,hmin,h0,hst]
       rw [hex a w _ _ (by rw [hq]; exact hrun)];exact .val _ _ (.int ..)
     ·cases h'
    ·cases h'
  ·cases h
 ·cases h
end
def gQ (P:Program) (ops:Array Oper) (Q:Exit→Act→World→Prop) (o:Oper) (K:Act→World→Prop) (a:Act) (w:World):Prop:=
 if Region.wanted o (yielded ops a.tmps)=true then o.wp P a w K Q else K (a.put o.dst undef) w
def be (P:Program):Prop:=∀(f:Fr) (o:Oper) (A:AS) (nx:cu) (A':AS),bE A→A'.next≤A'.next→aU P f o A=some (nx,A')→bQ P f A o nx A'
inductive jG (φ:cK):fR→Ending→Prop
 | ret (v v':Value) (h:dE φ v v'):jG φ (.ret v) (.returned v')
 | panic (v v':Value) (h:dE φ v v'):jG φ (.panic v) (.panicked [{ v:=v',recovered:=false }])
structure cQ (P:Program) (g:FuncId) (args:Array Value) (A:AS) (r:fR) (A':AS):Prop where
 fr:kW A A'
 run:∀(φ:cK) (T:Nat→Prop) (w:World) (args':Array Value),b8 φ args.toList args'.toList→gz P φ T A w→fU A A' T→fu A A' φ→
  Calls P g args' w fun e w'=>∃φ',bG P φ T A A' w w' φ'∧jG φ' r e
def gB (P:Program) (call:cV):Prop:=∀(g:FuncId) (args:Array Value) (A:AS) (r:fR) (A':AS),bE A→A'.next≤A'.next→call g args A=some (r,A')→cQ P g args A r A'
def cM (call:cV):Prop:=∀(g:FuncId) (args:Array Value) (A:AS) (r:fR) (A':AS),call g args A=some (r,A')→A.next≤A'.next
theorem vX {f f':Fr}{d:Option Tmp}{v:Value} (h:f.put d v=some f'):(d=none∧f'=f)∨∃t,d=some t∧t < f.n∧f'=⟨Tr.set v 40 f.tmps t,f.n,f.defers⟩:=by
 cases d with
 | none=>have h':some f=some f':=h; injection h' with h'; exact .inl ⟨rfl,h'.symm⟩
 | some t=>
  obtain⟨tm,n,ds⟩:=f;have h':(Bool.rec none (cG (Tr.set v 40 tm t) fun t=>some (⟨t,n,ds⟩ : Fr)) (Nat.ble (Nat.succ t) n):Option Fr)=some f':=h;obtain⟨h1,h2⟩:=aC h';rw [bX] at h2;injection h2 with h2;exact .inr ⟨t,rfl,Nat.le_of_ble_eq_true h1,h2.symm⟩
theorem dm.put {φ:cK}{f f':Fr}{a:Act}{d:Option Tmp}{v v':Value} (hf:dm φ f a) (h:f.put d v=some f') (hv:dE φ v v'):dm φ f' (a.put d v'):=by
 rcases vX h with ⟨rfl,rfl⟩ | ⟨t,rfl,ht,rfl⟩
 ·exact hf
 ·have hfit:ir t:=trivial;refine⟨by simp [Act.put,hf.size],hf.few,fun x=>?_,hf.defers⟩;show dE φ (((Tr.set v 40 f.tmps t).get x).getD undef) ((a.tmps.setIfInBounds t v').getD x undef);rw [Tr.get_set _ _ _ _ hfit];have hsz:=hf.size;by_cases hx:x=t
  ·subst hx;rw [if_pos rfl];rw [show (a.tmps.setIfInBounds x v').getD x undef=v' by simp [Array.getD_eq_getD_getElem?,hsz,ht]];exact hv
  ·rw [if_neg hx];rw [show (a.tmps.setIfInBounds t v').getD x undef=a.tmps.getD x undef by
    simp only [Array.getD_eq_getD_getElem?,Array.getElem?_setIfInBounds];rw [if_neg (fun e=>hx e.symm)]]
   exact hf.tmps x
theorem dJ {φ:cK}{f:Fr}{a:Act} (hf:dm φ f a) {ops:Array Oper}{o:Oper}{b:Bool} (h:fV ops.toList f o.guard=some b):Region.wanted o (yielded ops a.tmps)=b:=by
 unfold Region.wanted;cases hg:o.guard with
 | none=>rw [hg] at h; have h':some true=some b:=h; cases h'; rfl
 | some p=>
  obtain⟨j,want⟩:=p;rw [hg] at h;have h':t7 ops.toList f j want=some b:=h;unfold t7 at h';split at h'
  ·rename_i dd hd;have hd':(ops[j]?).bind (·.dst)=some dd:=by simpa using hd
   have ht:=hf.tmps dd;unfold CU at h';split at h'
   ·rename_i bb hb;injection h' with h';rw [hb] at ht;generalize hq:a.tmps.getD dd undef=q at ht;cases ht;have hy:yielded ops a.tmps j=some bb:=by
     unfold yielded;rw [hd'];have:a.tmps[dd]?=some (.bool bb):=by
      rw [Array.getD_eq_getD_getElem?] at hq;cases hz:a.tmps[dd]? with
      | none=>rw [hz] at hq; cases hq
      | some z=>rw [hz] at hq; exact congrArg some hq
     rw [Option.bind_some,this]
    simp only [hy];rw [← h'];cases bb<;>cases want<;>rfl
   ·rename_i vs hb;injection h' with h';rw [hb] at ht;generalize hq:a.tmps.getD dd undef=q at ht;cases ht with
    | tuple _ vs' hvs=>
     have hy:yielded ops a.tmps j=none:=by
      unfold yielded;rw [hd',Option.bind_some];cases hz:a.tmps[dd]? with
      | none=>rfl
      | some z=>
       have:z=.tuple vs':=by rw [Array.getD_eq_getD_getElem?,hz] at hq; exact hq
       rw [this]
     simp only [hy];rw [← h'];cases want<;>rfl
   ·cases h'
  ·cases h'
section
variable {P:Program}{call:cV}{ops:Array Oper}{f f':Fr}{o:Oper}{A A':AS}
structure jJ (P:Program) (ops:Array Oper) (o:Oper) (f:Fr) (A:AS) (f':Fr) (A':AS):Prop where
 fr:kW A A'
 run:∀(φ:cK) (T:Nat→Prop) (w:World) (a:Act),dm φ f a→gz P φ T A w→fU A A' T→fu A A' φ→∀(K:Act→World→Prop) (Q:Exit→Act→World→Prop),
  (∀φ' w' a',bG P φ T A A' w w' φ'→dm φ' f' a'→K a' w')→gQ P ops Q o K a w
structure vO (P:Program) (ops:Array Oper) (o:Oper) (f:Fr) (A:AS) (v:Value) (A':AS):Prop where
 fr:kW A A'
 run:∀(φ:cK) (T:Nat→Prop) (w:World) (a:Act),dm φ f a→gz P φ T A w→fU A A' T→fu A A' φ→∀(K:Act→World→Prop) (Q:Exit→Act→World→Prop),
  (∀φ' w' v',bG P φ T A A' w w' φ'→dE φ' v v'→Q (.panic [{ v:=v',recovered:=false }]) a w')→gQ P ops Q o K a w
theorem iF {x:Option Fr}{s:AS} (h:jB x s=.on f' A'):x=some f'∧s=A':=by
 cases x with
 | none=>cases h
 | some y=>have h':St.on y s=.on f' A':=h; injection h' with h1 h2; exact⟨congrArg some h1,h2⟩
theorem kZ (hO:be P) (hC:gB P call) (hM:cM call) (hi:bE A) (hn:A'.next≤A'.next) (h:fp P call ops.toList f o A=.on f' A'):jJ P ops o f A f' A':=by
 unfold fp at h;split at h
 ·rename_i hw;cases hev:aU P f o A with
  | none=>rw [hev] at h; cases h
  | some r=>
   obtain⟨nx,B⟩:=r;rw [hev] at h;unfold rx at h;split at h
   ·cases h
   ·rename_i v s e;injection e with e;injection e with e1 e2;subst e1;subst e2;obtain⟨h1,rfl⟩:=iF h;have hs:=hO f o A _ _ hi hn hev;refine⟨hs.fr,fun φ T w a hf hr hT hfr K Q hK=>?_⟩;unfold gQ;rw [dJ hf hw,if_pos rfl];obtain⟨φ',w',hp,hnr⟩:=hs.run φ T w a hf hr hT hfr;unfold Oper.wp;generalize hres:(execOp a.eval o).run P w=res at hnr;cases hnr with
    | val _ v' hv=>exact hK φ' w' _ hp ((hf.mono hp.ext).put h1 hv)
    | skip=>exact hK φ' w' _ hp ((hf.mono hp.ext).put h1 (fM _))
   ·rename_i g args s e;injection e with e;injection e with e1 e2;subst e1;subst e2;unfold jP at h;split at h
    ·cases h
    ·rename_i v s2 hc;obtain⟨h1,rfl⟩:=iF h;have hs:=hO f o A _ _ hi (Nat.le_refl _) hev;have hcs:=hC _ _ _ _ _ hs.fr.inv hn hc;refine⟨hs.fr.trans hcs.fr,fun φ T w a hf hr hT hfr K Q hK=>?_⟩;unfold gQ;rw [dJ hf hw,if_pos rfl];obtain⟨φ',w',hp,hnr⟩:=hs.run φ T w a hf hr (hT.left hcs.fr) (fun b h1 h2=>hfr b h1 (Nat.lt_of_lt_of_le h2 hcs.fr.next));unfold Oper.wp;generalize hres:(execOp a.eval o).run P w=res at hnr;cases hnr with
     | enter _ _ args' hargs=>
      refine (hcs.run φ' _ w' args' hargs hp.rel ?_ ?_).mono ?_
      ·intro c hc' hh;by_cases hlt:c < A.next
       ·exact .inl (hT c hlt hh)
       ·exact .inr ⟨by omega,hc'⟩
      ·intro b h3 h4;rw [hp.out b (.inr h3)];exact hfr b (Nat.le_trans hs.fr.next h3) h4
      ·rintro e2 w2 ⟨φ2,hp2,he2⟩;cases he2 with
       | ret _ v' hv=>exact hK φ2 w2 _ (hp.trans hs.fr.next hcs.fr hp2) (((hf.mono hp.ext).mono hp2.ext).put h1 hv)
    ·cases h
   ·rename_i dd s e;injection e with e;injection e with e1 e2;subst e1;subst e2;obtain⟨h1,rfl⟩:=iF h;have hs:=hO f o A _ _ hi hn hev;refine⟨hs.fr,fun φ T w a hf hr hT hfr K Q hK=>?_⟩;unfold gQ;rw [dJ hf hw,if_pos rfl];obtain⟨φ',w',hp,hnr⟩:=hs.run φ T w a hf hr hT hfr;unfold Oper.wp;generalize hres:(execOp a.eval o).run P w=res at hnr;cases hnr with
    | dfr _ d' hd=>
     rw [Option.map_eq_some_iff] at h1;obtain⟨f1,h2,rfl⟩:=h1;have hf1:=(hf.mono hp.ext).put h2 (fM φ');refine hK φ' w' _ hp ⟨?_,hf1.few,?_,?_⟩
     ·have:=hf1.size;cases hd2:o.dst<;>simp [Act.put,hd2] at this ⊢<;>exact this
     ·intro t;have:=hf1.tmps t;cases hd2:o.dst<;>simp only [Act.put,hd2] at this ⊢<;>exact this
     ·have hdf:=hf1.defers;cases hd2:o.dst<;>simp only [Act.put,hd2] at hdf ⊢<;>exact .cons _ _ _ _ hd hdf
   ·cases h
   ·cases h
 ·rename_i hw;obtain⟨h1,rfl⟩:=iF h;refine⟨.refl hi,fun φ T w a hf hr hT hfr K Q hK=>?_⟩;unfold gQ;rw [dJ hf hw];exact hK φ w _ (.refl hr rfl rfl rfl rfl rfl rfl rfl) (hf.put h1 (fM _))
 ·cases h
theorem LA (hO:be P) (hC:gB P call) (hM:cM call) {v:Value} (hi:bE A) (hn:A'.next≤A'.next) (h:fp P call ops.toList f o A=.up v f' A'):f'=f∧vO P ops o f A v A':=by
 have hno:∀(x:Option Fr) (s:AS),jB x s≠.up v f' A':=by
  intro x s hh;cases x<;>cases hh
 unfold fp at h;split at h
 ·rename_i hw;cases hev:aU P f o A with
  | none=>rw [hev] at h; cases h
  | some r=>
   obtain⟨nx,B⟩:=r;rw [hev] at h;unfold rx at h;split at h
   ·cases h
   ·exact absurd h (hno _ _)
   ·rename_i g args s e;injection e with e;injection e with e1 e2;subst e1;subst e2;unfold jP at h;split at h
    ·cases h
    ·exact absurd h (hno _ _)
    ·rename_i v2 s2 hc;injection h with h1 h2 h3;subst h1;subst h2;subst h3;have hs:=hO f o A _ _ hi (Nat.le_refl _) hev;have hcs:=hC _ _ _ _ _ hs.fr.inv hn hc;refine⟨rfl,hs.fr.trans hcs.fr,fun φ T w a hf hr hT hfr K Q hK=>?_⟩;unfold gQ;rw [dJ hf hw,if_pos rfl];obtain⟨φ',w',hp,hnr⟩:=hs.run φ T w a hf hr (hT.left hcs.fr) (fun b h1 h2=>hfr b h1 (Nat.lt_of_lt_of_le h2 hcs.fr.next));unfold Oper.wp;generalize hres:(execOp a.eval o).run P w=res at hnr;cases hnr with
     | enter _ _ args' hargs=>
      refine (hcs.run φ' _ w' args' hargs hp.rel ?_ ?_).mono ?_
      ·intro c hc' hh;by_cases hlt:c < A.next
       ·exact .inl (hT c hlt hh)
       ·exact .inr ⟨by omega,hc'⟩
      ·intro b h3 h4;rw [hp.out b (.inr h3)];exact hfr b (Nat.le_trans hs.fr.next h3) h4
      ·rintro e2 w2 ⟨φ2,hp2,he2⟩;cases he2 with
       | panic _ v' hv=>exact hK φ2 w2 _ (hp.trans hs.fr.next hcs.fr hp2) hv
   ·exact absurd h (hno _ _)
   ·cases h
   ·rename_i v2 s e;injection e with e;injection e with e1 e2;subst e1;subst e2;injection h with h1 h2 h3;subst h1;subst h2;subst h3;have hs:=hO f o A _ _ hi hn hev;refine⟨rfl,hs.fr,fun φ T w a hf hr hT hfr K Q hK=>?_⟩;unfold gQ;rw [dJ hf hw,if_pos rfl];obtain⟨φ',w',hp,hnr⟩:=hs.run φ T w a hf hr hT hfr;unfold Oper.wp;generalize hres:(execOp a.eval o).run P w=res at hnr;cases hnr with
    | panic _ v' hv=>exact hK φ' w' _ hp hv
 ·exact absurd h (hno _ _)
 ·cases h
end
def fm (P:Program):Prop:=∀(f:Fr) (o:Oper) (A:AS) (nx:cu) (A':AS),aU P f o A=some (nx,A')→A.next≤A'.next
inductive uj (φ:cK):dF→Exit→Prop
 | normal:uj φ .normal .normal
 | exit (id:Nat):uj φ (.exit id) (.exit id)
 | ret:uj φ .ret .ret
 | panic (v v':Value) (h:dE φ v v'):uj φ (.panic v) (.panic [{ v:=v',recovered:=false }])
structure gE (P:Program) (c:Code) (f:Fr) (A:AS) (x:dF) (f':Fr) (A':AS):Prop where
 fr:kW A A'
 run:∀(φ:cK) (T:Nat→Prop) (w:World) (a:Act),dm φ f a→gz P φ T A w→fU A A' T→fu A A' φ→∀(Q:Exit→Act→World→Prop),
  (∀φ' w' a' e,bG P φ T A A' w w' φ'→dm φ' f' a'→uj φ' x e→Q e a' w')→c.wp P Q a w
section
variable {P:Program}{call:cV}
theorem km (hO:fm P) (hM:cM call) {ops:List Oper}{f f':Fr}{o:Oper}{A A':AS}{v:Value} (h:fp P call ops f o A=.on f' A'∨fp P call ops f o A=.up v f' A'):A.next≤A'.next:=by
 have hon:∀(x:Option Fr) (s:AS),(jB x s=.on f' A'∨jB x s=.up v f' A')→s=A':=by
  intro x s hh;cases x with
  | none=>rcases hh with hh | hh<;>cases hh
  | some y=>
   rcases hh with hh | hh
   ·have h':St.on y s=.on f' A':=hh; injection h'
   ·cases hh
 unfold fp at h;split at h
 ·cases hev:aU P f o A with
  | none=>rw [hev] at h; rcases h with h | h<;>cases h
  | some r=>
   obtain⟨nx,B⟩:=r;have h1:=hO _ _ _ _ _ hev;rw [hev] at h;cases nx with
   | val u=>rw [← hon _ _ h]; exact h1
   | dfr x=>rw [← hon _ _ h]; exact h1
   | recover=>rcases h with h | h<;>cases h
   | panic u=>
    rcases h with h | h
    ·cases h
    ·have h':St.up u f B=.up v f' A':=h;injection h' with _ _ h3;rw [← h3]; exact h1
   | enter g args=>
    have h':jP f o.dst (call g args B)=.on f' A'∨jP f o.dst (call g args B)=.up v f' A':=h;cases hc:call g args B with
    | none=>rw [hc] at h'; rcases h' with h' | h'<;>cases h'
    | some r=>
     obtain⟨r,s⟩:=r;have h2:=hM _ _ _ _ _ hc;rw [hc] at h';cases r with
     | ret u=>rw [← hon _ _ h']; omega
     | panic u=>
      rcases h' with h' | h'
      ·cases h'
      ·have h'':St.up u f s=.up v f' A':=h';injection h'' with _ _ h3;rw [← h3]; omega
 ·rw [← hon _ _ h]; exact Nat.le_refl _
 ·rcases h with h | h<;>cases h
theorem mo {ops:List Oper} (o:Oper) (l:List Oper) (f:Fr) (A:AS):iL P call ops (o :: l) f A=LK (fp P call ops f o A) (iL P call ops l):=rfl
theorem je (hO:fm P) (hM:cM call) {ops:List Oper} : ∀(l:List Oper) {f f':Fr}{A A':AS}{v:Value},(iL P call ops l f A=.on f' A'∨iL P call ops l f A=.up v f' A')→A.next≤A'.next:=by
 intro l
 induction l with
 | nil=>
  intro f f' A A' v h;rcases h with h | h
  ·have h':St.on f A=.on f' A':=h; injection h' with _ h2; rw [h2]; exact Nat.le_refl _
  ·cases h
 | cons o l ih=>
  intro f f' A A' v h;rw [mo] at h;cases hs:fp P call ops f o A with
  | no=>rw [hs] at h; rcases h with h | h<;>cases h
  | on g B=>
   rw [hs] at h;have h1:=km (v:=v) hO hM (.inl hs);have h2:=ih h;omega
  | up u g B=>
   rw [hs] at h;have h1:=km (v:=u) hO hM (.inr hs);rcases h with h | h
   ·cases h
   ·have h':St.up u g B=.up v f' A':=h;injection h' with _ _ h3;rw [← h3]; exact h1
theorem bz {A B C:AS}{φ:cK} (h:fu A C φ) (hn:B.next≤C.next):fu A B φ:=fun b h1 h2=>h b h1 (Nat.lt_of_lt_of_le h2 hn)
theorem ba {A B C:AS}{φ φ':cK}{T:Nat→Prop}{w w':World} (h:fu A C φ) (hn:A.next≤B.next) (hp:bG P φ T A B w w' φ'):fu B C φ':=fun b h1 h2=>by
 rw [hp.out b (.inr h1)];exact h b (Nat.le_trans hn h1) h2
theorem bh {A B C:AS}{T:Nat→Prop} (h:fU A C T):fU B C (fun c=>T c∨(A.next≤c∧c < B.next)):=fun c hc hh=>by
 by_cases hlt:c < A.next
 ·exact .inl (h c hlt hh)
 ·exact .inr ⟨by omega,hc⟩
structure iT (P:Program) (ops:Array Oper) (l:List Oper) (f:Fr) (A:AS) (x:dF) (f':Fr) (A':AS):Prop where
 fr:kW A A'
 run:∀(φ:cK) (T:Nat→Prop) (w:World) (a:Act),dm φ f a→gz P φ T A w→fU A A' T→fu A A' φ→∀(Q:Exit→Act→World→Prop),
  (∀φ' w' a' e,bG P φ T A A' w w' φ'→dm φ' f' a'→uj φ' x e→Q e a' w')→wpList P ops Q l a w
theorem eu {ops:Array Oper}{Q:Exit→Act→World→Prop}{o:Oper}{l:List Oper}{a:Act}{w:World} (h:gQ P ops Q o (wpList P ops Q l) a w):wpList P ops Q (o :: l) a w:=by
 unfold gQ at h;unfold wpList;split at h
 ·rename_i hw; rw [if_pos hw]; exact .inl h
 ·rename_i hw; rw [if_neg hw]; exact h
theorem x9 (hO:be P) (hOm:fm P) (hC:gB P call) (hM:cM call) {ops:Array Oper} : ∀(l:List Oper) {f f':Fr}{A A':AS},bE A→A'.next≤A'.next→
  (iL P call ops.toList l f A=.on f' A'→iT P ops l f A .normal f' A')∧(∀v,iL P call ops.toList l f A=.up v f' A'→iT P ops l f A (.panic v) f' A'):=by
 intro l
 induction l with
 | nil=>
  intro f f' A A' hi hn;constructor
  ·intro h;have h':St.on f A=.on f' A':=h;injection h' with h1 h2;subst h1;subst h2;exact⟨.refl hi,fun φ T w a hf hr _ _ Q hQ=>hQ φ w a .normal (.refl hr rfl rfl rfl rfl rfl rfl rfl) hf .normal⟩
  ·intro v h; cases h
 | cons o l ih=>
  intro f f' A A' hi hn;have key:∀x,(∀g B,fp P call ops.toList f o A=.on g B→B.next≤A'.next→iT P ops l g B x f' A')→(∃g B,fp P call ops.toList f o A=.on g B∧B.next≤A'.next)→iT P ops (o :: l) f A x f' A':=by
   rintro x hx ⟨g,B,hs,hle⟩;have s1:=kZ hO hC hM hi (Nat.le_refl _) hs;have s2:=hx g B hs hle;refine⟨s1.fr.trans s2.fr,fun φ T w a hf hr hT hfr Q hQ=>eu ?_⟩;refine s1.run φ T w a hf hr (hT.left s2.fr) (bz hfr s2.fr.next) _ Q fun φ' w' a' hp hf'=>?_;refine s2.run φ' _ w' a' hf' hp.rel (bh hT) (ba hfr s1.fr.next hp) Q fun φ2 w2 a2 e hp2 hf2 hx2=>?_;exact hQ φ2 w2 a2 e (hp.trans s1.fr.next s2.fr hp2) hf2 hx2
  constructor
  ·intro h;rw [mo] at h;cases hs:fp P call ops.toList f o A with
   | no=>rw [hs] at h; cases h
   | up u g B=>rw [hs] at h; cases h
   | on g B=>
    rw [hs] at h;have h':iL P call ops.toList l g B=.on f' A':=h;have hle:=je (v:=undef) hOm hM l (.inl h');exact key _ (fun g2 B2 hs2 _=>by
     rw [hs] at hs2;injection hs2 with e1 e2;subst e1;subst e2;exact (ih (kZ hO hC hM hi (Nat.le_refl _) hs).fr.inv hn).1 h') ⟨g,B,hs,hle⟩
  ·intro v h;rw [mo] at h;cases hs:fp P call ops.toList f o A with
   | no=>rw [hs] at h; cases h
   | up u g B=>
    rw [hs] at h;have h':St.up u g B=.up v f' A':=h;injection h' with e1 e2 e3;subst e1;subst e2;subst e3;obtain⟨rfl,s1⟩:=LA hO hC hM hi hn hs;refine⟨s1.fr,fun φ T w a hf hr hT hfr Q hQ=>eu ?_⟩;exact s1.run φ T w a hf hr hT hfr _ Q fun φ' w' v' hp hv=>hQ φ' w' a _ hp (hf.mono hp.ext) (.panic _ _ hv)
   | on g B=>
    rw [hs] at h;have h':iL P call ops.toList l g B=.up v f' A':=h;have hle:=je hOm hM l (.inr h');exact key _ (fun g2 B2 hs2 _=>by
     rw [hs] at hs2;injection hs2 with e1 e2;subst e1;subst e2;exact (ih (kZ hO hC hM hi (Nat.le_refl _) hs).fr.inv hn).2 v h') ⟨g,B,hs,hle⟩
end
def wH (P:Program) (call:cV):Prop:=∀(id:Nat) (ops:Array Oper) (f:Fr) (A:AS) (x:dF) (f':Fr) (A':AS),bE A→A'.next≤A'.next→zF (gW P call ops ops.toList 0 .nil [] f A)=some (x,f',A')→gE P (.region id ops true) f A x f' A'
def jX (P:Program) (call:cV):Prop:=∀(ops:Array Oper) (f:Fr) (A:AS) (x:dF) (f':Fr) (A':AS),zF (gW P call ops ops.toList 0 .nil [] f A)=some (x,f',A')→A.next≤A'.next
def oV (body:Fr→AS→Ex):Prop:=∀(f:Fr) (A:AS) (x:dF) (f':Fr) (A':AS),body f A=some (x,f',A')→A.next≤A'.next
section
variable {P:Program}{call:cV}
theorem mL {r:Ex}{k:Fr→AS→Ex}{x:dF}{f':Fr}{A':AS} (h:Ba r k=some (x,f',A')):(∃g B,r=some (.normal,g,B)∧k g B=some (x,f',A'))∨(r=some (x,f',A')∧x≠.normal):=by
 unfold Ba at h;split at h
 ·rename_i g B; exact .inl ⟨g,B,rfl,h⟩
 ·rename_i hne;refine .inr ⟨h,?_⟩;rintro rfl;exact hne _ _ h
theorem mJ {r:St}{x:dF}{f':Fr}{A':AS} (h:zF r=some (x,f',A')):(r=.on f' A'∧x=.normal)∨∃v,r=.up v f' A'∧x=.panic v:=by
 cases r with
 | no=>cases h
 | on f s=>have h':some (dF.normal,f,s)=some (x,f',A'):=h; injection h' with h'; injection h' with h1 h2; injection h2 with h2 h3; subst h1; subst h2; subst h3; exact .inl ⟨rfl,rfl⟩
 | up v f s=>have h':some (dF.panic v,f,s)=some (x,f',A'):=h; injection h' with h'; injection h' with h1 h2; injection h2 with h2 h3; subst h1; subst h2; subst h3; exact .inr ⟨v,rfl,rfl⟩
theorem rN (body:Fr→AS→Ex) (n:Nat) (f:Fr) (A:AS):yA body (n + 1) f A=Ba (body f A) (yA body n):=rfl
theorem se {body:Fr→AS→Ex} (hb:oV body):∀n,oV (yA body n):=by
 intro n
 induction n with
 | zero=>intro f A x f' A' h; cases h
 | succ n ih=>
  intro f A x f' A' h;rw [rN] at h;rcases mL h with ⟨g,B,h1,h2⟩ | ⟨h1,_⟩
  ·exact Nat.le_trans (hb _ _ _ _ _ h1) (ih _ _ _ _ _ h2)
  ·exact hb _ _ _ _ _ h1
theorem qO {id:Nat}{r:Ex}{x:dF}{f':Fr}{A':AS} (h:sB id r=some (x,f',A')):(r=some (.exit id,f',A')∧x=.normal)∨(r=some (x,f',A')∧x≠.exit id):=by
 unfold sB at h;split at h
 ·rename_i i g B;rcases eo h with ⟨hb,hx⟩ | ⟨hb,hx⟩
  ·obtain⟨rfl,rfl,rfl⟩ : dF.exit i=x∧g=f'∧B=A':=by injection hx with h; injection h with h1 h2; injection h2 with h2 h3; exact⟨h1,h2,h3⟩
   refine .inr ⟨rfl,?_⟩;intro he;injection he with he;subst he;rw [Nat.beq_refl] at hb;cases hb
  ·have:=Nat.eq_of_beq_eq_true hb;subst this;obtain⟨rfl,rfl,rfl⟩ : dF.normal=x∧g=f'∧B=A':=by injection hx with h; injection h with h1 h2; injection h2 with h2 h3; exact⟨h1,h2,h3⟩
   exact .inl ⟨rfl,rfl⟩
 ·rename_i hne;refine .inr ⟨h,?_⟩;rintro rfl;exact hne _ _ _ h
theorem sS {v:Option Value}{a b:Ex}{x:dF}{f':Fr}{A':AS} (h:yw v a b=some (x,f',A')):(v=some (.bool true)∧a=some (x,f',A'))∨(v=some (.bool false)∧b=some (x,f',A')):=by
 unfold yw at h;split at h
 ·exact .inl ⟨rfl,h⟩
 ·exact .inr ⟨rfl,h⟩
 ·cases h
theorem eL (hO:fm P) (hM:cM call) (hD:jX P call) (c:Code):oV (cU P call c):=by
 induction c with
 | skip=>intro f A x f' A' h; have h':some (dF.normal,f,A)=some (x,f',A'):=h; injection h' with h'; injection h' with _ h2; injection h2 with _ h3; rw [h3]; exact Nat.le_refl _
 | region id ops draw=>
  intro f A x f' A' h;cases draw with
  | false=>
   have h':zF (iL P call ops.toList ops.toList f A)=some (x,f',A'):=h;rcases mJ h' with ⟨h1,_⟩ | ⟨v,h1,_⟩
   ·exact je (v:=undef) hO hM _ (.inl h1)
   ·exact je hO hM _ (.inr h1)
  | true=>exact hD ops f A x f' A' h
 | seq a b iha ihb=>
  intro f A x f' A' h;have h':Ba (cU P call a f A) (cU P call b)=some (x,f',A'):=h;rcases mL h' with ⟨g,B,h1,h2⟩ | ⟨h1,_⟩
  ·exact Nat.le_trans (iha _ _ _ _ _ h1) (ihb _ _ _ _ _ h2)
  ·exact iha _ _ _ _ _ h1
 | cond o a b iha ihb=>
  intro f A x f' A' h;have h':yw (f.eval o) (cU P call a f A) (cU P call b f A)=some (x,f',A'):=h;rcases sS h' with ⟨_,h1⟩ | ⟨_,h1⟩
  ·exact iha _ _ _ _ _ h1
  ·exact ihb _ _ _ _ _ h1
 | block id b ih=>
  intro f A x f' A' h;have h':sB id (cU P call b f A)=some (x,f',A'):=h;rcases qO h' with ⟨h1,_⟩ | ⟨h1,_⟩
  ·exact ih _ _ _ _ _ h1
  ·exact ih _ _ _ _ _ h1
 | loop b ih=>intro f A x f' A' h; exact se ih rH f A x f' A' h
 | rangeFunc=>intro f A x f' A' h; cases h
 | exit id=>intro f A x f' A' h; have h':some (dF.exit id,f,A)=some (x,f',A'):=h; injection h' with h'; injection h' with _ h2; injection h2 with _ h3; rw [h3]; exact Nat.le_refl _
 | scope=>intro f A x f' A' h; cases h
 | label=>intro f A x f' A' h; have h':some (dF.normal,f,A)=some (x,f',A'):=h; injection h' with h'; injection h' with _ h2; injection h2 with _ h3; rw [h3]; exact Nat.le_refl _
 | goto=>intro f A x f' A' h; cases h
 | ret=>intro f A x f' A' h; have h':some (dF.ret,f,A)=some (x,f',A'):=h; injection h' with h'; injection h' with _ h2; injection h2 with _ h3; rw [h3]; exact Nat.le_refl _
 | refuse=>intro f A x f' A' h; cases h
theorem vN {α β γ:Type}{a a':α}{b b':β}{c c':γ} (h:some (a,b,c)=some (a',b',c')):a=a'∧b=b'∧c=c':=by injection h with h; injection h with h1 h2; injection h2 with h2 h3; exact⟨h1,h2,h3⟩
theorem eR {c:Code}{f:Fr}{A:AS}{x:dF} (hi:bE A) (h:∀(φ:cK) (a:Act) (w:World) (Q:Exit→Act→World→Prop),(∀e,uj φ x e→Q e a w)→c.wp P Q a w):gE P c f A x f A:=
 ⟨.refl hi,fun φ _ w a hf hr _ _ Q hQ=>h φ a w Q fun e he=>hQ φ w a e (.refl hr rfl rfl rfl rfl rfl rfl rfl) hf he⟩
theorem yp {c:Code} (hm:oV (cU P call c)) (hc:∀(f:Fr) (A:AS) (x:dF) (f':Fr) (A':AS),bE A→A'.next≤A'.next→cU P call c f A=some (x,f',A')→gE P c f A x f' A') :
  ∀(n:Nat) (f:Fr) (A:AS) (x:dF) (f':Fr) (A':AS),bE A→A'.next≤A'.next→yA (cU P call c) n f A=some (x,f',A')→kW A A'∧x≠.normal∧
   ∀(φ:cK) (T:Nat→Prop) (w:World) (a:Act),dm φ f a→gz P φ T A w→fU A A' T→fu A A' φ→∀(Q:Exit→Act→World→Prop),
    (∀φ' w' a' e,bG P φ T A A' w w' φ'→dm φ' f' a'→uj φ' x e→Q e a' w')→Code.rounds P c Q n a w:=by
 intro n
 induction n with
 | zero=>intro f A x f' A' _ _ h; cases h
 | succ n ih=>
  intro f A x f' A' hi hn h;rw [rN] at h;rcases mL h with ⟨g,B,h1,h2⟩ | ⟨h1,hne⟩
  ·have hle:=se hm n _ _ _ _ _ h2;have s1:=hc _ _ _ _ _ hi (Nat.le_refl _) h1;obtain⟨f2,hx,s2⟩:=ih _ _ _ _ _ s1.fr.inv hn h2;refine⟨s1.fr.trans f2,hx,fun φ T w a hf hr hT hfr Q hQ=>?_⟩;rw [rounds_succ];refine s1.run φ T w a hf hr (hT.left f2) (bz hfr f2.next) _ fun φ' w' a' e hp hf' he=>?_;cases he;exact s2 φ' _ w' a' hf' hp.rel (bh hT) (ba hfr s1.fr.next hp) Q fun φ2 w2 a2 e hp2 hf2 hx2=>hQ φ2 w2 a2 e (hp.trans s1.fr.next f2 hp2) hf2 hx2
  ·have s1:=hc _ _ _ _ _ hi hn h1;refine⟨s1.fr,hne,fun φ T w a hf hr hT hfr Q hQ=>?_⟩;rw [rounds_succ];refine s1.run φ T w a hf hr hT hfr _ fun φ' w' a' e hp hf' he=>?_;have:=hQ φ' w' a' e hp hf' he;cases he with
   | normal=>exact absurd rfl hne
   | exit id=>exact this
   | ret=>exact this
   | panic v v' hv=>exact this
theorem mn (hO:be P) (hOm:fm P) (hC:gB P call) (hM:cM call) (hD:wH P call) (hDm:jX P call) (c:Code) :
  ∀(f:Fr) (A:AS) (x:dF) (f':Fr) (A':AS),bE A→A'.next≤A'.next→cU P call c f A=some (x,f',A')→gE P c f A x f' A':=by
 induction c with
 | skip=>
  intro f A x f' A' hi hn h;obtain⟨rfl,rfl,rfl⟩:=vN (show some (dF.normal,f,A)=some (x,f',A') from h);exact eR hi fun φ a w Q hQ=>wp_skip (hQ _ .normal)
 | region id ops draw=>
  intro f A x f' A' hi hn h;cases draw with
  | false=>
   have h':zF (iL P call ops.toList ops.toList f A)=some (x,f',A'):=h;have hs:=x9 hO hOm hC hM (ops:=ops) ops.toList (f:=f) (f':=f') hi hn;rcases mJ h' with ⟨h1,rfl⟩ | ⟨v,h1,rfl⟩
   ·have s:=hs.1 h1;exact⟨s.fr,fun φ T w a hf hr hT hfr Q hQ=>wp_region_list (s.run φ T w a hf hr hT hfr Q hQ)⟩
   ·have s:=hs.2 v h1;exact⟨s.fr,fun φ T w a hf hr hT hfr Q hQ=>wp_region_list (s.run φ T w a hf hr hT hfr Q hQ)⟩
  | true=>exact hD id ops f A x f' A' hi hn h
 | seq a b iha ihb=>
  intro f A x f' A' hi hn h;have h':Ba (cU P call a f A) (cU P call b)=some (x,f',A'):=h;rcases mL h' with ⟨g,B,h1,h2⟩ | ⟨h1,hne⟩
  ·have hle:=eL hOm hM hDm b _ _ _ _ _ h2;have s1:=iha _ _ _ _ _ hi (Nat.le_refl _) h1;have s2:=ihb _ _ _ _ _ s1.fr.inv hn h2;refine⟨s1.fr.trans s2.fr,fun φ T w a hf hr hT hfr Q hQ=>wp_seq ?_⟩;refine s1.run φ T w a hf hr (hT.left s2.fr) (bz hfr s2.fr.next) _ fun φ' w' a' e hp hf' he=>?_;cases he;exact s2.run φ' _ w' a' hf' hp.rel (bh hT) (ba hfr s1.fr.next hp) Q fun φ2 w2 a2 e hp2 hf2 hx2=>hQ φ2 w2 a2 e (hp.trans s1.fr.next s2.fr hp2) hf2 hx2
  ·have s1:=iha _ _ _ _ _ hi hn h1;refine⟨s1.fr,fun φ T w a hf hr hT hfr Q hQ=>wp_seq ?_⟩;refine s1.run φ T w a hf hr hT hfr _ fun φ' w' a' e hp hf' he=>?_;have:=hQ φ' w' a' e hp hf' he;cases he with
   | normal=>exact absurd rfl hne
   | exit id=>exact this
   | ret=>exact this
   | panic v v' hv=>exact this
 | cond o a b iha ihb=>
  intro f A x f' A' hi hn h;have h':yw (f.eval o) (cU P call a f A) (cU P call b f A)=some (x,f',A'):=h;rcases sS h' with ⟨hv,h1⟩ | ⟨hv,h1⟩
  ·have s1:=iha _ _ _ _ _ hi hn h1;refine⟨s1.fr,fun φ T w a hf hr hT hfr Q hQ=>?_⟩;have ho:=hf.eval hv;generalize hq:a.eval o=q at ho;cases ho;exact wp_cond_true hq (s1.run φ T w a hf hr hT hfr Q hQ)
  ·have s1:=ihb _ _ _ _ _ hi hn h1;refine⟨s1.fr,fun φ T w a hf hr hT hfr Q hQ=>?_⟩;have ho:=hf.eval hv;generalize hq:a.eval o=q at ho;cases ho;exact wp_cond_false hq (s1.run φ T w a hf hr hT hfr Q hQ)
 | block id b ih=>
  intro f A x f' A' hi hn h;have h':sB id (cU P call b f A)=some (x,f',A'):=h;rcases qO h' with ⟨h1,rfl⟩ | ⟨h1,hne⟩
  ·have s1:=ih _ _ _ _ _ hi hn h1;refine⟨s1.fr,fun φ T w a hf hr hT hfr Q hQ=>wp_block ?_⟩;refine s1.run φ T w a hf hr hT hfr _ fun φ' w' a' e hp hf' he=>?_;cases he;show (if id=id then Q .normal a' w' else _);rw [if_pos rfl];exact hQ φ' w' a' _ hp hf' .normal
  ·have s1:=ih _ _ _ _ _ hi hn h1;refine⟨s1.fr,fun φ T w a hf hr hT hfr Q hQ=>wp_block ?_⟩;refine s1.run φ T w a hf hr hT hfr _ fun φ' w' a' e hp hf' he=>?_;have:=hQ φ' w' a' e hp hf' he;cases he with
   | normal=>exact this
   | exit i=>
    show (if i=id then _ else Q (.exit i) a' w');rw [if_neg (by rintro rfl; exact hne rfl)];exact this
   | ret=>exact this
   | panic v v' hv=>exact this
 | loop b ih=>
  intro f A x f' A' hi hn h;obtain⟨h1,hx,h2⟩:=yp (eL hOm hM hDm b) ih rH f A x f' A' hi hn h;exact⟨h1,fun φ T w a hf hr hT hfr Q hQ=>wp_loop_rounds rH (h2 φ T w a hf hr hT hfr Q hQ)⟩
 | rangeFunc=>intro f A x f' A' _ _ h; cases h
 | exit id=>
  intro f A x f' A' hi hn h;obtain⟨rfl,rfl,rfl⟩:=vN (show some (dF.exit id,f,A)=some (x,f',A') from h);exact eR hi fun φ a w Q hQ=>wp_exit (hQ _ (.exit id))
 | scope=>intro f A x f' A' _ _ h; cases h
 | label l=>
  intro f A x f' A' hi hn h;obtain⟨rfl,rfl,rfl⟩:=vN (show some (dF.normal,f,A)=some (x,f',A') from h);exact eR hi fun φ a w Q hQ=>wp_label (hQ _ .normal)
 | goto=>intro f A x f' A' _ _ h; cases h
 | ret=>
  intro f A x f' A' hi hn h;obtain⟨rfl,rfl,rfl⟩:=vN (show some (dF.ret,f,A)=some (x,f',A') from h);exact eR hi fun φ a w Q hQ=>wp_ret (hQ _ .ret)
 | refuse=>intro f A x f' A' _ _ h; cases h
end
section
variable {P:Program}{call:cV}
theorem xz (v:Value) (l:List Value) (i:Nat) (t:Tr Value):nI (v :: l) i t=nI l (i + 1) (Tr.set v 40 t i):=by
 show cG (Tr.set v 40 t i) (fun t=>nI l (Nat.add i 1) t)=_;rw [bX]
theorem sP:∀(l:List Value) (i:Nat) (t:Tr Value),i + l.length≤2000000→∀x,(nI l i t).get x=if i≤x∧x < i + l.length then l[x - i]? else t.get x:=by
 intro l
 induction l with
 | nil=>intro i t _ x; rw [if_neg (by simp)]; rfl
 | cons v l ih=>
  intro i t h x;simp only [List.length_cons] at h ⊢;have hf:ir i:=trivial;rw [xz,ih _ _ (by omega),Tr.get_set _ _ _ _ hf];by_cases h1:i + 1≤x∧x < i + 1 + l.length
  ·rw [if_pos h1,if_pos (by omega),show x - i=(x - (i + 1)) + 1 by omega,List.getElem?_cons_succ]
  ·rw [if_neg h1];by_cases h2:x=i
   ·subst h2; rw [if_pos rfl,if_pos (by omega)]; simp
   ·rw [if_neg h2,if_neg (by omega)]
theorem iS {φ:cK}{fn:Func}{args args':Array Value} (h:b8 φ args.toList args'.toList) (h1:fn.ntmps≤1000000) (h2:args.toList.length≤fn.ntmps):dm φ (kX fn args) { tmps:=args' ++ Array.replicate (fn.ntmps - args'.size) undef,defers:=[] }:=by
 have hl:=h.length;simp only [Array.length_toList] at hl h2;refine⟨?_,h1,fun t=>?_,.nil⟩
 ·show (args' ++ Array.replicate (fn.ntmps - args'.size) undef).size=fn.ntmps;rw [Array.size_append,Array.size_replicate]; omega
 ·show dE φ (((nI args.toList 0 .nil).get t).getD undef) ((args' ++ Array.replicate (fn.ntmps - args'.size) undef).getD t undef);rw [sP _ _ _ (by simp; omega),Array.getD_eq_getD_getElem?,Array.getElem?_append];by_cases ht:t < args'.size
  ·rw [if_pos (by simp; omega),if_pos ht,Nat.sub_zero];have hlt:t < args.toList.length:=by simp; omega
   obtain⟨v',e1,e2⟩:=b8.get t h (List.getElem?_eq_getElem hlt);rw [List.getElem?_eq_getElem hlt,show args'[t]?=some v' by simpa using e1];exact e2
  ·rw [if_neg (by simp; omega),if_neg ht,Tr.get_nil];have:(Array.replicate (fn.ntmps - args'.size) undef)[t - args'.size]?.getD undef=undef:=by
    rw [Array.getElem?_replicate]; split<;>rfl
   rw [this];exact fM φ
def Io (tmps:Array Value):ResultVar→Sem Value
 | .tmp t=>pure (tmps.getD t undef)
 | .cell a t=>do loadVar t (← asAddr (tmps.getD a undef))
def pF:List Value→Value
 | [v]=>v
 | vs=>.tuple vs.toArray
theorem AM (fn:Func) (tmps:Array Value):results fn tmps=(fn.results.mapM (Io tmps) >>= fun vs=>pure (if h:vs.size=1 then vs[0] else .tuple vs)):=by
 unfold results;congr 1
theorem ja {fn:Func}{tmps:Array Value}{vs:List Value}{w:World} (h:(fn.results.toList.mapM (Io tmps)).run P w=.ok vs w):(results fn tmps).run P w=.ok (pF vs) w:=by
 rw [AM,Sem.run_bind,Array.mapM_eq_mapM_toList,map_eq_pure_bind,Sem.run_bind,h];simp only [Result.andThen,Sem.run_pure];cases vs with
 | nil=>rfl
 | cons v vs=>cases vs<;>rfl
theorem Ec {t:TypeId}{pv v:Value}{A A':AS} (hi:bE A) (h:m7 P t (some pv) A=some (.val v,A')):kW A A'∧∀(φ:cK) (T:Nat→Prop) (w:World) (pv':Value),dE φ pv pv'→gz P φ T A w→fU A A' T→
  ∃v',dE φ v v'∧(do loadVar t (← asAddr pv'):Sem Value).run P w=.ok v' w∧bG P φ T A A' w w φ:=by
 unfold m7 at h;split at h
 ·rename_i b off hx;injection hx with hx;subst hx;split at h
  ·rename_i dd hd;unfold kY at h;rcases eo h with ⟨ha,h1⟩ | ⟨ha,h1⟩
   ·unfold tM at h1;split at h1
    ·rename_i u s1 hl;injection h1 with h1;injection h1 with h2 h3;injection h2 with h2;subst h2;subst h3;refine⟨v7 hi hl,fun φ T w pv' hp hr hT=>?_⟩;cases hp with
     | ptr _ _ i hφ=>
      obtain⟨xs',g1,g2,g3⟩:=qd hi hl hr hT hφ;cases g1 with
      | cons _ v' _ l' hv hs=>
       have hc:=g2 0 v' rfl;rw [eB,Nat.add_zero] at hc;refine⟨v',hv,?_,g3⟩;simp only [asAddr,loadVar,Sem.run_bind,Sem.run_pure,Result.andThen,mq hd,ha];simp [run_load,hc]
    ·cases h1
   ·split at h1
    ·rename_i n hsz;unfold tP at h1;split at h1
     ·rename_i xs s1 hl;injection h1 with h1;injection h1 with h2 h3;injection h2 with h2;subst h2;subst h3;refine⟨v7 hi hl,fun φ T w pv' hp hr hT=>?_⟩;cases hp with
      | ptr _ _ i hφ=>
       obtain⟨xs',g1,g2,g3⟩:=qd hi hl hr hT hφ;have hlen:xs'.length=n:=by
        obtain⟨_,_,_,_,_,_,hl',_⟩:=kU hl;rw [← g1.length,hl']
       refine⟨.agg xs'.toArray,.agg _ _ g1,?_,g3⟩;simp only [asAddr,loadVar,Sem.run_bind,Sem.run_pure,Result.andThen,mq hd,ha];have:=run_loadCells_list (P:=P) w ⟨i.blk,i.sh + off,none⟩ xs' g2;rw [hlen] at this;simp [this,Sem.run_bind,Result.andThen,eF hsz]
     ·cases h1
    ·cases h1
  ·cases h
 ·cases h
theorem gS (f:Fr) (rv:ResultVar) (l:List ResultVar) (A:AS):i9 P f (rv :: l) A=(match rv with
   | .tmp t=>(match i9 P f l A with
    | some (vs,s)=>some ((f.tmps.get t).getD undef :: vs,s)
    | none=>none)
   | .cell a t=>(match kM P (f.tmps.get a) t A with
    | some (v,s)=>(match i9 P f l s with
     | some (vs,s)=>some (v :: vs,s)
     | none=>none)
    | none=>none)):=rfl
theorem pq (f:Fr):∀(l:List ResultVar) {A A':AS}{vs:List Value},bE A→i9 P f l A=some (vs,A')→kW A A'∧∀(φ:cK) (T:Nat→Prop) (w:World) (a:Act),dm φ f a→gz P φ T A w→fU A A' T→
  ∃vs',b8 φ vs vs'∧(l.mapM (Io a.tmps)).run P w=.ok vs' w∧bG P φ T A A' w w φ:=by
 intro l
 induction l with
 | nil=>
  intro A A' vs hi h;have h':some (([]:List Value),A)=some (vs,A'):=h;injection h' with h';injection h' with h1 h2;subst h1;subst h2;exact⟨.refl hi,fun φ T w a _ hr _=>⟨[],.nil,rfl,.refl hr rfl rfl rfl rfl rfl rfl rfl⟩⟩
 | cons rv l ih=>
  intro A A' vs hi h;rw [gS] at h;cases rv with
  | tmp t=>
   simp only at h;split at h
   ·rename_i us s hs;injection h with h;injection h with h1 h2;subst h1;subst h2;obtain⟨f1,r1⟩:=ih hi hs;refine⟨f1,fun φ T w a hf hr hT=>?_⟩;obtain⟨vs',g1,g2,g3⟩:=r1 φ T w a hf hr hT;refine⟨a.tmps.getD t undef :: vs',.cons _ _ _ _ (hf.tmps t) g1,?_,g3⟩;rw [List.mapM_cons,Sem.run_bind];simp only [Io,Sem.run_pure,Result.andThen,Sem.run_bind,g2]
   ·cases h
  | cell b t=>
   simp only at h;split at h
   ·rename_i v s hc;split at h
    ·rename_i us s2 hs;injection h with h;injection h with h1 h2;subst h1;subst h2;unfold kM at hc;split at hc
     ·rename_i u s1 hl;injection hc with hc;injection hc with h3 h4;subst h3;subst h4;cases hb:f.tmps.get b with
      | none=>rw [hb] at hl; cases hl
      | some pv=>
       rw [hb] at hl;obtain⟨f1,r1⟩:=Ec hi hl;obtain⟨f2,r2⟩:=ih f1.inv hs;refine⟨f1.trans f2,fun φ T w a hf hr hT=>?_⟩;have hp:=hf.tmps b;rw [hb] at hp;obtain⟨v',g1,g2,g3⟩:=r1 φ T w _ hp hr (hT.left f2);obtain⟨vs',k1,k2,k3⟩:=r2 φ _ w a hf g3.rel (bh hT);refine⟨v' :: vs',.cons _ _ _ _ g1 k1,?_,g3.trans f1.next f2 k3⟩;have e:(Io a.tmps (.cell b t)).run P w=.ok v' w:=g2;rw [List.mapM_cons,Sem.run_bind,e];simp only [Result.andThen,Sem.run_bind,k2,Sem.run_pure]
     ·cases hc
    ·cases h
   ·cases h
theorem An {fn:Func}{f:Fr}{A A':AS}{r:fR} (hi:bE A) (h:finish P fn f A=some (r,A')):kW A A'∧∀(φ:cK) (T:Nat→Prop) (w:World) (a:Act),dm φ f a→gz P φ T A w→fU A A' T→
  ∃v',jG φ r (.returned v')∧(results fn a.tmps).run P w=.ok v' w∧bG P φ T A A' w w φ:=by
 have key:∃vs,i9 P f fn.results.toList A=some (vs,A')∧r=.ret (pF vs):=by
  unfold finish at h;split at h
  ·rename_i v s hs;injection h with h;injection h with h1 h2;subst h1;subst h2;exact⟨_,hs,rfl⟩
  ·rename_i vs s hne hs;injection h with h;injection h with h1 h2;subst h1;subst h2;refine⟨_,hs,?_⟩;cases vs with
   | nil=>rfl
   | cons v vs=>cases vs with
    | nil=>exact (hne _ rfl).elim
    | cons u us=>rfl
  ·cases h
 obtain⟨vs,hs,rfl⟩:=key;obtain⟨f1,r1⟩:=pq f _ hi hs;refine⟨f1,fun φ T w a hf hr hT=>?_⟩;obtain⟨vs',g1,g2,g3⟩:=r1 φ T w a hf hr hT;refine⟨pF vs',.ret _ _ ?_,ja g2,g3⟩;cases g1 with
 | nil=>exact .tuple _ _ .nil
 | cons v v' l l' hv hs2=>
  cases hs2 with
  | nil=>exact hv
  | cons u u' m m' hu hm=>exact .tuple _ _ (.cons _ _ _ _ hv (.cons _ _ _ _ hu hm))
end
inductive nC (φ:cK):Option Value→FrameMode→Prop
 | ret:nC φ none .returning
 | panic (v v':Value) (h:dE φ v v'):nC φ (some v) (.panicking [{ v:=v',recovered:=false }])
def vo (P:Program) (call:cV):Prop:=∀(d:Deferred) (A:AS) (u:Option Value) (A':AS) (u':Option Value),bE A→A'.next≤A'.next→f8 P call d A u=some (A',u')→kW A A'∧
 ∀(φ:cK) (T:Nat→Prop) (w:World) (d':Deferred) (m:FrameMode),yx φ d d'→nC φ u m→gz P φ T A w→fU A A' T→fu A A' φ→
  ∃fv cap g args,d'.target=.fn fv cap∧(invoke d'.target d'.args).run P w=.ok (.enter g args) w∧CallsD P g args m w fun e m' w'=>∃v φ',e=.returned v∧bG P φ T A A' w w' φ'∧nC φ' u' (settle m')
def mQ (P:Program) (call:cV):Prop:=∀(d:Deferred) (A:AS) (u:Option Value) (A':AS) (u':Option Value),f8 P call d A u=some (A',u')→A.next≤A'.next
section
variable {P:Program}{call:cV}
theorem pj {A A':AS}{b off n:Nat}{xs:List Value} (h:ld A b off n=some (xs,A')):A'.next=A.next:=by
 obtain⟨_,_,_,_,_,_,_,rfl⟩:=kU h;rw [aB]
theorem wC {a:Option Value}{t:TypeId}{A A':AS}{v:Value} (h:kM P a t A=some (v,A')):A'.next=A.next:=by
 unfold kM at h;split at h
 ·rename_i u s hl;injection h with h;injection h with h1 h2;subst h2;unfold m7 at hl;split at hl
  ·split at hl
   ·unfold kY at hl;rcases eo hl with ⟨_,h1⟩ | ⟨_,h1⟩
    ·unfold tM at h1;split at h1
     ·rename_i hld;injection h1 with h1;injection h1 with _ h3;subst h3;exact pj hld
     ·cases h1
    ·split at h1
     ·unfold tP at h1;split at h1
      ·rename_i hld;injection h1 with h1;injection h1 with _ h3;subst h3;exact pj hld
      ·cases h1
     ·cases h1
   ·cases hl
  ·cases hl
 ·cases h
theorem na (f:Fr):∀(l:List ResultVar) {A A':AS}{vs:List Value},i9 P f l A=some (vs,A')→A'.next=A.next:=by
 intro l
 induction l with
 | nil=>intro A A' vs h; have h':some (([]:List Value),A)=some (vs,A'):=h; injection h' with h'; injection h' with _ h2; rw [h2]
 | cons rv l ih=>
  intro A A' vs h;rw [gS] at h;cases rv with
  | tmp t=>
   simp only at h;split at h
   ·rename_i us s hs;injection h with h;injection h with _ h2;subst h2;exact ih hs
   ·cases h
  | cell b t=>
   simp only at h;split at h
   ·rename_i v s hc;split at h
    ·rename_i us s2 hs;injection h with h;injection h with _ h2;subst h2;rw [ih hs,wC hc]
    ·cases h
   ·cases h
theorem yj {fn:Func}{f:Fr}{A A':AS}{r:fR} (h:finish P fn f A=some (r,A')):A'.next=A.next:=by
 unfold finish at h;split at h
 ·rename_i hs;injection h with h;injection h with _ h2;subst h2;exact na f _ hs
 ·rename_i hs;injection h with h;injection h with _ h2;subst h2;exact na f _ hs
 ·cases h
theorem tD {fn:Func}{f:Fr} (d:Deferred) (ds:List Deferred) (A:AS) (u:Option Value):jp P call fn f (d :: ds) A u=(match f8 P call d A u with
  | some (s,u')=>jp P call fn f ds s u'
  | none=>none):=rfl
theorem nM (hD:mQ P call) {fn:Func}{f:Fr} : ∀(ds:List Deferred) {A A':AS}{u:Option Value}{r:fR},jp P call fn f ds A u=some (r,A')→A.next≤A'.next:=by
 intro ds
 induction ds with
 | nil=>
  intro A A' u r h;have h':lQ P fn f A u=some (r,A'):=h;unfold lQ at h';split at h'
  ·rw [yj h']; exact Nat.le_refl _
  ·injection h' with h'; injection h' with _ h2; rw [h2]; exact Nat.le_refl _
 | cons d ds ih=>
  intro A A' u r h;rw [tD] at h;split at h
  ·rename_i s u' hd;exact Nat.le_trans (hD _ _ _ _ _ hd) (ih h)
  ·cases h
theorem jf (hD:vo P call) (hDm:mQ P call) {fn:Func}{f:Fr} : ∀(ds:List Deferred) {A A':AS}{u:Option Value}{r:fR},bE A→A'.next≤A'.next→jp P call fn f ds A u=some (r,A')→kW A A'∧
  ∀(φ:cK) (T:Nat→Prop) (w:World) (a:Act) (ds':List Deferred) (m:FrameMode),dm φ f a→oM φ ds ds'→nC φ u m→gz P φ T A w→fU A A' T→fu A A' φ→
   ∀(R:Ending→World→Prop),(∀φ' w' e,bG P φ T A A' w w' φ'→jG φ' r e→R e w')→Leaves P fn a.tmps R ds' m w:=by
 intro ds
 induction ds with
 | nil=>
  intro A A' u r hi hn h;have h':lQ P fn f A u=some (r,A'):=h;unfold lQ at h';split at h'
  ·obtain⟨f1,r1⟩:=An hi h';refine⟨f1,fun φ T w a ds' m hf hd hu hr hT _ R hR=>?_⟩;cases hd;cases hu;obtain⟨v',g1,g2,g3⟩:=r1 φ T w a hf hr hT;exact⟨v',g2,hR φ w _ g3 g1⟩
  ·injection h' with h';injection h' with h1 h2;subst h1;subst h2;refine⟨.refl hi,fun φ T w a ds' m hf hd hu hr hT _ R hR=>?_⟩;cases hd;cases hu with
   | panic _ v' hv=>exact hR φ w _ (.refl hr rfl rfl rfl rfl rfl rfl rfl) (.panic _ _ hv)
 | cons d ds ih=>
  intro A A' u r hi hn h;rw [tD] at h;split at h
  ·rename_i B u' hd;have hle:=nM hDm ds h;obtain⟨f1,r1⟩:=hD _ _ _ _ _ hi (Nat.le_refl _) hd;obtain⟨f2,r2⟩:=ih f1.inv hn h;refine⟨f1.trans f2,fun φ T w a ds' m hf hds hu hr hT hfr R hR=>?_⟩;cases hds with
   | cons _ d' _ ds'' hdd hdl=>
    have hm:m≠.run:=by cases hu<;>simp
    obtain⟨fv,cap,g,args,e1,e2,e3⟩:=r1 φ T w d' m hdd hu hr (hT.left f2) (bz hfr f2.next);refine⟨hm,fv,cap,g,args,e1,e2,e3.mono ?_⟩;rintro e m' w' ⟨v,φ',rfl,hp,hu'⟩;exact r2 φ' _ w' a ds'' (settle m') (hf.mono hp.ext) (hdl.mono hp.ext) hu' hp.rel (bh hT) (ba hfr f1.next hp) R fun φ2 w2 e hp2 he=>hR φ2 w2 e (hp.trans f1.next f2 hp2) he
  ·cases h
def hZ (P:Program):Prop:=∀call,gB P call→cM call→wH P call∧jX P call∧vo P call∧mQ P call
theorem vV {fn:Func}{r:Ex}{q:fR}{A':AS} (h:wc P call fn r=some (q,A')):∃x f B,r=some (x,f,B)∧((x=.normal∨x=.ret)∧jp P call fn f f.defers B none=some (q,A')∨∃v,x=.panic v∧jp P call fn f f.defers B (some v)=some (q,A')):=by
 unfold wc at h;split at h
 ·exact⟨_,_,_,rfl,.inl ⟨.inl rfl,h⟩⟩
 ·exact⟨_,_,_,rfl,.inl ⟨.inr rfl,h⟩⟩
 ·exact⟨_,_,_,rfl,.inr ⟨_,rfl,h⟩⟩
 ·cases h
theorem yO (hP:hZ P) (hO:be P) (hOm:fm P) (hC:gB P call) (hM:cM call) {g:FuncId}{fn:Func} (hfn:P.funcs[g]?=some fn) {args:Array Value}{A A':AS}{r:fR} (h:Bg P call fn args A=some (r,A')) :
  A.next≤A'.next∧(bE A→A'.next≤A'.next→cQ P g args A r A'):=by
 obtain⟨hD,hDm,hF,hFm⟩:=hP call hC hM;unfold Bg at h;split at h
 ·rename_i c hc;obtain⟨hb,h⟩:=aC h;simp only [Bool.and_eq_true] at hb;have b1:=Nat.le_of_ble_eq_true hb.1;have b2:=Nat.le_of_ble_eq_true hb.2;obtain⟨x,f,B,h1,h2⟩:=vV h;have m1:=eL hOm hM hDm c _ _ _ _ _ h1;have m2:B.next≤A'.next:=by
   rcases h2 with ⟨_,h2⟩ | ⟨v,_,h2⟩
   ·exact nM hFm _ h2
   ·exact nM hFm _ h2
  refine⟨Nat.le_trans m1 m2,fun hi hn=>?_⟩;have s1:=mn hO hOm hC hM hD hDm c _ _ _ _ _ hi (Nat.le_refl _) h1;rcases h2 with ⟨hx,h2⟩ | ⟨v,rfl,h2⟩
  ·obtain⟨f2,r2⟩:=jf hF hFm _ s1.fr.inv hn h2;refine⟨s1.fr.trans f2,fun φ T w args' hargs hr hT hfr=>calls_of_wp_defers hfn hc ?_⟩;refine s1.run φ T w _ (iS hargs b1 b2) hr (hT.left f2) (bz hfr f2.next) _ fun φ' w' a' e hp hf' he=>?_;have key:=r2 φ' _ w' a' a'.defers .returning hf' hf'.defers .ret hp.rel (bh hT) (ba hfr s1.fr.next hp) (fun e w'=>∃φ',bG P φ T A A' w w' φ'∧jG φ' r e) fun φ2 w2 e hp2 he=>⟨φ2,hp.trans s1.fr.next f2 hp2,he⟩
   rcases hx with rfl | rfl
   ·cases he; exact key
   ·cases he; exact key
  ·obtain⟨f2,r2⟩:=jf hF hFm _ s1.fr.inv hn h2;refine⟨s1.fr.trans f2,fun φ T w args' hargs hr hT hfr=>calls_of_wp_defers hfn hc ?_⟩;refine s1.run φ T w _ (iS hargs b1 b2) hr (hT.left f2) (bz hfr f2.next) _ fun φ' w' a' e hp hf' he=>?_;cases he with
   | panic _ v' hv=>
    exact r2 φ' _ w' a' a'.defers _ hf' hf'.defers (.panic _ _ hv) hp.rel (bh hT) (ba hfr s1.fr.next hp) (fun e w'=>∃φ',bG P φ T A A' w w' φ'∧jG φ' r e) fun φ2 w2 e hp2 he=>⟨φ2,hp.trans s1.fr.next f2 hp2,he⟩
 ·cases h
def Ct (P:Program) (orc:IE):Prop:=∀(g:FuncId) (args:Array Value) (A:AS) (r:fR) (A':AS),we orc g args A=some (some (r,A'))→A.next≤A'.next∧(bE A→A'.next≤A'.next→cQ P g args A r A')
theorem su (hP:hZ P) (hO:be P) (hOm:fm P) {orc:IE} (hQ:Ct P orc):∀n,gB P (jW P orc n)∧cM (jW P orc n):=by
 intro n
 induction n with
 | zero=>exact⟨fun g args A r A' _ _ h=>(by cases h),fun g args A r A' h=>(by cases h)⟩
 | succ n ih=>
  have key:∀g args A r A',jW P orc (n + 1) g args A=some (r,A')→A.next≤A'.next∧(bE A→A'.next≤A'.next→cQ P g args A r A'):=by
   intro g args A r A' h;have h':(match we orc g args A with | some r=>r | none=>pL P (jW P orc n) g args A)=some (r,A'):=h;split at h'
   ·rename_i q hq;subst h';exact hQ g args A r A' hq
   ·unfold pL at h';split at h'
    ·cases h'
    ·rename_i fn hfn;exact yO hP hO hOm ih.1 ih.2 hfn h'
  exact⟨fun g args A r A' hi hn h=>(key g args A r A' h).2 hi hn,fun g args A r A' h=>(key g args A r A' h).1⟩
end
section
variable {P:Program}{f:Fr}{o:Oper}{A A':AS}{nx:cu}
theorem aH {a:cu}{s:AS} (h:some (a,s)=some (nx,A')) (hs:A.next≤s.next):A.next≤A'.next:=by injection h with h; injection h with _ h; rw [← h]; exact hs
theorem iE {x:Option Value}{s:AS} (h:lK s x=some (nx,A')) (hs:A.next≤s.next):A.next≤A'.next:=by
 obtain⟨_,_,_,rfl⟩:=gL h; exact hs
theorem cD (h:dA P f o A=some (nx,A')):A.next≤A'.next:=by
 unfold dA at h;obtain⟨_,h⟩:=aC h;unfold gF at h;split at h
 ·obtain⟨_,h⟩:=aC h;exact aH h (Nat.le_refl _)
 ·cases h
theorem eH (s:AS) (c:Nat):(bO s c).next=s.next:=by rw [aB]
theorem jT (s:AS) (c:Nat):(lF s c).next=s.next:=by rw [dq]
theorem th (s:AS) (b:Nat) (o:eD):(s.put b o).next=s.next:=by rw [gq]
theorem ke (s:AS) (o:Nat→eD):(s.new o).next=s.next + 1:=by rw [gb]
theorem zh (s:AS) (c:Nat) (l:List Nat):(tV s c l).next=s.next:=by rw [qm]
theorem sq (s:AS) (c k:Nat):(nb s c k).next=s.next:=by rw [jR]
theorem BJ (s:AS) (b c:Nat):(lD s b c).next=s.next:=by
 unfold lD;split
 ·rfl
 ·rw [zh,uI]
theorem xY {b off:Nat}{vs:List Value} (h:Ea A b off vs=some A'):A'.next=A.next:=by
 unfold Ea at h;split at h
 ·unfold D9 at h;obtain⟨_,h⟩:=aC h;rw [bg] at h;injection h with h;rw [← h,jT,th,BJ]
 ·cases h
theorem x8 {e:TypeId}{v:Value}{xs:List Value}{n:Nat} (h:gZ P e A v xs n=some (nx,A')):A.next≤A'.next:=by
 unfold gZ at h;split at h
 ·split at h
  ·rename_i i _;cases n with
   | zero=>exact aH h (Nat.le_refl _)
   | succ n=>
    have h':(Bool.rec none (oY e A _ _ (n + 1) i.size xs) (uT i i.size _ (n + 1) xs):eI)=some (nx,A'):=h;obtain⟨_,h1⟩:=aC h';unfold oY at h1;split at h1
    ·obtain⟨_,h2⟩:=aC h1;exact aH h2 (by rw [aY]; omega)
    ·split at h1
     ·obtain⟨_,h2⟩:=aC h1;rw [rZ h2]; omega
     ·cases h1
    ·split at h1
     ·unfold Jr at h1;rw [bg] at h1;obtain⟨_,h2⟩:=aC h1;exact aH h2 (by rw [aY,eH]; omega)
     ·cases h1
    ·cases h1
  ·cases h
 ·cases h
theorem zV {g:FuncId}{vs:List Value} (h:mf P g vs A=some (nx,A')):A.next≤A'.next:=by
 unfold mf at h;split at h
 ·cases h
 ·split at h
  ·exact aH h (Nat.le_refl _)
  ·rcases eo h with ⟨_,h⟩ | ⟨_,h⟩
   ·obtain⟨_,h⟩:=aC h;unfold gF at h;split at h
    ·obtain⟨_,h⟩:=aC h;exact aH h (Nat.le_refl _)
    ·cases h
   ·split at h
    ·exact aH h (Nat.le_refl _)
    ·cases h
theorem vh {e:TypeId}{x:Option Value} (h:qY A e x=some (nx,A')):A.next≤A'.next:=by
 unfold qY at h;split at h
 ·exact aH h (by rw [aY]; omega)
 ·cases h
theorem yJ {t:TypeId}{ps:Array (Nat × Operand)} (h:lG P f t ps A=some (nx,A')):A.next≤A'.next:=by
 unfold lG at h;split at h
 ·obtain⟨_,h⟩:=aC h;rw [Option.map_eq_some_iff] at h;obtain⟨cs,_,h⟩:=h;injection h with _ h;rw [← h]; exact Nat.le_refl _
 ·rw [Option.bind_eq_some_iff] at h;obtain⟨n,_,h⟩:=h;rw [Option.map_eq_some_iff] at h;obtain⟨cs,_,h⟩:=h;injection h with _ h;rw [← h]; exact Nat.le_refl _
 ·cases h
theorem qg {t:TypeId}{len:Nat}{ps:Array (Nat × Operand)} (h:ei P f t len ps A=some (nx,A')):A.next≤A'.next:=by
 unfold ei at h;split at h
 ·split at h
  ·split at h
   ·rw [Option.map_eq_some_iff] at h;obtain⟨cs,_,h⟩:=h;injection h with _ h;rw [← h,aY]; omega
   ·cases h
  ·cases h
 ·cases h
theorem BP {r:Option (List Value × AS)} (hr:∀xs s,r=some (xs,s)→A.next≤s.next) (h:tM r=some (nx,A')):A.next≤A'.next:=by
 unfold tM at h;split at h
 ·exact aH h (hr _ _ rfl)
 ·cases h
theorem B9 {r:Option (List Value × AS)} (hr:∀xs s,r=some (xs,s)→A.next≤s.next) (h:tP r=some (nx,A')):A.next≤A'.next:=by
 unfold tP at h;split at h
 ·exact aH h (hr _ _ rfl)
 ·cases h
theorem Bi {t:TypeId}{x:Option Value} (h:m7 P t x A=some (nx,A')):A.next≤A'.next:=by
 unfold m7 at h;split at h
 ·split at h
  ·unfold kY at h;rcases eo h with ⟨_,h⟩ | ⟨_,h⟩
   ·exact BP (fun xs s hs=>by rw [pj hs]; exact Nat.le_refl _) h
   ·split at h
    ·exact B9 (fun xs s hs=>by rw [pj hs]; exact Nat.le_refl _) h
    ·cases h
  ·cases h
 ·cases h
theorem xu {t:TypeId}{x y:Option Value} (h:mc P t x y A=some (nx,A')):A.next≤A'.next:=by
 unfold mc at h;split at h
 ·split at h
  ·split at h
   ·obtain⟨_,h⟩:=aC h;unfold B7 at h;split at h
    ·rename_i hs;exact aH h (by rw [xY hs]; exact Nat.le_refl _)
    ·cases h
   ·cases h
  ·cases h
 ·cases h
theorem mG {op:BinOp}{b:Bool} (h:u5 op b A=some (nx,A')):A.next≤A'.next:=by
 unfold u5 at h;split at h
 ·exact aH h (Nat.le_refl _)
 ·exact aH h (Nat.le_refl _)
 ·cases h
theorem DF {op:BinOp}{t:TypeId}{x y:Option Value} (h:uk P f o op t x y A=some (nx,A')):A.next≤A'.next:=by
 unfold uk at h;split at h
 ·split at h
  ·split at h
   ·exact aH h (Nat.le_refl _)
   ·unfold kF at h;split at h
    ·exact mG h
    ·exact mG h
    ·exact mG h
    ·unfold rt at h;split at h
     ·obtain⟨_,h⟩:=aC h;exact mG h
     ·cases h
    ·exact cD h
  ·cases h
 ·cases h
theorem ut {b off n:Nat} (h:sJ b off n A=some (nx,A')):A.next≤A'.next:=by
 cases n with
 | zero=>exact aH h (Nat.le_refl _)
 | succ n=>
  have h':(match ld A b off (n + 1) with
   | some (xs,s)=>(match dc xs with
    | some l=>eW l fun l=>some (cu.val (.string ⟨⟨l⟩⟩),s)
    | none=>none)
   | none=>none)=some (nx,A'):=h
  split at h'
  ·rename_i hl;split at h'
   ·rw [bg] at h';exact aH h' (by rw [pj hl]; exact Nat.le_refl _)
   ·cases h'
  ·cases h'
theorem Af {a b:TypeId}{x:Option Value} (h:l7 P f o a b x A=some (nx,A')):A.next≤A'.next:=by
 unfold l7 at h;split at h
 ·split at h
  ·split at h
   ·exact ut h
   ·cases h
  ·cases h
 ·unfold mI at h;split at h
  ·split at h
   ·unfold nU at h;split at h
    ·split at h
     ·obtain⟨_,h⟩:=aC h;exact aH h (by rw [eH]; exact Nat.le_refl _)
     ·cases h
    ·cases h
   ·unfold kK at h;split at h
    ·split at h
     ·obtain⟨_,h⟩:=aC h;exact aH h (by rw [eH]; exact Nat.le_refl _)
     ·cases h
    ·cases h
   ·cases h
  ·exact cD h
 ·split at h
  ·split at h
   ·unfold om at h;rw [bp] at h;obtain⟨_,h⟩:=aC h;exact aH h (by rw [jT,eH,sq,aY]; omega)
   ·cases h
  ·exact cD h
 ·exact cD h
theorem xB {t:TypeId}{x:Option Value}{lo hi mx:Option Operand} (h:dz P f o t x lo hi mx A=some (nx,A')):A.next≤A'.next:=by
 unfold dz at h;split at h
 ·split at h
  ·split at h
   ·have inN:∀(a1 a2 a3 a4 a5 a6 a7 c:Nat),kI a1 a2 a3 a4 a5 a6 a7 (bO A c)=some (nx,A')→A.next≤A'.next:=fun a1 a2 a3 a4 a5 a6 a7 c h=>by
     unfold kI at h;obtain⟨_,h⟩:=aC h;exact aH h (by rw [aB]; exact Nat.le_refl _)
    cases mx with
    | none=>
     have h2:sliceAt P _ _ _ _ _ _ _ A=some (nx,A'):=h;unfold sliceAt at h2;split at h2
     ·exact inN _ _ _ _ _ _ _ _ h2
     ·cases h2
    | some y=>
     have h2:ga P _ _ _ _ _ _ _ A=some (nx,A'):=h;unfold ga at h2;split at h2
     ·rcases eo h2 with ⟨_,h3⟩ | ⟨_,h3⟩
      ·exact inN _ _ _ _ _ _ _ _ h3
      ·unfold sliceX at h3;obtain⟨_,h3⟩:=aC h3;exact aH h3 (by rw [aB]; exact Nat.le_refl _)
     ·cases h2
   ·cases h
  ·cases h
 ·split at h
  ·split at h
   ·exact aH h (Nat.le_refl _)
   ·cases h
  ·exact cD h
 ·split at h
  ·split at h
   ·unfold ou at h;obtain⟨_,h⟩:=aC h;rw [bg] at h;exact aH h (Nat.le_refl _)
   ·cases h
  ·cases h
 ·exact cD h
theorem ub {b:Builtin}{args:List Operand}{tys:List TypeId} (h:jU P f o b args tys A=some (nx,A')):A.next≤A'.next:=by
 unfold jU at h;split at h
 ·unfold BG at h;split at h
  ·exact aH h (Nat.le_refl _)
  ·rw [bp] at h; exact aH h (Nat.le_refl _)
  ·unfold vt at h;split at h
   ·rw [bp] at h; exact aH h (by rw [aB]; exact Nat.le_refl _)
   ·cases h
  ·exact cD h
 ·split at h
  ·unfold Ez at h;split at h
   ·split at h
    ·rename_i harg;have sp:=oq harg;have:=x8 h;rw [sp.next] at this;exact this
    ·cases h
   ·cases h
  ·cases h
 ·split at h
  ·unfold qH at h;split at h
   ·split at h
    ·rename_i xs m A1 i harg hin;have sp:=oq harg;obtain⟨_,h⟩:=aC h;cases m with
     | zero=>
      have h':some (cu.val (.int .i64 (.ofNat 0)),A1)=some (nx,A'):=h;exact aH h' (Nat.le_of_eq sp.next.symm)
     | succ m0=>
      have h':(match (generalizing:=false) (‹Option Addr›) with
       | some ⟨b,off,none⟩=>match Ea A1 b off xs with
        | some s=>some (cu.val (.int .i64 (.ofNat (Nat.add m0 1))),s)
        | none=>none
       | _=>none)=some (nx,A'):=h
      split at h'
      ·split at h'
       ·rename_i s1 hs1;have:=xY hs1;exact aH h' (by have:=sp.next; omega)
       ·cases h'
      ·cases h'
    ·cases h
   ·cases h
  ·cases h
 ·exact aH h (Nat.le_refl _)
 ·split at h
  ·unfold xw at h;split at h
   ·exact aH h (Nat.le_refl _)
   ·exact cD h
  ·cases h
 ·split at h
  ·unfold yt at h;split at h
   ·unfold oW at h;split at h
    ·split at h
     ·obtain⟨_,h⟩:=aC h;unfold tL at h;split at h
      ·rw [bg] at h;obtain⟨_,h⟩:=aC h;exact aH h (by rw [jT,eH,sq]; exact Nat.le_refl _)
      ·cases h
     ·cases h
    ·cases h
   ·exact cD h
  ·cases h
 ·exact cD h
theorem vJ {c:Call} (h:rD P f o c A=some (nx,A')):A.next≤A'.next:=by
 unfold rD at h;split at h
 ·unfold tf at h;split at h
  ·exact zV h
  ·cases h
 ·exact ub h
 ·cases h
theorem Aq (P:Program):fm P:=by
 intro f o A nx A' h;obtain⟨d,op,ty,pos,af,gd⟩:=o;cases op with
 | move x=>exact iE (show lK A (f.eval x)=_ from h) (Nat.le_refl _)
 | assign x=>exact iE (show lK A (f.eval x)=_ from h) (Nat.le_refl _)
 | pick c a b=>
  have h':tc f (f.eval c) a b A=some (nx,A'):=h;unfold tc at h';split at h'
  ·exact iE h' (Nat.le_refl _)
  ·exact iE h' (Nat.le_refl _)
  ·cases h'
 | alloc e=>exact vh (show qY A e (dR P e)=_ from h)
 | box e x=>exact vh (show qY A e (f.eval x)=_ from h)
 | build t ps=>exact yJ (show lG P f t ps A=_ from h)
 | buildSlice t n ps=>exact qg (show ei P f t n ps A=_ from h)
 | insert=>cases h
 | load t a=>exact Bi (show m7 P t (evalG P f a) A=_ from h)
 | store t a x=>exact xu (show mc P t (f.eval a) (f.eval x) A=_ from h)
 | ready=>cases h
 | waits=>cases h
 | nilCheck x=>
  have h':iI P f _ (f.eval x) A=some (nx,A'):=h;unfold iI at h';split at h'
  ·exact aH h' (Nat.le_refl _)
  ·exact aH h' (Nat.le_refl _)
  ·exact cD h'
 | binOp op t x y u=>exact DF (show uk P f _ op t (f.eval x) (f.eval y) A=_ from h)
 | unOp=>exact cD (show dA P f _ A=_ from h)
 | convert a b x=>exact Af (show l7 P f _ a b (f.eval x) A=_ from h)
 | sliceToArrayPointer=>cases h
 | makeInterface t x=>
  have h':nH P t (f.eval x) A=some (nx,A'):=h;unfold nH at h';split at h'
  ·split at h'
   ·cases h'
   ·exact aH h' (Nat.le_refl _)
   ·cases h'
  ·cases h'
 | makeFunc fn a b=>
  have h':s6 f fn a b A=some (nx,A'):=h;unfold s6 at h';split at h'
  ·split at h'
   ·split at h'
    ·exact aH h' (Nat.le_refl _)
    ·cases h'
   ·cases h'
  ·cases h'
 | makeMap t r=>
  cases r with
  | none=>
   exact aH (show some (cu.val (.map (some A.next)),A.new fun _=>.map [] 0)=some (nx,A') from h)
    (by rw [ke]; omega)
  | some _=>cases h
 | makeChan=>cases h
 | makeSlice t l c=>
  have h':rQ P t (f.eval l) (f.eval c) A=some (nx,A'):=h;unfold rQ at h';split at h'
  ·split at h'
   ·split at h'
    ·unfold vE at h';obtain⟨_,h'⟩:=aC h';exact aH h' (by rw [aY]; omega)
    ·cases h'
   ·cases h'
  ·cases h'
 | slice t x lo hi mx=>
  have hg:mi mx hi (dz P f ⟨d,.slice t x lo hi mx,ty,pos,af,gd⟩ t (f.eval x) lo hi mx A)=some (nx,A'):=h;have h':dz P f ⟨d,.slice t x lo hi mx,ty,pos,af,gd⟩ t (f.eval x) lo hi mx A=some (nx,A'):=by cases mx<;>cases hi<;>first | exact hg | cases hg
  exact xB h'
 | fieldAddr t x i=>
  have h':fK P t (evalG P f x) i A=some (nx,A'):=h;unfold fK at h';split at h'
  ·split at h'
   ·split at h'
    ·split at h'
     ·exact aH h' (Nat.le_refl _)
     ·cases h'
    ·cases h'
   ·cases h'
  ·cases h'
 | field t x i=>
  have h':nj P t (f.eval x) i A=some (nx,A'):=h;unfold nj at h';split at h'
  ·split at h'
   ·split at h'
    ·exact iE h' (Nat.le_refl _)
    ·cases h'
   ·cases h'
  ·cases h'
 | indexAddr t x i=>
  have h':ew P t (evalG P f x) (f.eval i) A=some (nx,A'):=h;unfold ew at h';split at h'
  ·obtain⟨_,_,_,_,rfl⟩:=mA h'; exact Nat.le_refl _
  ·obtain⟨_,_,_,_,rfl⟩:=mA h'; exact Nat.le_refl _
  ·obtain⟨_,_,_,_,rfl⟩:=mA h'; exact Nat.le_refl _
  ·cases h'
 | index t x i=>
  have h':nD P f _ t (f.eval x) (f.eval i) A=some (nx,A'):=h;unfold nD at h';split at h'
  ·split at h'
   ·split at h'
    ·unfold Ch at h';split at h'
     ·rw [bp] at h'; exact aH h' (Nat.le_refl _)
     ·cases h'
    ·cases h'
   ·cases h'
  ·exact cD h'
 | lookup t x k ok=>
  have h':ot P t (f.eval x) (f.eval k) ok A=some (nx,A'):=h;unfold ot at h';split at h'
  ·split at h'
   ·split at h'
    ·split at h'
     ·exact aH h' (by rw [eH]; exact Nat.le_refl _)
     ·split at h'
      ·exact aH h' (by rw [eH]; exact Nat.le_refl _)
      ·cases h'
     ·cases h'
    ·cases h'
   ·cases h'
  ·cases h'
 | mapUpdate t m k x=>
  have h':iW P t (f.eval m) (f.eval k) (f.eval x) A=some (nx,A'):=h;unfold iW at h';split at h'
  ·split at h'
   ·split at h'
    ·split at h'
     ·exact aH h' (by rw [jT,eH,th]; exact Nat.le_refl _)
     ·cases h'
    ·cases h'
   ·cases h'
  ·cases h'
 | mapEntry=>cases h
 | entryStore=>cases h
 | range t x=>
  have h':rS P t (f.eval x) A=some (nx,A'):=h;unfold rS at h';split at h'
  ·exact aH h' (by rw [ke]; omega)
  ·cases h'
 | next it b=>
  have h':xX (f.eval it) b A=some (nx,A'):=h;unfold xX at h';split at h'
  ·split at h'
   ·unfold Al at h';rcases eo h' with ⟨_,h1⟩ | ⟨_,h1⟩
    ·exact aH h1 (by rw [eH]; exact Nat.le_refl _)
    ·exact aH h1 (by rw [jT,eH,th]; exact Nat.le_refl _)
   ·cases h'
  ·cases h'
 | entry=>cases h
 | typeAssert x t a ok=>
  have h':l6 P (f.eval x) a ok A=some (nx,A'):=h;unfold l6 at h';split at h'
  ·cases h'
  ·rcases eo h' with ⟨_,h1⟩ | ⟨_,h1⟩
   ·split at h1
    ·exact aH h1 (Nat.le_refl _)
    ·cases h1
   ·exact aH h1 (Nat.le_refl _)
  ·cases h'
 | extract t i=>
  have h':jY (f.eval t) i A=some (nx,A'):=h;unfold jY at h';split at h'
  ·exact iE h' (Nat.le_refl _)
  ·cases h'
 | call c=>exact vJ (show rD P f _ c A=_ from h)
 | go=>cases h
 | defer c=>
  have h':nO f c A=some (nx,A'):=h;unfold nO at h';split at h'
  ·split at h'
   ·exact aH h' (Nat.le_refl _)
   ·cases h'
  ·cases h'
 | panic x=>
  have h':qj (f.eval x) A=some (nx,A'):=h;unfold qj at h';split at h'
  ·exact aH h' (Nat.le_refl _)
  ·cases h'
 | send=>cases h
 | recv=>cases h
 | select=>cases h
end
section
variable {P:Program}{f:Fr}{A A':AS}{nx:cu}{d:Option Tmp}{ty:TypeId}{pos:String}{af:Array Edge}{gd:Option (Nat × Bool)}
theorem u3 {t:TypeId}{dd:TypeDesc} (hd:P.underlying t=some dd) (hni:∀l,dd≠.interface l) (xt:TypeId) (v:Value) (w:World):(Instr.typeAssert (.iface t v) xt t true).run P w=.ok (.tuple #[v,.bool true]) w:=by
 simp only [Instr.typeAssert,Sem.run_bind,run_underlying hd,Result.andThen];cases dd<;>first | exact absurd rfl (hni _) | (simp only [if_true]; rfl)
theorem uw {t u:TypeId}{dd:TypeDesc} (hd:P.underlying t=some dd) (hni:∀l,dd≠.interface l) (xt:TypeId) (v z:Value) (w:World) (hu:u≠t) (hz:(zeroValue t).run P w=.ok z w) :
  (Instr.typeAssert (.iface u v) xt t true).run P w=.ok (.tuple #[z,.bool false]) w:=by
 simp only [Instr.typeAssert,Sem.run_bind,run_underlying hd,Result.andThen];cases dd<;>first | exact absurd rfl (hni _) | (simp only [if_neg hu,if_true,Sem.run_bind,hz,Result.andThen]; rfl)
theorem vG (hi:bE A) (x:Operand) (xt t:TypeId) (ok:Bool) (h:aU P f ⟨d,.typeAssert x xt t ok,ty,pos,af,gd⟩ A=some (nx,A')):bQ P f A ⟨d,.typeAssert x xt t ok,ty,pos,af,gd⟩ nx A':=by
 have h':l6 P (f.eval x) t ok A=some (nx,A'):=h;unfold l6 at h';split at h'
 ·cases h'
 ·rename_i u v dd hni hx hd;have hni':∀l,dd≠.interface l:=hni;rcases eo h' with ⟨hb,h1⟩ | ⟨hb,h1⟩
  ·split at h1
   ·rename_i z hz;injection h1 with h1;injection h1 with h1 h2;subst h1;subst h2;obtain⟨hp,hzr⟩:=zero_rel hz;have hu:u≠t:=by rintro rfl; rw [Nat.beq_refl] at hb; cases hb
    refine aM hi fun φ w a hf=>?_;have hv:=hf.eval hx;generalize hq:a.eval x=q at hv;cases hv with
    | iface _ _ v' hvv=>
     have e:(execOp a.eval ⟨d,.typeAssert x xt t true,ty,pos,af,gd⟩).run P w=.ok (.value (.tuple #[z,.bool false])) w:=by
      refine bT ?_;rw [hq];exact uw hd hni' xt v' z w hu (hzr w)
     rw [e];exact .val _ _ (.tuple _ _ (.cons _ _ _ _ (cy φ _ _ hp) (.cons _ _ _ _ (.bool _) .nil)))
   ·cases h1
  ·have:=Nat.eq_of_beq_eq_true hb;subst this;injection h1 with h1;injection h1 with h1 h2;subst h1;subst h2;refine aM hi fun φ w a hf=>?_;have hv:=hf.eval hx;generalize hq:a.eval x=q at hv;cases hv with
   | iface _ _ v' hvv=>
    have e:(execOp a.eval ⟨d,.typeAssert x xt u true,ty,pos,af,gd⟩).run P w=.ok (.value (.tuple #[v',.bool true])) w:=by
     refine bT ?_;rw [hq];exact u3 hd hni' xt v' w
    rw [e];exact .val _ _ (.tuple _ _ (.cons _ _ _ _ hvv (.cons _ _ _ _ (.bool _) .nil)))
 ·cases h'
inductive zd (φ:cK):List (Nat × Value)→List (Nat × Value)→Prop
 | nil:zd φ [] []
 | cons (i:Nat) (v v':Value) (l l':List (Nat × Value)) (h:dE φ v v') (hs:zd φ l l'):zd φ ((i,v) :: l) ((i,v') :: l')
theorem pW {φ:cK}{a:Act} (hf:dm φ f a):∀(l:List (Nat × Operand)) {ps:List (Nat × Value)},iH f l=some ps→zd φ ps (l.map fun (i,x)=>(i,a.eval x)):=by
 intro l
 induction l with
 | nil=>intro vs h; have h':some ([]:List (Nat × Value))=some vs:=h; injection h' with h'; subst h'; exact .nil
 | cons x l ih=>
  intro vs h;obtain⟨i,x⟩:=x;have h':(match f.eval x with | some v=>(match iH f l with | some vs=>some ((i,v) :: vs) | none=>none) | none=>none)=some vs:=h;split at h'
  ·rename_i v hx;split at h'
   ·rename_i us hu;injection h' with h';subst h';exact .cons _ _ _ _ _ (hf.eval hx) (ih hu)
   ·cases h'
  ·cases h'
theorem b8.set {φ:cK}{l l':List Value} (i:Nat) {v v':Value} (h:b8 φ l l') (hv:dE φ v v'):b8 φ (l.set i v) (l'.set i v'):=by
 refine .of_get (by simp [h.length]) fun j u hu=>?_;rw [List.getElem?_set] at hu ⊢;rw [← h.length];split at hu
 ·rename_i e;rw [if_pos e];split at hu
  ·rename_i e';injection hu with hu;subst hu;exact⟨v',by rw [if_pos e'],hv⟩
  ·cases hu
 ·rename_i e;rw [if_neg e];exact h.get j hu
theorem JR {φ:cK} (off:Nat):∀(l l':List Value) (k:Nat) (cs cs':Array Value),b8 φ l l'→b8 φ cs.toList cs'.toList→
  b8 φ ((l.zipIdx k).foldl (fun cs (x:Value × Nat)=>cs.setIfInBounds (off + x.2) x.1) cs).toList ((l'.zipIdx k).foldl (fun cs (x:Value × Nat)=>cs.setIfInBounds (off + x.2) x.1) cs').toList:=by
 intro l
 induction l with
 | nil=>intro l' k cs cs' h hc; cases h; exact hc
 | cons v l ih=>
  intro l' k cs cs' h hc;cases h with
  | cons _ v' _ l' hv hs=>
   refine ih l' (k + 1) _ _ hs ?_;rw [Array.toList_setIfInBounds,Array.toList_setIfInBounds];exact hc.set _ hv
theorem tw {φ:cK}{place place':Nat→Option (Nat × Nat)} (hp:∀i p,place i=some p→place' i=some p):∀(ps ps':List (Nat × Value)) (cs cs' out:Array Value),zd φ ps ps'→b8 φ cs.toList cs'.toList→
  Instr.fill place cs ps=some out→∃out',Instr.fill place' cs' ps'=some out'∧b8 φ out.toList out'.toList:=by
 intro ps
 induction ps with
 | nil=>
  intro ps' cs cs' out h hc he;cases h;injection he with he;subst he;exact⟨cs',rfl,hc⟩
 | cons x ps ih=>
  intro ps' cs cs' out h hc he;cases h with
  | cons i v v' _ ps' hv hs=>
   have hl:=(fa hv).length;have hl2:=hc.length;simp only [Array.length_toList] at hl hl2;simp only [Instr.fill] at he ⊢;split at he
   ·cases he
   ·rename_i off size hpl;rw [hp _ _ hpl];simp only;rw [← hl,← hl2];split at he
    ·cases he
    ·rename_i hk;rw [if_neg hk];refine ih ps' _ _ out hs ?_ he;have:=JR off _ _ 0 cs cs' (fa hv) hc;rw [← Array.foldl_toList,← Array.foldl_toList,Array.toList_zipIdx,Array.toList_zipIdx];exact this
theorem Eu (off:Nat):∀(l:List (Value × Nat)) (cs:Array Value),(l.foldl (fun cs (x:Value × Nat)=>cs.setIfInBounds (off + x.2) x.1) cs).size=cs.size:=by
 intro l
 induction l with
 | nil=>intro cs; rfl
 | cons y l ih=>intro cs; rw [List.foldl_cons,ih,Array.size_setIfInBounds]
theorem De {place:Nat→Option (Nat × Nat)} : ∀(ps:List (Nat × Value)) (cs out:Array Value),Instr.fill place cs ps=some out→out.size=cs.size:=by
 intro ps
 induction ps with
 | nil=>intro cs out h; injection h with h; rw [h]
 | cons x ps ih=>
  intro cs out h;obtain⟨i,v⟩:=x;simp only [Instr.fill] at h;split at h
  ·cases h
  ·split at h
   ·cases h
   ·rw [ih _ _ h,← Array.foldl_toList];exact Eu _ _ _
end
structure Qk (P:Program):Prop where
 fields:∀(t:TypeId) (fs:Array Field),t < P.types.size→P.underlying t=some (.struct fs)→∀fl∈fs.toList,∃n,bP P fl.type=some n
section
variable {P:Program}{f:Fr}{A A':AS}{nx:cu}{d:Option Tmp}{ty:TypeId}{pos:String}{af:Array Edge}{gd:Option (Nat × Bool)}
theorem Et:∀(l:List Field),(∀fl∈l,∃n,bP P fl.type=some n)→l.mapM (fun f=>(P.info? f.type).map fun i=>(f.offset,i.size))=some (l.map fun f=>(f.offset,(bP P f.type).getD 0)):=by
 intro l
 induction l with
 | nil=>intro _; rfl
 | cons x l ih=>
  intro h;obtain⟨n,hn⟩:=h x (by simp);have e:=ih fun fl hfl=>h fl (by simp [hfl]);unfold bP at hn;cases hi:P.info? x.type with
  | none=>rw [hi] at hn; cases hn
  | some i=>simp [List.mapM_cons,e,hi,bP]
theorem qi {t:TypeId}{z:Value} (h:dR P t=some z):∃i,P.info? t=some i∧i.zero=some z:=by
 unfold dR at h;split at h
 ·rename_i z' hz;unfold lA at h;obtain⟨_,he⟩:=aC h;injection he with he;subst he;cases hi:P.info? t with
  | none=>rw [hi] at hz; cases hz
  | some i=>rw [hi] at hz; exact⟨i,rfl,hz⟩
 ·cases h
theorem yC (hS:Qk P) (hi:bE A) (t:TypeId) (ps:Array (Nat × Operand)) (h:aU P f ⟨d,.build t ps,ty,pos,af,gd⟩ A=some (nx,A')):bQ P f A ⟨d,.build t ps,ty,pos,af,gd⟩ nx A':=by
 have h':lG P f t ps A=some (nx,A'):=h;unfold lG at h';split at h'
 ·rename_i z fs us hz hu hps;obtain⟨htl,h'⟩:=aC h';have htl:=Nat.le_of_ble_eq_true htl;cases hc:Instr.fill (fun i=>(fs[i]?).bind fun fl=>(bP P fl.type).map fun n=>(fl.offset,n)) z.cells us with
  | none=>rw [hc] at h'; cases h'
  | some cs=>
   rw [hc] at h';injection h' with h';injection h' with h1 h2;subst h1;subst h2;obtain⟨it,hit,hzz⟩:=qi hz;have hp:=(zero_rel hz).1;refine aM hi fun φ w a hf=>?_;obtain⟨out,e1,e2⟩:=tw (place':=fun i=>(fs.toList.map fun f=>(f.offset,(bP P f.type).getD 0)).toArray[i]?) (fun i p hip=>by
    cases hg:fs[i]? with
    | none=>rw [hg] at hip; cases hip
    | some fl=>
     rw [hg] at hip;cases hs:bP P fl.type with
     | none=>simp [hs] at hip
     | some n=>
      simp [hs] at hip;subst hip;simp [hg,hs]) _ _ _ _ _ (pW hf _ hps) (fa (cy φ _ _ hp)) hc
   have e:(execOp a.eval ⟨d,.build t ps,ty,pos,af,gd⟩).run P w=.ok (.value (.agg out)) w:=by
    refine bT ?_;refine run_build w t _ out ?_;unfold Program.built;rw [hit,hu];simp only [hzz,Et _ (hS.fields t fs htl hu)];rw [Array.toList_map];exact e1
   rw [e];exact .val _ _ (.agg _ _ e2)
 ·rename_i z k e us hz hu hps;cases hn:bP P e with
  | none=>rw [hn] at h'; cases h'
  | some n=>
   rw [hn] at h';have h'':(Instr.fill (fun i=>some (i * n,n)) z.cells us).map (fun cs=>(cu.val (.agg cs),A))=some (nx,A'):=h';cases hc:Instr.fill (fun i=>some (i * n,n)) z.cells us with
   | none=>rw [hc] at h''; cases h''
   | some cs=>
    rw [hc] at h'';injection h'' with h';injection h' with h1 h2;subst h1;subst h2;obtain⟨it,hit,hzz⟩:=qi hz;obtain⟨ie,hie,hsz,_⟩:=hH hn;have hp:=(zero_rel hz).1;refine aM hi fun φ w a hf=>?_;obtain⟨out,e1,e2⟩:=tw (place':=fun i=>some (i * n,n)) (fun i p hip=>hip) _ _ _ _ _ (pW hf _ hps) (fa (cy φ _ _ hp)) hc;have e:(execOp a.eval ⟨d,.build t ps,ty,pos,af,gd⟩).run P w=.ok (.value (.agg out)) w:=by
     refine bT ?_;refine run_build w t _ out ?_;unfold Program.built;rw [hit,hu];simp only [hzz,hie,hsz];rw [Array.toList_map];exact e1
    rw [e];exact .val _ _ (.agg _ _ e2)
 ·cases h'
theorem K8 {α:Type} (l:List α) (n:Nat):∀(k i:Nat),l.length=n→i < k * n→(List.replicate k l).flatten[i]?=l[i % n]?:=by
 intro k
 induction k with
 | zero=>intro i _ h; omega
 | succ k ih=>
  intro i hl h;rw [List.replicate_succ,List.flatten_cons,List.getElem?_append];split
  ·rename_i hlt;rw [hl] at hlt;rw [Nat.mod_eq_of_lt hlt]
  ·rename_i hge;rw [hl] at hge ⊢;rw [Nat.succ_mul] at h;rw [ih (i - n) hl (by omega)];congr 1;exact (Nat.mod_eq_sub_mod (by omega)).symm
theorem Gu (z:Value) (k n:Nat) (hz:z.cells.size=n):(Array.range (k * n)).map (z.cells[· % z.cells.size]!)=(List.replicate k z.cells.toList).flatten.toArray:=by
 apply Array.ext';rw [Array.toList_map,Array.toList_range];apply List.ext_getElem?;intro i;rw [List.getElem?_map];show _=(List.replicate k z.cells.toList).flatten[i]?;by_cases hi:i < k * n
 ·rw [K8 _ n k i (by rw [Array.length_toList]; exact hz) hi];have hn : 0 < n:=by
   rcases Nat.eq_zero_or_pos n with h | h
   ·subst h; omega
   ·exact h
  have hm:i % n < z.cells.size:=by rw [hz]; exact Nat.mod_lt _ hn
  rw [List.getElem?_range hi];simp only [Option.map_some,hz];rw [getElem!_pos z.cells (i % n) hm,Array.getElem?_toList,Array.getElem?_eq_getElem hm]
 ·rw [List.getElem?_eq_none (by rw [List.length_range]; omega),List.getElem?_eq_none (by simp [hz]; omega)];rfl
theorem sY (w:World) (t e:TypeId) (len:Nat) (parts:Array (Nat × Value)) (cells:Array Value) (ie:TypeInfo) (z:Value) (hs:z.cells.size=ie.size)
  (hu:P.underlying t=some (.slice e)) (hie:P.info? e=some ie) (hz:ie.zero=some z) (hsmall:¬ len * ie.size > 2 ^ 24)
  (h:Instr.fill (fun i=>some (i * ie.size,ie.size)) (List.replicate len z.cells.toList).flatten.toArray parts.toList=some cells) :
  (Instr.buildSlice t len parts).run P w=.ok (.slice (some ⟨w.heap.size,0,none⟩) len len) (w.alloc (.cells cells e)):=by
 by_cases hp:len * ie.size=0
 ·have e0:(List.replicate len z.cells.toList).flatten.toArray = #[]:=by rw [← Gu z len ie.size hs,hp]; simp
  rw [e0] at h;have r0:Array.range 0 = #[]:=by simp
  simp [Instr.buildSlice,run_underlying hu,sizeOf,typeInfo,hie,hp,r0,h,Go.newRow]
 ·exact run_buildSlice w t e len parts cells ie z hu hie hz hsmall hp (by rw [Gu z len ie.size hs]; exact h)
theorem JE {φ:cK}{l l':List Value} (h:b8 φ l l'):∀k,b8 φ (List.replicate k l).flatten (List.replicate k l').flatten:=by
 intro k
 induction k with
 | zero=>exact .nil
 | succ k ih=>rw [List.replicate_succ,List.flatten_cons,List.replicate_succ,List.flatten_cons]; exact h.append ih
theorem qb (hi:bE A) (hn:A'.next≤A'.next) (t:TypeId) (len:Nat) (ps:Array (Nat × Operand)) (h:aU P f ⟨d,.buildSlice t len ps,ty,pos,af,gd⟩ A=some (nx,A')):bQ P f A ⟨d,.buildSlice t len ps,ty,pos,af,gd⟩ nx A':=by
 have h':ei P f t len ps A=some (nx,A'):=h;unfold ei at h';split at h'
 ·rename_i el hu;split at h'
  ·rename_i z n us hz hsz hps;split at h'
   ·rename_i hsm;simp only [Bool.and_eq_true] at hsm;have hzs:z.cells.size=n:=by rw [← Array.length_toList]; exact Nat.eq_of_beq_eq_true hsm.2
    have hsm:len * n≤1048576:=Nat.le_of_ble_eq_true hsm.1;cases hc:Instr.fill (fun i=>some (i * n,n)) (List.replicate len z.cells.toList).flatten.toArray us with
    | none=>rw [hc] at h'; cases h'
    | some cs=>
     rw [hc] at h';injection h' with h';injection h' with h1 h2;subst h1;subst h2;obtain⟨ie,hie,hzz⟩:=qi hz;obtain⟨ie',hie',hsz',hco⟩:=hH hsz;obtain rfl:ie=ie':=by rw [hie] at hie'; injection hie'
     have hp:=(zero_rel hz).1;rw [aY] at hn;refine⟨gC hi hn _ _,fun φ T w a hf hr _ hfr=>?_⟩;have hzc:b8 φ (List.replicate len z.cells.toList).flatten (List.replicate len z.cells.toList).flatten:=by
      exact JE (fa (cy φ _ _ hp)) len
     obtain⟨out,e1,e2⟩:=tw (place':=fun i=>some (i * n,n)) (fun i p hip=>hip) _ _ _ _ _ (pW hf _ hps) hzc hc;obtain⟨φ',g1,g2⟩:=jt hi (by rw [aY]; exact hn) hr hfr e2;refine⟨φ',_,g2,?_⟩;have e:(execOp a.eval ⟨d,.buildSlice t len ps,ty,pos,af,gd⟩).run P w=.ok (.value (.slice (some ⟨w.heap.size,0,none⟩) len len)) (w.alloc (.cells out.toList.toArray el)):=by
      refine bT ?_;rw [Array.toArray_toList];refine sY w t el len _ out ie z (by rw [hzs,hsz']) hu hie hzz (by rw [hsz']; omega) ?_;rw [Array.toList_map,hsz'];exact e1
     rw [e];refine .val _ _ (.slice _ 0 len len len _ _ g1 (Nat.le_refl _) (Nat.le_refl _) (.inr rfl) ?_);have q1:=De _ _ _ hc;have q2:=e2.length;simp only [Array.length_toList] at q2;show 0 + len * P.cellsOf el≤out.toList.length;rw [hco,Array.length_toList,← q2,q1];simp [hzs]
   ·cases h'
  ·cases h'
 ·cases h'
end
def OV:eD→Bool
 | .row _ _ _ _ _=>false
 | _=>true
theorem zt {o:eD} (h:OV o=true) (b:Nat):cm b o=b:=by cases o<;>first | rfl | cases h
theorem bG.put {P:Program}{φ:cK}{T:Nat→Prop}{A:AS}{w:World}{b:Nat}{o o1:eD}{x x1:Obj}{i:tI} (hi:bE A) (hn:A.next≤A.next) (h:gz P φ T A w) (hT:T b) (hb:A.heap.get b=some o) (ho:OV o=true) (ho1:OV o1=true)
  (hφ:φ b=some i) (hx:w.heap[i.blk]?=some x) (hox:mU P φ (A.fz.get b) b i o x) (h1:mU P φ (A.fz.get b) b i o1 x1) :
  bG P φ T A (lF (bO (A.put b o1) b) b) w { w with heap:=w.heap.setIfInBounds i.blk x1 } φ:=by
 have hl:=(hi.lt _ _ hb).1;have hf:ir b:=lT (by omega);have hlt:i.blk < w.heap.size:=h.blk _ _ hφ;have hcls:i.cls=b:=by rw [hox.cls,zt ho]
 rw [gq,aB,dq];refine⟨fun _ _ h=>h,fun _ _=>rfl,⟨fun y j hy=>?_,h.inj,fun y p hy hlv hTy=>?_,h.al,h.glob,h.root⟩,fun y j hy _=>⟨y,j,hy,rfl,rfl⟩,?_,fun k hk hw=>?_,rfl,rfl,rfl⟩
 ·show j.blk < (w.heap.setIfInBounds i.blk x1).size;rw [Array.size_setIfInBounds];exact h.blk _ _ hy
 ·have hy':(Tr.set o1 40 A.heap b).get y=some p:=hy;rw [Tr.get_set _ _ _ _ hf] at hy';split at hy'
  ·rename_i he;subst he;injection hy' with hy';subst hy';refine⟨i,x1,hφ,?_,?_⟩
   ·show (w.heap.setIfInBounds i.blk x1)[i.blk]?=_;rw [Array.getElem?_setIfInBounds,if_pos rfl,if_pos hlt]
   ·rw [zt ho1]; exact h1
  ·rename_i hne;have hTy':T (cm y p):=hTy.elim id fun hc=>by have:A.next≤cm y p∧cm y p < A.next:=hc; omega
   obtain⟨j,q,e1,e2,e3⟩:=h.obj y p hy' hlv hTy';refine⟨j,q,e1,?_,e3⟩;show (w.heap.setIfInBounds i.blk x1)[j.blk]?=_;rw [Array.getElem?_setIfInBounds,if_neg ?_]
   ·exact e2
   ·intro he;have hc:=(h.inj _ _ _ _ hφ e1 he).1;rw [hcls,e3.cls] at hc;rw [← he,hx] at e2;injection e2 with e2;subst e2;cases e3 with
    | row=>
     cases hox;cases ho
    | map=>exact hne hc.symm
    | iter=>exact hne hc.symm
 ·show w.heap.size≤(w.heap.setIfInBounds i.blk x1).size;rw [Array.size_setIfInBounds];exact Nat.le_refl _
 ·show (w.heap.setIfInBounds i.blk x1)[k]?=_;rw [Array.getElem?_setIfInBounds,if_neg];intro he;have:=hw b i hφ he;rw [hcls] at this;rw [cg] at this;simp at this
section
variable {P:Program}{f:Fr}{A A':AS}{nx:cu}{d:Option Tmp}{ty:TypeId}{pos:String}{af:Array Edge}{gd:Option (Nat × Bool)}
theorem uA (hi:bE A) (hn:A'.next≤A'.next) (t:TypeId) (r:Option Operand) (h:aU P f ⟨d,.makeMap t r,ty,pos,af,gd⟩ A=some (nx,A')):bQ P f A ⟨d,.makeMap t r,ty,pos,af,gd⟩ nx A':=by
 cases r with
 | some _=>cases h
 | none=>
  have h':some (cu.val (.map (some A.next)),A.new fun _=>.map [] 0)=some (nx,A'):=h;injection h' with h';injection h' with h1 h2;subst h1;subst h2;rw [ke] at hn;refine⟨Ab hi hn _ rfl,fun φ T w a hf hr _ hfr=>?_⟩;obtain⟨φ',e1,e2⟩:=bG.new hi hn hr (hfr _ (Nat.le_refl _) (by rw [ke]; omega)) (fun _=>.map [] 0) rfl (.map #[] 0) 0 0 0 0 rfl fun φ' he hp=>.map _ _ _ rfl .nil;refine⟨φ',_,e2,?_⟩;exact .val _ _ (.map _ _ e1)
theorem yV (hi:bE A) (hn:A'.next≤A'.next) (t:TypeId) (x:Operand) (h:aU P f ⟨d,.range t x,ty,pos,af,gd⟩ A=some (nx,A')):bQ P f A ⟨d,.range t x,ty,pos,af,gd⟩ nx A':=by
 have h':rS P t (f.eval x) A=some (nx,A'):=h;unfold rS at h';split at h'
 ·rename_i b hu hx;injection h' with h';injection h' with h1 h2;subst h1;subst h2;rw [ke] at hn;refine⟨Ab hi hn _ rfl,fun φ T w a hf hr _ hfr=>?_⟩;obtain⟨φ',e1,e2⟩:=bG.new hi hn hr (hfr _ (Nat.le_refl _) (by rw [ke]; omega)) (fun _=>.iter b 0) rfl (.stringIter b 0) 0 0 0 0 rfl fun φ' he hp=>.iter _ _ rfl rfl;refine⟨φ',_,e2,?_⟩;have hv:=hf.eval hx;generalize hq:a.eval x=q at hv;cases hv;have e:(execOp a.eval ⟨d,.range t x,ty,pos,af,gd⟩).run P w=.ok (.value (.pointer (some ⟨w.heap.size,0,none⟩))) (w.alloc (.stringIter b 0)):=by
   refine bT ?_;rw [hq];exact run_range_string w t b hu
  rw [e];exact .val _ _ (.ptr _ 0 _ e1)
 ·cases h'
theorem zH (hi:bE A) (hn:A'.next≤A'.next) (it:Operand) (s:Bool) (h:aU P f ⟨d,.next it s,ty,pos,af,gd⟩ A=some (nx,A')):bQ P f A ⟨d,.next it s,ty,pos,af,gd⟩ nx A':=by
 have h':xX (f.eval it) s A=some (nx,A'):=h;unfold xX at h';split at h'
 ·rename_i b hx;split at h'
  ·rename_i st p hb;have hl:=(hi.lt _ _ hb).1;unfold Al at h';rcases eo h' with ⟨hlt,h1⟩ | ⟨hlt,h1⟩
   ·injection h1 with h1;injection h1 with h1 h2;subst h1;subst h2;refine⟨fd hi hl,fun φ T w a hf hr hT _=>⟨φ,w,by rw [aB]; exact .refl hr rfl rfl rfl rfl rfl rfl rfl,?_⟩⟩;have hTb:T b:=hT b hl (.inl (by rw [aB,cg]; simp));obtain⟨i,q,e1,e2,e3⟩:=hr.obj b _ hb rfl hTb;cases e3 with
    | iter _ _ hc hs=>
     have hv:=hf.eval hx;generalize hq:a.eval it=v at hv;cases hv with
     | ptr _ _ j hj=>
      rw [e1] at hj;injection hj with hj;subst hj;have hp:¬ p < st.size:=by intro hh; rw [Nat.ble_eq_true_of_le hh] at hlt; cases hlt
      have e:(execOp a.eval ⟨d,.next it true,ty,pos,af,gd⟩).run P w=.ok (.value (.tuple #[.bool false])) w:=by
       refine bT ?_;rw [hq,hs];simp [Instr.next,getObj,Sem.run,e2,hp]
      rw [e];exact .val _ _ (.tuple _ _ (.cons _ _ _ _ (.bool _) .nil))
   ·injection h1 with h1;injection h1 with h1 h2;subst h1;subst h2;have hn':A.next≤A.next:=by rw [gq,aB,dq] at hn; exact hn
    have hp:p < st.size:=Nat.le_of_ble_eq_true hlt;refine⟨EQ hi hn' hb rfl rfl (by intros; simp) (by intros; simp),fun φ T w a hf hr hT _=>?_⟩;have hTb:T b:=hT b hl (.inl (by rw [gq,aB,dq,cg]; simp));obtain⟨i,q,e1,e2,e3⟩:=hr.obj b _ hb rfl hTb;have e3':=e3;cases e3 with
    | iter _ _ hc hs=>
     have hv:=hf.eval hx;generalize hq:a.eval it=v at hv;cases hv with
     | ptr _ _ j hj=>
      rw [e1] at hj;injection hj with hj;subst hj;refine⟨φ,_,bG.put hi hn' hr hTb hb rfl rfl e1 e2 e3' (.iter st (p + (Utf8.decode st p).2) hc hs),?_⟩;have e:(execOp a.eval ⟨d,.next it true,ty,pos,af,gd⟩).run P w=.ok (.value (.tuple #[.bool true,.int .i64 p,.int .i32 (Utf8.decode st p).1])) { w with heap:=w.heap.setIfInBounds i.blk (.stringIter st (p + (Utf8.decode st p).2)) }:=by
       refine bT ?_;rw [hq,hs];simp [Instr.next,getObj,setObj,Sem.run,e2,hp,goInt,Result.andThen]
      rw [e];exact .val _ _ (.tuple _ _ (.cons _ _ _ _ (.bool _) (.cons _ _ _ _ (.int _ _) (.cons _ _ _ _ (.int _ _) .nil))))
  ·cases h'
 ·cases h'
end
section
variable {P:Program}{f:Fr}{A A':AS}{nx:cu}{d:Option Tmp}{ty:TypeId}{pos:String}{af:Array Edge}{gd:Option (Nat × Bool)}
theorem E7 {kt:TypeId}{dd:TypeDesc}{k:Value} (hd:P.underlying kt=some dd) (hk:y6 dd k=true) (e:Bool) (n:Nat) (w:World):(Instr.checkKey e (n + 1) kt k).run P w=.ok () w:=by
 unfold y6 at hk;split at hk
 ·simp [Instr.checkKey,run_underlying hd,Result.andThen]
 ·simp [Instr.checkKey,run_underlying hd,Result.andThen]
 ·simp [Instr.checkKey,run_underlying hd,Result.andThen]
 ·cases hk
theorem rU {kt:TypeId}{dd:TypeDesc}{k:Value} (hd:P.underlying kt=some dd) (hk:y6 dd k=true) (e:Bool) (w:World):(Instr.checkKey e 10000 kt k).run P w=.ok () w:=E7 hd hk e 9999 w
theorem rO {kt:TypeId}{k:Value}{es:List MapEntry}{r:Option (Nat × Value)} (h:D6 P kt k es=some r):∃dd,P.underlying kt=some dd∧y6 dd k=true∧Instr.findNow dd k es 0=some r:=by
 unfold D6 at h;split at h
 ·rename_i dd hd;obtain⟨h1,h2⟩:=aC h;exact⟨dd,hd,h1,h2⟩
 ·cases h
theorem tQ {φ:cK}{dd:TypeDesc}{k:Value} : ∀{l l':List MapEntry} (i:Nat),pJ φ l l'→
  (Instr.findNow dd k l i=some none→Instr.findNow dd k l' i=some none)∧(∀j v,Instr.findNow dd k l i=some (some (j,v))→∃v',Instr.findNow dd k l' i=some (some (j,v'))∧dE φ v v'):=by
 intro l l' i h
 induction h generalizing i with
 | nil=>exact⟨fun _=>rfl,fun j v h=>by cases h⟩
 | cons q v v' n l l' hk hv _ ih=>
  simp only [Instr.findNow];cases hs:Instr.sameNow dd k q with
  | none=>exact⟨fun h=>(by cases h),fun j v h=>(by cases h)⟩
  | some b=>
   cases b with
   | true=>
    refine⟨fun h=>(by cases h),fun j u h=>?_⟩;injection h with h;injection h with h;injection h with h1 h2;subst h1;subst h2;exact⟨v',rfl,hv⟩
   | false=>exact ih (i + 1)
theorem Cu {φ:cK} (ok:Bool) {v v':Value} (h:dE φ v v') (b:Bool):dE φ (UL ok v b) (if ok=true then .tuple #[v',.bool b] else v'):=by
 cases ok with
 | false=>exact h
 | true=>exact .tuple _ _ (.cons _ _ _ _ h (.cons _ _ _ _ (.bool _) .nil))
theorem wk (hi:bE A) (t:TypeId) (x k:Operand) (ok:Bool) (h:aU P f ⟨d,.lookup t x k ok,ty,pos,af,gd⟩ A=some (nx,A')):bQ P f A ⟨d,.lookup t x k ok,ty,pos,af,gd⟩ nx A':=by
 have h':ot P t (f.eval x) (f.eval k) ok A=some (nx,A'):=h;unfold ot at h';split at h'
 ·rename_i kt et b kv hu hx hk;split at h'
  ·rename_i es clk hb;have hl:=(hi.lt _ _ hb).1;split at h'
   ·rename_i hpl;have main:∀(φ:cK) (T:Nat→Prop) (w:World) (a:Act),dm φ f a→gz P φ T A w→fU A (bO A b) T→∃i es',w.heap[i]?=some (.map es' clk)∧pJ φ es es'.toList∧a.eval x=.map (some i)∧a.eval k=kv:=by
     intro φ T w a hf hr hT;have hTb:T b:=hT b hl (.inl (by rw [aB,cg]; simp));obtain⟨i,q,e1,e2,e3⟩:=hr.obj b _ hb rfl hTb;cases e3 with
     | map _ _ es' hc he=>
      have hv:=hf.eval hx;generalize hq:a.eval x=v at hv;cases hv with
      | map _ j hj=>
       rw [e1] at hj;injection hj with hj;subst hj;exact⟨i.blk,es',e2,he,rfl,cN φ _ _ _ hpl (hf.eval hk)⟩
    split at h'
    ·rename_i j v hfk;obtain⟨dd,hd,hko,hfn⟩:=rO hfk;injection h' with h';injection h' with h1 h2;subst h1;subst h2;refine⟨fd hi hl,fun φ T w a hf hr hT _=>⟨φ,w,by rw [aB]; exact .refl hr rfl rfl rfl rfl rfl rfl rfl,?_⟩⟩;obtain⟨i,es',g1,g2,g3,g4⟩:=main φ T w a hf hr hT;obtain⟨v',g5,g6⟩:=(tQ 0 g2).2 j v hfn;have e:(execOp a.eval ⟨d,.lookup t x k ok,ty,pos,af,gd⟩).run P w=.ok (.value (if ok=true then .tuple #[v',.bool true] else v')) w:=by
      refine bT ?_;rw [g3,g4];simp [Instr.lookup,run_underlying hu,MapKept.run_getObj_map g1,rU hd hko,MapKept.run_findKey hd g5,Result.andThen]
     rw [e];exact .val _ _ (Cu ok g6 true)
    ·rename_i hfk;obtain⟨dd,hd,hko,hfn⟩:=rO hfk;split at h'
     ·rename_i z hz;injection h' with h';injection h' with h1 h2;subst h1;subst h2;refine⟨fd hi hl,fun φ T w a hf hr hT _=>⟨φ,w,by rw [aB]; exact .refl hr rfl rfl rfl rfl rfl rfl rfl,?_⟩⟩;obtain⟨i,es',g1,g2,g3,g4⟩:=main φ T w a hf hr hT;have g5:=(tQ 0 g2).1 hfn;obtain⟨hp,hzr⟩:=zero_rel hz;have e:(execOp a.eval ⟨d,.lookup t x k ok,ty,pos,af,gd⟩).run P w=.ok (.value (if ok=true then .tuple #[z,.bool false] else z)) w:=by
       refine bT ?_;rw [g3,g4];simp [Instr.lookup,run_underlying hu,MapKept.run_getObj_map g1,rU hd hko,MapKept.run_findKey hd g5,hzr w,Result.andThen]
      rw [e];exact .val _ _ (Cu ok (cy φ _ _ hp) false)
     ·cases h'
    ·cases h'
   ·cases h'
  ·cases h'
 ·cases h'
theorem pJ.snoc {φ:cK}{l l':List MapEntry} (h:pJ φ l l') (k v v':Value) (n:Nat) (hk:plain 50 k=true) (hv:dE φ v v'):pJ φ (l ++ [⟨k,v,n⟩]) (l' ++ [⟨k,v',n⟩]):=by
 induction h with
 | nil=>exact .cons _ _ _ _ _ _ hk hv .nil
 | cons q u u' m l l' hq hu _ ih=>exact .cons _ _ _ _ _ _ hq hu ih
theorem ri (hi:bE A) (hn:A'.next≤A'.next) (t:TypeId) (m k x:Operand) (h:aU P f ⟨d,.mapUpdate t m k x,ty,pos,af,gd⟩ A=some (nx,A')):bQ P f A ⟨d,.mapUpdate t m k x,ty,pos,af,gd⟩ nx A':=by
 have h':iW P t (f.eval m) (f.eval k) (f.eval x) A=some (nx,A'):=h;unfold iW at h';split at h'
 ·rename_i kt et b kv xv hu hm hk hx;split at h'
  ·rename_i es clk hb;have hl:=(hi.lt _ _ hb).1;split at h'
   ·rename_i hpl;split at h'
    ·rename_i hfk;obtain⟨dd,hd,hko,hfn⟩:=rO hfk;injection h' with h';injection h' with h1 h2;subst h1;subst h2;have hn':A.next≤A.next:=by rw [gq,aB,dq] at hn; exact hn
     refine⟨EQ hi hn' hb rfl rfl (by intros; simp) (by intros; simp),fun φ T w a hf hr hT _=>?_⟩;have hTb:T b:=hT b hl (.inl (by rw [gq,aB,dq,cg]; simp));obtain⟨i,q,e1,e2,e3⟩:=hr.obj b _ hb rfl hTb;have e3':=e3;cases e3 with
     | map _ _ es' hc he=>
      have hv:=hf.eval hm;generalize hq:a.eval m=v at hv;cases hv with
      | map _ j hj=>
       rw [e1] at hj;injection hj with hj;subst hj;have hkk:a.eval k=kv:=cN φ _ _ _ hpl (hf.eval hk);have g5:=(tQ 0 he).1 hfn;refine⟨φ,_,bG.put hi hn' hr hTb hb rfl rfl e1 e2 e3' (.map (es ++ [{ key:=kv,val:=xv,born:=clk }]) (clk + 1) (es'.push { key:=kv,val:=a.eval x,born:=clk }) hc (by rw [Array.toList_push]; exact he.snoc _ _ _ _ hpl (hf.eval hx))),?_⟩;have e:(Instr.mapUpdate t (.map (some i.blk)) kv (a.eval x)).run P w=.ok () { w with heap:=w.heap.setIfInBounds i.blk (.map (es'.push { key:=kv,val:=a.eval x,born:=clk }) (clk + 1)) }:=by
        simp [Instr.mapUpdate,run_underlying hu,MapKept.run_getObj_map e2,rU hd hko,MapKept.run_findKey hd g5,MapKept.run_setObj_map _ e2,Result.andThen]
       have e':(execOp a.eval ⟨d,.mapUpdate t m k x,ty,pos,af,gd⟩).run P w=.ok .skip { w with heap:=w.heap.setIfInBounds i.blk (.map (es'.push { key:=kv,val:=a.eval x,born:=clk }) (clk + 1)) }:=by
        simp only [execOp,hq,hkk,Sem.run_bind,e,Result.andThen];rfl
       rw [e'];exact .skip
    ·cases h'
   ·cases h'
  ·cases h'
 ·cases h'
end
end Go.EvL
