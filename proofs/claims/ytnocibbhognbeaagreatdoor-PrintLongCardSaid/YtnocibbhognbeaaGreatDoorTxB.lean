/- What functions of the program and of the reference compute, on values. No statement is proved here. -/
import Derived.Test.YtnocibbhognbeaaGreatDoorTxA
import Derived.Lib.Bytealg
set_option linter.unusedSimpArgs false
set_option linter.unusedVariables false
namespace Go.PE
open Go Go.EvL Go.Mir
/-- what omega shows -/
structure Ar (p : Prop) : Prop where
  h : p
/-- a branch -/
def DI {α : Type} (p : Prop) [Decidable p] (A : p → α) (B : ¬ p → α) : α := if h : p then A h else B h
inductive KI where
  | s (b : PCode)
  | b (id : Nat)
section
variable (P : Program) (Γ : Nat → Option PFn) (ext : PCallF) (F : ZC → Option ZR)
noncomputable def kz : List KI → Option ZC → Option ZC
  | [], r => r
  | .s b :: k, r => kz k (zseq r (zcode P Γ ext b))
  | .b id :: k, r => kz k (zblk id r)
noncomputable def zfin (k : List KI) (r : Option ZC) : Option ZR := (kz P Γ ext k r).bind F
noncomputable def zr (c : PCode) (f : PFr) (s : PS) (k : List KI) : Option ZR := zfin P Γ ext F k (zcode P Γ ext c f s)
noncomputable def rl (id : Nat) (b r : PCode) (f : PFr) (s : PS) (k : List KI) : Option ZR := zr P Γ ext F (.seq (.block id (.loop b)) r) f s k
noncomputable def rn (f : PFr) (s : PS) (k : List KI) : Option ZR := zfin P Γ ext F k (some (.go .normal f s))
noncomputable def re (id : Nat) (f : PFr) (s : PS) (k : List KI) : Option ZR := zfin P Γ ext F k (some (.go (.exit id) f s))
noncomputable def rops (l : List PI) (f : PFr) (s : PS) (k : List KI) : Option ZR := zfin P Γ ext F k (zops P (zcall P Γ ext) l f s)
noncomputable def ra (r : Option ZR) (d : Option Nat) (f : PFr) (l : List PI) (k : List KI) : Option ZR := r.bind fun
  | .ok v s' => rops P Γ ext F l (setD f d v) s' k
  | .pan v s' => F (.pan v f s')
noncomputable def rg (v : PV) (w : Bool) (d : Option Nat) (o : POp) (f : PFr) (s : PS) (l : List PI) (k : List KI) : Option ZR := match v with
  | .sc (.bool b) => if b = w then ra P Γ ext F (zact P (zcall P Γ ext) f s o) d f l k else rops P Γ ext F l (setD f d (.sc undef)) s k
  | .sc (.tuple _) => rops P Γ ext F l (setD f d (.sc undef)) s k
  | _ => none
noncomputable def gk (p : Prop) [Decidable p] (A : p → Option ZR) (d : Option Nat) (f : PFr) (s : PS) (l : List PI) (k : List KI) : Option ZR :=
  if h : p then ra P Γ ext F (A h) d f l k else rops P Γ ext F l (setD f d (.sc undef)) s k
noncomputable def rc (v : PV) (a b : PCode) (f : PFr) (s : PS) (k : List KI) : Option ZR := match v with
  | .sc (.bool true) => zr P Γ ext F a f s k
  | .sc (.bool false) => zr P Γ ext F b f s k
  | _ => none
noncomputable def zdr (b : Bool) (l : List (PI × List Nat × List Nat)) (j : Nat) (acc : List (Nat × Eff × Nat × Nat)) (f : PFr) (s : PS) (k : List KI) : Option ZR := zfin P Γ ext F k (zdraw P (puOf Γ) (zcall P Γ ext) b l j acc f s)
noncomputable def zda (r : Option ZR) (b : Bool) (d : Option Nat) (o : POp) (E : Eff) (pu : Bool) (un : List Nat) (l : List (PI × List Nat × List Nat)) (j : Nat) (acc : List (Nat × Eff × Nat × Nat)) (f : PFr) (s : PS) (k : List KI) : Option ZR := r.bind fun
  | .ok v s' => if (pu = true ∨ barP un j l = true) ∧ OkAll un E acc then zdr P Γ ext F b l (j + 1) ((j, E, s.n, s'.n) :: acc) (setD f d v) s' k else none
  | .pan _ _ => zfin P Γ ext F k (zpan P (zcall P Γ ext) (b && barP un j l) f s o)
end
section
variable {P : Program} {Γ : Nat → Option PFn} {ext : PCallF} {F : ZC → Option ZR}
theorem kz_pan (k : List KI) (v : Value) (f : PFr) (s : PS) : kz P Γ ext k (some (.pan v f s)) = some (.pan v f s) := by
  induction k with
  | nil => rfl
  | cons i k ih => cases i <;> exact ih
theorem kz_ret (k : List KI) (f : PFr) (s : PS) : kz P Γ ext k (some (.go .ret f s)) = some (.go .ret f s) := by
  induction k with
  | nil => rfl
  | cons i k ih => cases i <;> exact ih
theorem kz_none (k : List KI) : kz P Γ ext k none = none := by
  induction k with
  | nil => rfl
  | cons i k ih => cases i <;> exact ih
theorem z_enter {g : Nat} (fn : PFn) (h : Γ g = some fn) (args : List PV) (s : PS) (hl : args.length ≤ fn.nt) : zcall P Γ ext g args s = zr P Γ ext (zleave fn s) fn.body (initP args 0) ⟨s.h, s.n, s.n⟩ [] := zcall_eq h args s hl
/-- results that lie in slots -/
def ZT (res : List Nat) (s0 : PS) : ZC → Option ZR
  | .go (.exit _) _ _ => none
  | .go _ f s => if s0.n ≤ s.w then (frz s0.n s (oneRes (res.map f))).map fun v => .ok v s0 else none
  | .pan v _ s => if s0.n ≤ s.w then some (.pan v s0) else none
theorem resP_tmp (f : PFr) (s : PS) : ∀ l : List Nat, resP f s (l.map .tmp) = some (l.map f)
  | [] => rfl
  | a :: l => by simp only [List.map_cons, resP, resP_tmp f s l, Option.map_some]
theorem ZT_eq {fn : PFn} {res : List Nat} (hr : fn.res = res.map .tmp) (hk : fn.keep = false) (s0 : PS) : zleave fn s0 = ZT res s0 := by
  funext r
  unfold zleave ZT
  have h : ∀ f s, leaveP fn s0 f s = if s0.n ≤ s.w then (frz s0.n s (oneRes (res.map f))).map fun v => (v, s0) else none := fun f s => by
    unfold leaveP
    rw [hr, resP_tmp]
    simp only [Option.bind_some, hk, Bool.false_eq_true, if_false]
  rcases r with ⟨x, f, s⟩ | ⟨v, f, s⟩
  · cases x with
    | exit i => rfl
    | _ =>
      simp only [h]
      split
      · unfold zokR; rw [Option.map_map]; rfl
      · rfl
  · simp only [hk, Bool.false_eq_true, if_false]
theorem zT {g : Nat} {fn : PFn} (res : List Nat) (h : Γ g = some fn) (hr : fn.res = res.map .tmp) (hk : fn.keep = false) (args : List PV) (s : PS) (hl : Nat.ble args.length fn.nt = true) : zcall P Γ ext g args s = zr P Γ ext (ZT res s) fn.body (initP args 0) ⟨s.h, s.n, s.n⟩ [] := by
  rw [z_enter fn h args s (Nat.le_of_ble_eq_true hl), ZT_eq hr hk]
noncomputable def ztk (w : Nat) (s0 : PS) (r : Option PV) : Option ZR := if s0.n ≤ w then r.map fun v => .ok v s0 else none
theorem ZT_r (res : List Nat) (s0 : PS) (f : PFr) (s : PS) : ZT res s0 (.go .ret f s) = ztk s.w s0 (frz s0.n s (oneRes (res.map f))) := rfl
theorem ZT_n (res : List Nat) (s0 : PS) (f : PFr) (s : PS) : ZT res s0 (.go .normal f s) = ztk s.w s0 (frz s0.n s (oneRes (res.map f))) := rfl
noncomputable def ztp (w : Nat) (s0 : PS) (v : Value) : Option ZR := if s0.n ≤ w then some (.pan v s0) else none
theorem ZT_p (res : List Nat) (s0 : PS) (v : Value) (f : PFr) (s : PS) : ZT res s0 (.pan v f s) = ztp s.w s0 v := rfl
theorem ztk_t {w : Nat} {s0 : PS} (h : Ar (s0.n ≤ w)) (v : PV) : ztk w s0 (some v) = some (.ok v s0) := if_pos h.h
theorem ztp_t {w : Nat} {s0 : PS} (h : Ar (s0.n ≤ w)) (v : Value) : ztp w s0 v = some (.pan v s0) := if_pos h.h
theorem setD_s (f : PFr) (d : Nat) (v : PV) : setD f (some d) v = f.set d v := rfl
theorem setD_n (f : PFr) (v : PV) : setD f none v = f := rfl
theorem run_seq (a b : PCode) (f : PFr) (s : PS) (k : List KI) : zr P Γ ext F (.seq a b) f s k = zr P Γ ext F a f s (.s b :: k) := by
  unfold zr; rw [zcode_seq]; rfl
theorem run_block (id : Nat) (b : PCode) (f : PFr) (s : PS) (k : List KI) : zr P Γ ext F (.block id b) f s k = zr P Γ ext F b f s (.b id :: k) := by
  unfold zr; rw [zcode_block]; rfl
theorem run_reg (l : List PI) (f : PFr) (s : PS) (k : List KI) : zr P Γ ext F (.reg l) f s k = rops P Γ ext F l f s k := by
  unfold zr; rw [zcode_reg]; rfl
theorem run_draw (l : List (PI × List Nat × List Nat)) (f : PFr) (s : PS) (k : List KI) : zr P Γ ext F (.draw l) f s k = zdr P Γ ext F true l 0 [] f s k := by
  unfold zr; rw [zcode_draw]; rfl
theorem run_skip (f : PFr) (s : PS) (k : List KI) : zr P Γ ext F .skip f s k = rn P Γ ext F f s k := by
  unfold zr; rw [zcode_skip]; rfl
theorem run_exit (id : Nat) (f : PFr) (s : PS) (k : List KI) : zr P Γ ext F (.exit id) f s k = re P Γ ext F id f s k := by
  unfold zr; rw [zcode_exit]; rfl
theorem run_ret (f : PFr) (s : PS) (k : List KI) : zr P Γ ext F .ret f s k = F (.go .ret f s) := by
  unfold zr; rw [zcode_ret]; unfold zfin; rw [kz_ret]; rfl
theorem run_cond (t : Nat) (a b : PCode) (f : PFr) (s : PS) (k : List KI) : zr P Γ ext F (.cond (.tmp t) a b) f s k = rc P Γ ext F (f t) a b f s k := by
  unfold zr; rw [zcode_cond]; unfold rc
  show zfin P Γ ext F k (zcond (asBool (f t)) _ _) = _
  cases f t with
  | sc v =>
    cases v with
    | bool b => cases b <;> rfl
    | _ => unfold zfin; exact (congrArg (Option.bind · _) (kz_none k))
  | _ => unfold zfin; exact (congrArg (Option.bind · _) (kz_none k))
theorem run_iff (l : List PI) (t : Nat) (a b : PCode) (f : PFr) (s : PS) (k : List KI) : zr P Γ ext F (iff l t a b) f s k = rops P Γ ext F l f s (.s (.cond (.tmp t) a b) :: k) := by
  unfold iff; rw [run_seq, run_reg]
theorem run_sr (l : List PI) (c : PCode) (f : PFr) (s : PS) (k : List KI) : zr P Γ ext F (sr l c) f s k = rops P Γ ext F l f s (.s c :: k) := by
  unfold sr; rw [run_seq, run_reg]
theorem run_lt (id : Nat) (b r : PCode) (f : PFr) (s : PS) (k : List KI) : zr P Γ ext F (lt id b r) f s k = rl P Γ ext F id b r f s k := rfl
theorem rn_s (b : PCode) (f : PFr) (s : PS) (k : List KI) : rn P Γ ext F f s (.s b :: k) = zr P Γ ext F b f s k := rfl
theorem rn_b (id : Nat) (f : PFr) (s : PS) (k : List KI) : rn P Γ ext F f s (.b id :: k) = rn P Γ ext F f s k := rfl
theorem rn_nil (f : PFr) (s : PS) : rn P Γ ext F f s [] = F (.go .normal f s) := rfl
theorem re_s (id : Nat) (b : PCode) (f : PFr) (s : PS) (k : List KI) : re P Γ ext F id f s (.s b :: k) = re P Γ ext F id f s k := rfl
theorem re_b (id j : Nat) (f : PFr) (s : PS) (k : List KI) : re P Γ ext F id f s (.b j :: k) = if id = j then rn P Γ ext F f s k else re P Γ ext F id f s k := by
  show zfin P Γ ext F k (some (if id = j then _ else _)) = _
  split <;> rfl
theorem rops_nil (f : PFr) (s : PS) (k : List KI) : rops P Γ ext F [] f s k = rn P Γ ext F f s k := rfl
theorem rops_u (d : Option Nat) (o : POp) (l : List PI) (f : PFr) (s : PS) (k : List KI) : rops P Γ ext F (⟨d, o, none⟩ :: l) f s k = ra P Γ ext F (zact P (zcall P Γ ext) f s o) d f l k := by
  unfold rops ra
  simp only [zops, guardP]
  cases zact P (zcall P Γ ext) f s o with
  | none => unfold zfin; exact (congrArg (Option.bind · _) (kz_none k))
  | some q =>
    cases q with
    | ok v s' => rfl
    | pan v s' => unfold zfin; exact (congrArg (Option.bind · _) (kz_pan k _ _ _))
theorem rops_g (d : Option Nat) (o : POp) (j : Nat) (w : Bool) (l : List PI) (f : PFr) (s : PS) (k : List KI) : rops P Γ ext F (⟨d, o, some (j, w)⟩ :: l) f s k = rg P Γ ext F (f j) w d o f s l k := by
  have hn : zfin P Γ ext F k none = none := by unfold zfin; exact (congrArg (Option.bind · _) (kz_none k))
  unfold rops rg
  simp only [zops, guardP]
  generalize f j = v at *
  cases v with
  | sc u =>
    cases u with
    | bool b =>
      simp only
      cases hb : (b == w) with
      | false =>
        have hne : b ≠ w := by simpa using hb
        simp only [if_neg hne]
        rfl
      | true =>
        have he : b = w := by simpa using hb
        simp only [if_pos he]
        unfold ra
        cases zact P (zcall P Γ ext) f s o with
        | none => exact hn
        | some q =>
          cases q with
          | ok v s' => rfl
          | pan v s' => unfold zfin; exact (congrArg (Option.bind · _) (kz_pan k _ _ _))
    | tuple x => rfl
    | _ => exact hn
  | _ => exact hn
theorem ra_ok (v : PV) (s : PS) (d : Nat) (f : PFr) (l : List PI) (k : List KI) : ra P Γ ext F (some (.ok v s)) (some d) f l k = rops P Γ ext F l (f.set d v) s k := rfl
theorem ra_ok0 (v : PV) (s : PS) (f : PFr) (l : List PI) (k : List KI) : ra P Γ ext F (some (.ok v s)) none f l k = rops P Γ ext F l f s k := rfl
theorem ra_pan (v : Value) (s : PS) (d : Option Nat) (f : PFr) (l : List PI) (k : List KI) : ra P Γ ext F (some (.pan v s)) d f l k = F (.pan v f s) := rfl
theorem rops_mt (d t : Nat) (l : List PI) (f : PFr) (s : PS) (k : List KI) : rops P Γ ext F (mt d t :: l) f s k = rops P Γ ext F l (f.set d (f t)) s k := rfl
theorem rops_mk (d : Nat) (v : Value) (l : List PI) (f : PFr) (s : PS) (k : List KI) : rops P Γ ext F (mk d v :: l) f s k = rops P Γ ext F l (f.set d (pvOf v)) s k := rfl
theorem rg_t (b : Bool) (d : Option Nat) (o : POp) (f : PFr) (s : PS) (l : List PI) (k : List KI) : rg P Γ ext F (.sc (.bool b)) b d o f s l k = ra P Γ ext F (zact P (zcall P Γ ext) f s o) d f l k := by
  unfold rg; simp
theorem rg_tf (d : Option Nat) (o : POp) (f : PFr) (s : PS) (l : List PI) (k : List KI) : rg P Γ ext F (.sc (.bool true)) false d o f s l k = rops P Γ ext F l (setD f d (.sc undef)) s k := by
  unfold rg; simp
theorem rg_ft (d : Option Nat) (o : POp) (f : PFr) (s : PS) (l : List PI) (k : List KI) : rg P Γ ext F (.sc (.bool false)) true d o f s l k = rops P Γ ext F l (setD f d (.sc undef)) s k := by
  unfold rg; simp
theorem rg_u (x : Array Value) (w : Bool) (d : Option Nat) (o : POp) (f : PFr) (s : PS) (l : List PI) (k : List KI) : rg P Γ ext F (.sc (.tuple x)) w d o f s l k = rops P Γ ext F l (setD f d (.sc undef)) s k := rfl
theorem rg_d (p : Prop) [Decidable p] (d : Option Nat) (o : POp) (f : PFr) (s : PS) (l : List PI) (k : List KI) : rg P Γ ext F (.sc (.bool (decide p))) true d o f s l k = gk P Γ ext F p (fun _ => zact P (zcall P Γ ext) f s o) d f s l k := by
  unfold gk
  split
  · rename_i h; rw [decide_eq_true h, rg_t]
  · rename_i h; rw [decide_eq_false h, rg_ft]
theorem rg_dn (p : Prop) [Decidable p] (d : Option Nat) (o : POp) (f : PFr) (s : PS) (l : List PI) (k : List KI) : rg P Γ ext F (.sc (.bool (decide p))) false d o f s l k = gk P Γ ext F (¬ p) (fun _ => zact P (zcall P Γ ext) f s o) d f s l k := by
  unfold gk
  split
  · rename_i h; rw [decide_eq_false h, rg_t]
  · rename_i h; rw [decide_eq_true (Decidable.not_not.1 h), rg_tf]
/-- what a slot holds that only a guarded operation fills -/
def gv (p : Prop) [Decidable p] (v : PV) : PV := if p then v else .sc undef
theorem gv_t {p : Prop} [Decidable p] (h : p) (v : PV) : gv p v = v := if_pos h
theorem gv_al {p q : Prop} [Decidable p] [Decidable q] (h : p) (v : PV) : gv (p ∧ q) v = gv q v := by
  unfold gv; simp [h]
theorem rg_v (q p : Prop) [Decidable q] [Decidable p] (d : Option Nat) (o : POp) (f : PFr) (s : PS) (l : List PI) (k : List KI) : rg P Γ ext F (gv q (.sc (.bool (decide p)))) true d o f s l k = gk P Γ ext F (q ∧ p) (fun _ => zact P (zcall P Γ ext) f s o) d f s l k := by
  unfold gv
  by_cases hq : q
  · rw [if_pos hq, rg_d]; unfold gk; simp only [hq, true_and]
  · rw [if_neg hq]; unfold gk; simp only [hq, false_and, dif_neg, not_false_eq_true]; rfl
theorem rg_vn (q p : Prop) [Decidable q] [Decidable p] (d : Option Nat) (o : POp) (f : PFr) (s : PS) (l : List PI) (k : List KI) : rg P Γ ext F (gv q (.sc (.bool (decide p)))) false d o f s l k = gk P Γ ext F (q ∧ ¬ p) (fun _ => zact P (zcall P Γ ext) f s o) d f s l k := by
  unfold gv
  by_cases hq : q
  · rw [if_pos hq, rg_dn]; unfold gk; simp only [hq, true_and]
  · rw [if_neg hq]; unfold gk; simp only [hq, false_and, dif_neg, not_false_eq_true]; rfl
theorem gk_ok (p : Prop) [Decidable p] (v : PV) (s : PS) (d : Nat) (f : PFr) (l : List PI) (k : List KI) : gk P Γ ext F p (fun _ => some (.ok v s)) (some d) f s l k = rops P Γ ext F l (f.set d (gv p v)) s k := by
  unfold gk gv
  split <;> rfl
theorem gk_t {p : Prop} [Decidable p] (h : Ar p) (A : p → Option ZR) (d : Option Nat) (f : PFr) (s : PS) (l : List PI) (k : List KI) : gk P Γ ext F p A d f s l k = ra P Γ ext F (A h.h) d f l k := dif_pos h.h
theorem gk_f {p : Prop} [Decidable p] (h : Ar (¬ p)) (A : p → Option ZR) (d : Option Nat) (f : PFr) (s : PS) (l : List PI) (k : List KI) : gk P Γ ext F p A d f s l k = rops P Γ ext F l (setD f d (.sc undef)) s k := dif_neg h.h
theorem ra_d (p : Prop) [Decidable p] (A : p → Option ZR) (B : ¬ p → Option ZR) (d : Option Nat) (f : PFr) (l : List PI) (k : List KI) : ra P Γ ext F (DI p A B) d f l k = DI p (fun h => ra P Γ ext F (A h) d f l k) fun h => ra P Γ ext F (B h) d f l k := by
  unfold DI; split <;> rfl
def lk (id : Nat) (b r : PCode) (k : List KI) : List KI := .s (.loop b) :: .b id :: .s r :: k
theorem rn_lk (id : Nat) (b r : PCode) (f : PFr) (s : PS) (k : List KI) : rn P Γ ext F f s (lk id b r k) = rl P Γ ext F id b r f s k := by
  unfold rl; rw [run_seq, run_block]; rfl
theorem re_lk (j id : Nat) (b r : PCode) (f : PFr) (s : PS) (k : List KI) : re P Γ ext F j f s (lk id b r k) = if j = id then zr P Γ ext F r f s k else re P Γ ext F j f s k := by
  unfold lk; rw [re_s, re_b, rn_s, re_s]
theorem run_loop (id : Nat) (b r : PCode) (f : PFr) (s : PS) (k : List KI) : zr P Γ ext F (.loop b) f s (.b id :: .s r :: k) = rl P Γ ext F id b r f s k := by
  unfold rl; rw [run_seq, run_block]
theorem rl_step (id : Nat) (b r : PCode) (f : PFr) (s : PS) (k : List KI) : rl P Γ ext F id b r f s k = zr P Γ ext F b f s (lk id b r k) := by
  unfold rl; rw [run_seq, run_block]
  unfold zr lk
  rw [zcode_loop]
  rfl
theorem rc_t (a b : PCode) (f : PFr) (s : PS) (k : List KI) : rc P Γ ext F (.sc (.bool true)) a b f s k = zr P Γ ext F a f s k := rfl
theorem rc_f (a b : PCode) (f : PFr) (s : PS) (k : List KI) : rc P Γ ext F (.sc (.bool false)) a b f s k = zr P Γ ext F b f s k := rfl
theorem rc_d (p : Prop) [Decidable p] (a b : PCode) (f : PFr) (s : PS) (k : List KI) : rc P Γ ext F (.sc (.bool (decide p))) a b f s k = DI p (fun _ => zr P Γ ext F a f s k) fun _ => zr P Γ ext F b f s k := by
  unfold DI; split
  · rename_i h; rw [decide_eq_true h]; rfl
  · rename_i h; rw [decide_eq_false h]; rfl
theorem dt {α : Type} {p : Prop} [Decidable p] {A : p → α} {B : ¬ p → α} (h : Ar p) : DI p A B = A h.h := dif_pos h.h
theorem df {α : Type} {p : Prop} [Decidable p] {A : p → α} {B : ¬ p → α} (h : Ar (¬ p)) : DI p A B = B h.h := dif_neg h.h
theorem zT_case {g : Nat} {fn : PFn} {args : List PV} {s : PS} {B : PCode} {R : Option ZR} (res : List Nat) (h : Γ g = some fn) (hr : fn.res = res.map .tmp) (hk : fn.keep = false) (hl : Nat.ble args.length fn.nt = true) (hb : fn.body = B)
    (hR : ∀ R', R' = R → zr P Γ ext (ZT res s) B (initP args 0) ⟨s.h, s.n, s.n⟩ [] = R') : zcall P Γ ext g args s = R := by
  rw [zT res h hr hk args s hl, hb]; exact hR R rfl
theorem rl_case {id : Nat} {b B r C : PCode} {f : PFr} {s : PS} {k : List KI} {R : Option ZR} (hb : b = B) (hr : r = C) (hR : (∀ f s k, zr P Γ ext F r f s k = zr P Γ ext F C f s k) → ∀ R', R' = R → zr P Γ ext F B f s (lk id b r k) = R') : rl P Γ ext F id b r f s k = R := by
  rw [rl_step]; subst hb; exact hR (fun _ _ _ => by rw [hr]) R rfl
variable {c : ZCallF}
def zv (r : Option PV) (s : PS) : Option ZR := zokR (r.map fun v => (v, s))
theorem zv_s (v : PV) (s : PS) : zv (some v) s = some (.ok v s) := rfl
def zvs (r : Option (PV × PS)) : Option ZR := zokR r
theorem zvs_s (v : PV) (s : PS) : zvs (some (v, s)) = some (.ok v s) := rfl
theorem z_mv (f : PFr) (s : PS) (x : Operand) : zact P c f s (.mv x) = some (.ok (pval f x) s) := rfl
def pkV (b x y : PV) : Option PV := match asBool b with
  | some true => some x
  | some false => some y
  | none => none
theorem z_pick (f : PFr) (s : PS) (x a b : Operand) : zact P c f s (.pick x a b) = zv (pkV (pval f x) (pval f a) (pval f b)) s := by
  show zokR (opP P f s (.pick x a b)) = _
  unfold zv pkV
  simp only [opP]
  cases asBool (pval f x) with
  | none => rfl
  | some b => cases b <;> rfl
theorem pk_t (x y : PV) : pkV (.sc (.bool true)) x y = some x := rfl
theorem pk_f (x y : PV) : pkV (.sc (.bool false)) x y = some y := rfl
theorem pk_dt {p : Prop} [Decidable p] (h : Ar p) (x y : PV) : pkV (.sc (.bool (decide p))) x y = some x := by rw [decide_eq_true h.h]; rfl
theorem pk_df {p : Prop} [Decidable p] (h : Ar (¬ p)) (x y : PV) : pkV (.sc (.bool (decide p))) x y = some y := by rw [decide_eq_false h.h]; rfl
theorem pk_a (p q : Prop) [Decidable p] [Decidable q] : pkV (.sc (.bool (decide p))) (gv p (.sc (.bool (decide q)))) (.sc (.bool false)) = some (.sc (.bool (decide (p ∧ q)))) := by
  unfold gv
  by_cases h : p
  · rw [decide_eq_true h, pk_t, if_pos h]; simp [h]
  · rw [decide_eq_false h, pk_f]; simp [h]
theorem pk_o (p q : Prop) [Decidable p] [Decidable q] : pkV (.sc (.bool (decide p))) (.sc (.bool true)) (gv (¬ p) (.sc (.bool (decide q)))) = some (.sc (.bool (decide (p ∨ q)))) := by
  unfold gv
  by_cases h : p
  · rw [decide_eq_true h, pk_t]; simp [h]
  · rw [decide_eq_false h, pk_f, if_pos h]; simp [h]
theorem pk_a1 (p : Prop) [Decidable p] : pkV (.sc (.bool (decide p))) (gv p (.sc (.bool true))) (.sc (.bool false)) = some (.sc (.bool (decide p))) := by
  unfold gv
  by_cases h : p
  · rw [decide_eq_true h, pk_t, if_pos h]
  · rw [decide_eq_false h, pk_f]
theorem pk_a0 (p : Prop) [Decidable p] : pkV (.sc (.bool (decide p))) (gv p (.sc (.bool false))) (.sc (.bool false)) = some (.sc (.bool false)) := by
  unfold gv
  by_cases h : p
  · rw [decide_eq_true h, pk_t, if_pos h]
  · rw [decide_eq_false h, pk_f]
theorem pk_o0 (p : Prop) [Decidable p] : pkV (.sc (.bool (decide p))) (.sc (.bool true)) (gv (¬ p) (.sc (.bool false))) = some (.sc (.bool (decide p))) := by
  unfold gv
  by_cases h : p
  · rw [decide_eq_true h, pk_t]
  · rw [decide_eq_false h, pk_f, if_pos h]
theorem pk_o1 (p : Prop) [Decidable p] : pkV (.sc (.bool (decide p))) (.sc (.bool true)) (gv (¬ p) (.sc (.bool true))) = some (.sc (.bool true)) := by
  unfold gv
  by_cases h : p
  · rw [decide_eq_true h, pk_t]
  · rw [decide_eq_false h, pk_f, if_pos h]
theorem z_box (f : PFr) (s : PS) (e : Nat) (x : Operand) : zact P c f s (.box e x) = some (.ok (.ptr s.n 0 (cellsP (pval f x)).length) (s.new ⟨cellsP (pval f x), 0, e⟩)) := rfl
theorem z_alloc (f : PFr) (s : PS) (e : Nat) (z : Value) : zact P c f s (.alloc e z) = some (.ok (.ptr s.n 0 (cellsP (pvOf z)).length) (s.new ⟨cellsP (pvOf z), 0, e⟩)) := rfl
theorem z_len (f : PFr) (s : PS) (b : Bool) (x : Operand) : zact P c f s (.len b x) = zv (lenP b (pval f x)) s := rfl
theorem len_s (l : List UInt8) : lenP true (.sc (.string ⟨⟨l⟩⟩)) = some (.sc (.int .i64 (l.length : Int))) := rfl
def sixV (x i : PV) : Option PV := match x, natP i with
    | .sc (.string b), some j => if j < b.data.toList.length then some (.sc (.int .u8 ((b.data.toList.getD j 0).toNat : Int))) else none
    | _, _ => none
theorem z_sidx (f : PFr) (s : PS) (x i : Operand) : zact P c f s (.sidx x i) = zv (sixV (pval f x) (pval f i)) s := by
  show zokR (opP P f s (.sidx x i)) = _
  unfold zv sixV
  simp only [opP]
  generalize natP (pval f i) = b
  generalize pval f x = a
  cases a with
  | sc v => cases v with
    | string t => cases b with
      | none => rfl
      | some j => simp only []; split <;> rfl
    | _ => rfl
  | _ => rfl
theorem six_s {l : List UInt8} {j : Nat} (h : Ar (j < l.length)) : sixV (.sc (.string ⟨⟨l⟩⟩)) (.sc (.int .i64 (j : Int))) = some (.sc (.int .u8 (bt l j : Int))) := by
  unfold sixV
  rw [natP_cast]
  exact if_pos h.h
theorem z_bin (f : PFr) (s : PS) (op : BinOp) (t : Nat) (x y : Operand) : zact P c f s (.bin op t x y) = zv (binP P op t x y (pval f x) (pval f y)) s := rfl
theorem z_un (f : PFr) (s : PS) (op : UnOp) (x : Operand) : zact P c f s (.un op x) = zv (unP P op (pval f x)) s := rfl
theorem z_ext (f : PFr) (s : PS) (x : Operand) (i : Nat) : zact P c f s (.ext x i) = zv (match pval f x with | .tup vs => vs[i]? | _ => none) s := by
  show zokR (opP P f s (.ext x i)) = _
  unfold zv
  simp only [opP]
  cases pval f x <;> rfl
theorem z_call (f : PFr) (s : PS) (g : Nat) (a : List Operand) : zact P c f s (.call (.func g) a) = c g (a.map (pval f)) s := by
  show c g ([] ++ (a.map (pval f) ++ [])) s = _
  rw [List.append_nil]; rfl
theorem z_load (f : PFr) (s : PS) (t : Nat) (ag : Bool) (sz : Nat) (x : Operand) : zact P c f s (.load t ag sz x) = zv ((ldP s (pval f x) sz).bind (ofCells ag)) s := by
  show zokR (opP P f s (.load t ag sz x)) = _
  unfold zv
  simp only [opP]
  cases ldP s (pval f x) sz <;> rfl
theorem z_fld (f : PFr) (s : PS) (ag : Bool) (off sz : Nat) (x : Operand) : zact P c f s (.fld ag off sz x) = zv (match pval f x with
    | .agg cs => if off + sz ≤ cs.length then ofCells ag ((cs.drop off).take sz) else none
    | _ => none) s := by
  show zokR (opP P f s (.fld ag off sz x)) = _
  unfold zv
  simp only [opP]
  generalize pval f x = a
  cases a with
  | agg cs => simp only []; split <;> rfl
  | _ => rfl
theorem z_build (f : PFr) (s : PS) (z : List Value) (ps : List (Nat × Nat × Operand)) : zact P c f s (.build z ps) = zv ((fillP f (z.map .sc) ps).map .agg) s := by
  show zokR (opP P f s (.build z ps)) = _
  unfold zv
  simp only [opP]
  cases fillP f (z.map .sc) ps <;> rfl
def sslV (x : PV) (l h : Option PV) : Option PV := match (match l with | none => some 0 | some l => natP l), (match h with | none => some (hiOf x) | some h => natP h) with
  | some l, some h => sslcP x l h
  | _, _ => none
theorem z_sslc (f : PFr) (s : PS) (x : Operand) (lo hi : Option Operand) : zact P c f s (.sslc x lo hi) = zv (sslV (pval f x) (lo.map (pval f)) (hi.map (pval f))) s := by
  show zokR (opP P f s (.sslc x lo hi)) = _
  unfold zv sslV
  simp only [opP]
  cases lo <;> cases hi <;> simp only [optP, Option.map_none, Option.map_some] <;> (repeat' split) <;> first | rfl | simp_all
def sb (l : List UInt8) (i j : Nat) : List UInt8 := (l.drop i).take (j - i)
theorem ssl_nn (l : List UInt8) : sslV (.sc (.string ⟨⟨l⟩⟩)) none none = some (.sc (.string ⟨⟨l⟩⟩)) := by
  unfold sslV sslcP hiOf
  simp
theorem ssl_sn {l : List UInt8} {i : Nat} (h : Ar (i ≤ l.length)) : sslV (.sc (.string ⟨⟨l⟩⟩)) (some (.sc (.int .i64 (i : Int)))) none = some (.sc (.string ⟨⟨l.drop i⟩⟩)) := by
  unfold sslV
  simp only [natP_cast]
  unfold sslcP hiOf
  simp only
  rw [if_pos ⟨h.h, Nat.le_refl _⟩]
  rw [List.take_of_length_le (by rw [List.length_drop]; exact Nat.le_refl _)]
theorem ssl_ns {l : List UInt8} {j : Nat} (h : Ar (j ≤ l.length)) : sslV (.sc (.string ⟨⟨l⟩⟩)) none (some (.sc (.int .i64 (j : Int)))) = some (.sc (.string ⟨⟨l.take j⟩⟩)) := by
  unfold sslV
  simp only [natP_cast]
  unfold sslcP
  simp only
  rw [if_pos ⟨Nat.zero_le _, h.h⟩]
  rfl
theorem ssl_ss {l : List UInt8} {i j : Nat} (h : Ar (i ≤ j ∧ j ≤ l.length)) : sslV (.sc (.string ⟨⟨l⟩⟩)) (some (.sc (.int .i64 (i : Int)))) (some (.sc (.int .i64 (j : Int)))) = some (.sc (.string ⟨⟨sb l i j⟩⟩)) := by
  unfold sslV
  simp only [natP_cast]
  unfold sslcP
  simp only
  rw [if_pos h.h]
  rfl
theorem aN {i k : Nat} (h : Ar (i + k < 9223372036854775808)) : IntKind.i64.wrap ((i : Int) + (k : Int)) = ((i + k : Nat) : Int) := addN h.h
theorem sN {i k : Nat} (h : Ar (k ≤ i ∧ i < 9223372036854775808)) : IntKind.i64.wrap ((i : Int) - (k : Int)) = ((i - k : Nat) : Int) := subN h.h
theorem seql (a b : List UInt8) : ((ByteArray.mk ⟨a⟩).toList == (ByteArray.mk ⟨b⟩).toList) = decide (a = b) := by
  rw [ByteArray.toList_eq, ByteArray.toList_eq, Bool.eq_iff_iff]; simp
theorem dec_nil (a : List UInt8) [Decidable (a = [])] : decide (a = []) = decide (a.length = 0) := by
  rw [decide_eq_decide]; simp
theorem cat_b (x y : List UInt8) : (⟨⟨x⟩⟩ : ByteArray) ++ (⟨⟨y⟩⟩ : ByteArray) = ⟨⟨x ++ y⟩⟩ := by
  apply ByteArray.ext; simp
theorem sadd {t : Nat} {x y : Operand} {a b : List UInt8} (h : Ar (a.length + b.length < 9223372036854775808)) : binP P .add t x y (.sc (.string ⟨⟨a⟩⟩)) (.sc (.string ⟨⟨b⟩⟩)) = some (.sc (.string ⟨⟨a ++ b⟩⟩)) := by
  rw [bin_sadd t x y (a := ⟨⟨a⟩⟩) (b := ⟨⟨b⟩⟩) (by exact h.h), cat_b]
theorem bin_mul (t : Nat) (x y : Operand) (a b : Int) : binP P .mul t x y (.sc (.int .i64 a)) (.sc (.int .i64 b)) = some (.sc (.int .i64 (IntKind.i64.wrap (a * b)))) := (rfl)
theorem mN {i k : Nat} (h : Ar (i * k < 9223372036854775808)) : IntKind.i64.wrap ((i : Int) * (k : Int)) = ((i * k : Nat) : Int) := by
  rw [← Int.natCast_mul]; exact wrapI (Int.natCast_nonneg _) (by have := h.h; omega)
theorem bin_csub (t : Nat) (x y : Operand) (a b : Int) : binP P .sub t x y (.sc (.int .u8 a)) (.sc (.int .u8 b)) = some (.sc (.int .u8 (IntKind.u8.wrap (a - b)))) := (rfl)
theorem scN {i k : Nat} (h : Ar (k ≤ i ∧ i < 256)) : IntKind.u8.wrap ((i : Int) - (k : Int)) = ((i - k : Nat) : Int) := by
  have h := h.h
  have e : (i : Int) - (k : Int) = ((i - k : Nat) : Int) := by omega
  rw [e]
  show ((((i - k : Nat) : Int) % 256) : Int) = _
  omega
theorem z_conv (f : PFr) (s : PS) (k : IntKind) (x : Operand) : zact P c f s (.conv k x) = zv (convP k (pval f x)) s := rfl
theorem conv_c {c : Nat} (h : Ar (c < 256)) : convP .i64 (.sc (.int .u8 (c : Int))) = some (.sc (.int .i64 (c : Int))) := by
  show some (PV.sc (.int .i64 (IntKind.i64.wrap (c : Int)))) = _
  rw [wrapI (by omega) (by have := h.h; omega)]
/-- an index, or -1 -/
def ix (p : Prop) [Decidable p] (n : Nat) : Int := if p then n else -1
theorem ix_ge (p : Prop) [Decidable p] (n : Nat) : decide (ix p n ≥ ((0 : Nat) : Int)) = decide p := by
  unfold ix; split <;> simp_all
theorem ix_lt (p : Prop) [Decidable p] (n : Nat) : decide (ix p n < ((0 : Nat) : Int)) = decide (¬ p) := by
  unfold ix; split <;> simp_all
theorem ix_t {p : Prop} [Decidable p] (h : Ar p) (n : Nat) : ix p n = (n : Int) := if_pos h.h
theorem z_pcl (f : PFr) (s : PS) (g : Nat) (a : List Operand) : zact P c f s (.pcl g a) = zv (pclP P g (a.map (pval f))) s := rfl
def faV (v : PV) (off : Nat) : Option PV := match v with
  | .ptr k o fin => some (.ptr k (o + off) fin)
  | .litp cs => if off ≤ cs.length then some (.litp (cs.drop off)) else none
  | _ => none
theorem z_faddr (f : PFr) (s : PS) (off : Nat) (x : Operand) : zact P c f s (.faddr off x) = zv (faV (pval f x) off) s := by
  show zokR (opP P f s (.faddr off x)) = _
  unfold zv faV
  simp only [opP]
  cases pval f x with
  | litp cs => simp only []; split <;> rfl
  | _ => rfl
theorem fa_p (k o fin off : Nat) : faV (.ptr k o fin) off = some (.ptr k (o + off) fin) := rfl
theorem pv_i (k : IntKind) (n : Nat) : pvOf (.int k (no_index (@OfNat.ofNat Int n instOfNat))) = .sc (.int k ((@OfNat.ofNat Nat n (instOfNatNat n) : Nat) : Int)) := rfl
theorem pv_a (l : List Value) : pvOf (.agg (List.toArray l)) = .agg (l.map .sc) := rfl
theorem lit_c (k : IntKind) (n : Nat) : PV.sc (.int k (no_index (@OfNat.ofNat Int n instOfNat))) = .sc (.int k ((@OfNat.ofNat Nat n (instOfNatNat n) : Nat) : Int)) := rfl
theorem pv_s (l : List UInt8) : pvOf (.string ⟨List.toArray l⟩) = .sc (.string ⟨⟨l⟩⟩) := rfl
theorem pv_b (b : Bool) : pvOf (.bool b) = .sc (.bool b) := rfl
theorem pv_l (a : Option Addr) (b c : Nat) : pvOf (.slice a b c) = .sc (.slice a b c) := rfl
theorem pv_p (a : Option Addr) : pvOf (.pointer a) = .sc (.pointer a) := rfl
theorem pv_nf : pvOf .nilFunc = .sc .nilFunc := rfl
theorem pv_ni : pvOf .nilIface = .sc .nilIface := rfl
theorem pv_t (a : Array Value) : pvOf (.tuple a) = .sc (.tuple a) := rfl
theorem d_beq {a b : Nat} : (a == b) = decide (a = b) := by
  rw [Bool.eq_iff_iff]; simp
theorem d_not (p : Prop) [Decidable p] : (!(decide p)) = decide (¬ p) := by simp
theorem d_tt (p : Prop) [Decidable p] : (decide p == true) = decide p := by cases decide p <;> rfl
end
end Go.PE
namespace Go.PE
open Go Go.EvL Go.Mir
section
variable {P : Program} {Γ : Nat → Option PFn} {ext : PCallF} {F : ZC → Option ZR} {c : ZCallF}
def hn (j n : Nat) (b x : Blk) : Blk := if j = n then b else x
theorem new_h' (s : PS) (b : Blk) (j : Nat) : (s.new b).h j = hn j s.n b (s.h j) := rfl
theorem put_h' (s : PS) (k : Nat) (b : Blk) (j : Nat) : (s.put k b).h j = hn j k b (s.h j) := rfl
theorem hn_eq (n : Nat) (b x : Blk) : hn n n b x = b := if_pos rfl
theorem hn_ne {j n : Nat} (h : Ar (j ≠ n)) (b x : Blk) : hn j n b x = x := if_neg h.h
/-- results in slots, of a function that writes its caller's memory -/
def ZK (res : List Nat) (s0 : PS) : ZC → Option ZR
  | .go (.exit _) _ _ => none
  | .go _ f s => some (.ok (oneRes (res.map f)) ⟨s.h, s.n, min s0.w s.w⟩)
  | .pan v _ s => some (.pan v ⟨s.h, s.n, min s0.w s.w⟩)
theorem ZK_eq {fn : PFn} {res : List Nat} (hr : fn.res = res.map .tmp) (hk : fn.keep = true) (s0 : PS) : zleave fn s0 = ZK res s0 := by
  funext r
  unfold zleave ZK
  have h : ∀ f s, leaveP fn s0 f s = some (oneRes (res.map f), ⟨s.h, s.n, min s0.w s.w⟩) := fun f s => by
    unfold leaveP
    rw [hr, resP_tmp]
    simp only [Option.bind_some, hk, if_true]
  rcases r with ⟨x, f, s⟩ | ⟨v, f, s⟩
  · cases x with
    | exit i => rfl
    | _ => simp only [h]; rfl
  · simp only [hk, if_true]
theorem zK_case {g : Nat} {fn : PFn} {args : List PV} {s : PS} {B : PCode} {R : Option ZR} (res : List Nat) (h : Γ g = some fn) (hr : fn.res = res.map .tmp) (hk : fn.keep = true) (hl : Nat.ble args.length fn.nt = true) (hb : fn.body = B)
    (hR : ∀ R', R' = R → zr P Γ ext (ZK res s) B (initP args 0) ⟨s.h, s.n, s.n⟩ [] = R') : zcall P Γ ext g args s = R := by
  rw [z_enter fn h args s (Nat.le_of_ble_eq_true hl), ZK_eq hr hk, hb]; exact hR R rfl
theorem ZK_r (res : List Nat) (s0 : PS) (f : PFr) (s : PS) : ZK res s0 (.go .ret f s) = some (.ok (oneRes (res.map f)) ⟨s.h, s.n, min s0.w s.w⟩) := rfl
theorem ZK_n (res : List Nat) (s0 : PS) (f : PFr) (s : PS) : ZK res s0 (.go .normal f s) = some (.ok (oneRes (res.map f)) ⟨s.h, s.n, min s0.w s.w⟩) := rfl
theorem ZK_p (res : List Nat) (s0 : PS) (v : Value) (f : PFr) (s : PS) : ZK res s0 (.pan v f s) = some (.pan v ⟨s.h, s.n, min s0.w s.w⟩) := rfl
/-- a result in a cell -/
def ZL (r m : Nat) (s0 : PS) : ZC → Option ZR
  | .go (.exit _) _ _ => none
  | .go _ f s => if s0.n ≤ s.w then (ldP s (f r) m).bind fun cs => (frzL s0.n s cs).map fun cs => .ok (.agg cs) s0 else none
  | .pan v _ s => if s0.n ≤ s.w then some (.pan v s0) else none
noncomputable def zlk (w : Nat) (s0 : PS) (r : Option (List PV)) : Option ZR := if s0.n ≤ w then r.map fun v => .ok (.agg v) s0 else none
theorem ZL_r (r m : Nat) (s0 : PS) (f : PFr) (s : PS) : ZL r m s0 (.go .ret f s) = zlk s.w s0 ((ldP s (f r) m).bind (frzL s0.n s)) := by
  show (if s0.n ≤ s.w then (ldP s (f r) m).bind (fun cs => (frzL s0.n s cs).map fun cs => ZR.ok (.agg cs) s0) else none) = _
  unfold zlk
  split
  · cases ldP s (f r) m <;> rfl
  · rfl
theorem ZL_n (r m : Nat) (s0 : PS) (f : PFr) (s : PS) : ZL r m s0 (.go .normal f s) = zlk s.w s0 ((ldP s (f r) m).bind (frzL s0.n s)) := ZL_r r m s0 f s
theorem ZL_p (r m : Nat) (s0 : PS) (v : Value) (f : PFr) (s : PS) : ZL r m s0 (.pan v f s) = ztp s.w s0 v := rfl
theorem zlk_t {w : Nat} {s0 : PS} (h : Ar (s0.n ≤ w)) (v : List PV) : zlk w s0 (some v) = some (.ok (.agg v) s0) := if_pos h.h
def zst (r : Option PS) : Option ZR := zokR (r.map fun s => (.sc undef, s))
theorem zst_s (s : PS) : zst (some s) = some (.ok (.sc undef) s) := rfl
theorem z_store (f : PFr) (s : PS) (t sz : Nat) (x y : Operand) : zact P c f s (.store t sz x y) = if (cellsP (pval f y)).length = sz then zst (stP s (pval f x) (cellsP (pval f y))) else none := by
  show zokR (opP P f s (.store t sz x y)) = _
  simp only [opP]
  split <;> rfl
theorem st_e (s : PS) (k off fin : Nat) (ys : List PV) : stP s (.ptr k off fin) ys = if off + ys.length ≤ fin ∧ fin = (s.h k).cells.length ∧ ys.all oneP = true then some (s.put k ⟨(s.h k).cells.take off ++ (ys ++ (s.h k).cells.drop (off + ys.length)), fin, (s.h k).e⟩) else none := (rfl)
theorem z_bslice (f : PFr) (s : PS) (e n : Nat) (z : List Value) (ps : List (Nat × Nat × Operand)) : zact P c f s (.bslice e n z ps) = zvs ((fillP f (z.map .sc) ps).map fun cs => (.own s.n 0 n cs.length, s.new ⟨cs, 0, e⟩)) := rfl
theorem z_app (f : PFr) (s : PS) (e es bytes : Nat) (x y : Operand) : zact P c f s (.app e es bytes x y) = zvs ((elemsP s es (pval f y)).bind fun q => appP s e es bytes (pval f x) q.1 q.2) := rfl
theorem el_nil (s : PS) (es : Nat) : elemsP s es (.sc (.slice none 0 0)) = some ([], 0) := rfl
theorem el_lit (s : PS) (es e n : Nat) (cs : List PV) : elemsP s es (.lit e n cs) = if cs.length = n * es then some (cs, n) else none := rfl
theorem el_own (s : PS) (es k off n fin : Nat) : elemsP s es (.own k off n fin) = if off + n * es = fin ∧ (s.h k).low ≤ fin ∧ fin ≤ (s.h k).cells.length then some (((s.h k).cells.drop off).take (n * es), n) else none := rfl
theorem app_nil {s : PS} {e es bytes n : Nat} {ys : List PV} (h : Ar (n ≠ 0 ∧ es ≠ 0 ∧ ys.length = n * es ∧ (0 + n) * bytes ≤ 140737488355328 ∧ 0 + n ≤ 1073741824)) : appP s e es bytes (.sc (.slice none 0 0)) ys n = if ys.all oneP = true then some (.own s.n 0 n ys.length, s.new ⟨ys, 0, e⟩) else none := by
  obtain ⟨h0, h2, h3, h4, h5⟩ := h.h
  unfold appP
  rw [if_neg h0]
  simp only
  split
  · rename_i h1; rw [if_pos h1.2.2.2.2]
  · rename_i h1; rw [if_neg fun hh => h1 ⟨h2, h3, h4, h5, hh⟩]
theorem app_own {s : PS} {e es bytes n k m fin : Nat} {ys : List PV} (h : Ar (n ≠ 0 ∧ es ≠ 0 ∧ ys.length = n * es ∧ (m + n) * bytes ≤ 140737488355328 ∧ m + n ≤ 1073741824 ∧ m * es = fin)) :
    appP s e es bytes (.own k 0 m fin) ys n = if ys.all oneP = true ∧ fin = (s.h k).cells.length ∧ (s.h k).low ≤ fin ∧ (s.h k).e = e then some (.own k 0 (m + n) (fin + ys.length), s.put k ⟨(s.h k).cells ++ ys, (s.h k).low, e⟩) else none := by
  obtain ⟨h0, h5, h6, h7, h8, h9⟩ := h.h
  unfold appP
  rw [if_neg h0]
  simp only
  split
  · rename_i h1; rw [if_pos ⟨h1.1.2.2.2.2, h1.2.2.1, h1.2.2.2.1, h1.2.2.2.2.2⟩]
  · rename_i h1; rw [if_neg fun hh => h1 ⟨⟨h5, h6, h7, h8, hh.1⟩, by omega, hh.2.1, hh.2.2.1, trivial, hh.2.2.2⟩]
theorem ifa {α : Type} {p : Prop} [Decidable p] (h : Ar p) (a b : α) : (if p then a else b) = a := if_pos h.h
theorem slc_o (s : PS) (e es k off n fin l h : Nat) : slcP s e es (.own k off n fin) l h = if l ≤ h ∧ h ≤ n ∧ off + n * es = fin ∧ (s.h k).low ≤ fin ∧ (s.h k).e = e then some (.own k (off + l * es) (h - l) (off + h * es)) else none := rfl
theorem slc_l (s : PS) (e es e' n l h : Nat) (cs : List PV) : slcP s e es (.lit e' n cs) l h = if l ≤ h ∧ h ≤ n ∧ cs.length = n * es ∧ e' = e then some (.lit e (h - l) ((cs.drop (l * es)).take ((h - l) * es))) else none := rfl
theorem app_0n (s : PS) (e es bytes : Nat) (ys : List PV) : appP s e es bytes (.sc (.slice none 0 0)) ys 0 = some (.sc (.slice none 0 0), s) := rfl
theorem app_0o (s : PS) (e es bytes k off n fin : Nat) (ys : List PV) : appP s e es bytes (.own k off n fin) ys 0 = some (.own k off n fin, s) := rfl
theorem len_n : lenP false (.sc (.slice none 0 0)) = some (.sc (.int .i64 ((0 : Nat) : Int))) := rfl
theorem len_o (k off n fin : Nat) : lenP false (.own k off n fin) = some (.sc (.int .i64 (n : Int))) := rfl
theorem len_l (e n : Nat) (cs : List PV) : lenP false (.lit e n cs) = some (.sc (.int .i64 (n : Int))) := rfl
def iaV (es : Nat) (x : PV) (j : Option Nat) : Option PV := match x, j with
    | .own k off n fin, some j => if j < n ∧ off + n * es = fin then some (.ptr k (off + j * es) fin) else none
    | .lit _ n cs, some j => if j < n ∧ cs.length = n * es then some (.litp (cs.drop (j * es))) else none
    | .litx _ n cs, some j => if j < n ∧ cs.length = n * es then some (.litp (cs.drop (j * es))) else none
    | .ownx k off n fin, some j => if j < n ∧ off + n * es = fin then some (.ptr k (off + j * es) fin) else none
    | _, _ => none
theorem z_iaddr (f : PFr) (s : PS) (es : Nat) (x i : Operand) : zact P c f s (.iaddr es x i) = zv (iaV es (pval f x) (natP (pval f i))) s := by
  show zokR (opP P f s (.iaddr es x i)) = _
  unfold zv iaV
  simp only [opP]
  generalize natP (pval f i) = b
  generalize pval f x = a
  cases a <;> cases b <;> (try rfl) <;> (simp only []; split <;> rfl)
theorem ia_l (es e n j : Nat) (cs : List PV) : iaV es (.lit e n cs) (some j) = if j < n ∧ cs.length = n * es then some (.litp (cs.drop (j * es))) else none := rfl
theorem ia_o (es k off n fin j : Nat) : iaV es (.own k off n fin) (some j) = if j < n ∧ off + n * es = fin then some (.ptr k (off + j * es) fin) else none := rfl
theorem fa_l {off : Nat} {cs : List PV} (h : Ar (off ≤ cs.length)) : faV (.litp cs) off = some (.litp (cs.drop off)) := if_pos h.h
theorem ld_l {s : PS} {sz : Nat} {cs : List PV} (h : Ar (sz ≤ cs.length)) : ldP s (.litp cs) sz = some (cs.take sz) := if_pos h.h
def slV (s : PS) (e es : Nat) (x : PV) (l h : Option Nat) : Option PV := match l, h with
    | some l, some h => slcP s e es x l h
    | _, _ => none
theorem z_slc (f : PFr) (s : PS) (e es : Nat) (x : Operand) (lo hi : Option Operand) : zact P c f s (.slc e es x lo hi) = zv (slV s e es (pval f x) (optP f lo 0) (optP f hi (hiOf (pval f x)))) s := by
  show zokR (opP P f s (.slc e es x lo hi)) = _
  unfold zv slV
  simp only [opP]
  generalize optP f lo 0 = a
  generalize optP f hi (hiOf (pval f x)) = b
  cases a <;> cases b <;> rfl
theorem op_n (f : PFr) (d : Nat) : optP f none d = some d := rfl
theorem op_s (f : PFr) (x : Operand) (d : Nat) : optP f (some x) d = natP (pval f x) := rfl
theorem hi_l (e n : Nat) (cs : List PV) : hiOf (.lit e n cs) = n := rfl
theorem hi_o (k off n fin : Nat) : hiOf (.own k off n fin) = n := rfl
theorem hi_n : hiOf (.sc (.slice none 0 0)) = 0 := rfl
theorem one_i (k : IntKind) (z : Int) : oneP (.sc (.int k z)) = true := (rfl)
theorem one_s (b : ByteArray) : oneP (.sc (.string b)) = true := (rfl)
theorem one_b (b : Bool) : oneP (.sc (.bool b)) = true := (rfl)
theorem one_n : oneP (.sc (.slice none 0 0)) = true := (rfl)
theorem one_o (k off n fin : Nat) : oneP (.own k off n fin) = true := (rfl)
theorem one_l (e n : Nat) (cs : List PV) : oneP (.lit e n cs) = true := (rfl)
theorem one_p (k off fin : Nat) : oneP (.ptr k off fin) = true := (rfl)
theorem cl_sc (v : Value) : clean1 (.sc v) = true := rfl
theorem cl_lit (e n : Nat) (cs : List PV) : clean1 (.lit e n cs) = true := rfl
theorem fz_lit (n e m : Nat) (s : PS) (cs : List PV) : frz1 n s (.lit e m cs) = some (.lit e m cs) := rfl
theorem fz_sc (n : Nat) (s : PS) (v : Value) : frz1 n s (.sc v) = some (.sc v) := rfl
theorem fz_own {n k off m fin : Nat} {s : PS} (h0 : Ar (n ≤ k)) : frz1 n s (.own k off m fin) = if (s.h k).low ≤ fin ∧ fin ≤ (s.h k).cells.length ∧ off ≤ fin ∧ (((s.h k).cells.drop off).take (fin - off)).all clean1 = true then some (.lit (s.h k).e m (((s.h k).cells.drop off).take (fin - off))) else none := by
  unfold frz1
  simp only
  rw [if_neg (by have := h0.h; omega)]
theorem fzL_n (n : Nat) (s : PS) : frzL n s [] = some [] := rfl
theorem fzL_c (n : Nat) (s : PS) (p : PV) (l : List PV) : frzL n s (p :: l) = (frz1 n s p).bind fun p => (frzL n s l).map fun l => p :: l := rfl
end
end Go.PE
namespace Go.Mir
def rd (l : List UInt8) : Nat → Tag → Nat × Nat
  | 0, t => (t.at, 7)
  | n + 1, .pass a p =>
    if bt l a = 92 then (if a + 1 = l.length then (a, 7) else (a + 2, 0)) else
    if bt l a = 96 then rd l n (.bq (a + 1) a) else
    if isExp l a = true then rd l n (.exp a p) else
    if bt l a = 39 ∧ p = 0 then (if toByte l 39 (a + 1) < l.length then (toByte l 39 (a + 1) + 1, 0) else (a, 7)) else
    if bt l a = 34 ∧ p = 0 then rd l n (.dbl (a + 1) a) else (a + 1, 0)
  | n + 1, .exp a p =>
    if bt l (a + 1) = 123 then rd l n (.brc (a + 2) a p) else
    if bt l (a + 1) = 40 then (if a + 2 < l.length ∧ bt l (a + 2) = 40 then rd l n (.ari (a + 3) a 0) else rd l n (.cmd (a + 2) a 1 true)) else
    if isSpecial (bt l (a + 1)) = true then (a + 2, 0) else (nmEnd l (a + 1), 0)
  | n + 1, .bq i a =>
    if i < l.length then
      if bt l i = 96 then (i + 1, 0) else
      if bt l i = 92 then (if i + 1 = l.length then (i, 7) else rd l n (.bq (i + 2) a)) else rd l n (.bq (i + 1) a)
    else (a, 7)
  | n + 1, .dbl i a =>
    if i < l.length then
      if bt l i = 34 then (i + 1, 0) else
      if (rd l n (.pass i 1)).2 = 0 then rd l n (.dbl (rd l n (.pass i 1)).1 a) else rd l n (.pass i 1)
    else (a, 7)
  | n + 1, .brc i a p =>
    if i < l.length then
      if bt l i = 125 then (i + 1, 0) else
      if bt l i = 34 ∧ p = 1 then (i, 6) else
      if (rd l n (.pass i p)).2 = 0 then rd l n (.brc (rd l n (.pass i p)).1 a p) else rd l n (.pass i p)
    else (a, 7)
  | n + 1, .cmd i a o b =>
    if i < l.length then
      if b = true ∧ bt l i = 35 then rd l n (.cmd (toByte l 10 i) a o b) else
      if joined l i = true then rd l n (.cmd (i + 2) a o b) else
      if bt l i = 41 ∧ o = 1 then (i + 1, 0) else
      if (rd l n (.pass i 0)).2 = 0 then rd l n (.cmd (rd l n (.pass i 0)).1 a (open2 (bt l i) o) (isBreak (bt l i))) else rd l n (.pass i 0)
    else (a, 7)
  | n + 1, .ari i a o =>
    if i < l.length then
      if bt l i = 41 ∧ o = 0 then (if i + 1 = l.length then (a, 7) else if bt l (i + 1) = 41 then (i + 2, 0) else (i, 6)) else
      if (rd l n (.pass i 2)).2 = 0 then rd l n (.ari (rd l n (.pass i 2)).1 a (open2 (bt l i) o)) else rd l n (.pass i 2)
    else (a, 7)
end Go.Mir
namespace Go.Mir
inductive Part where
  | mk (kind : Int) (text : List UInt8) (op : Int) (colon : Bool) (parts : List Part)
def Part.kind : Part → Int | .mk k _ _ _ _ => k
def Part.text : Part → List UInt8 | .mk _ t _ _ _ => t
def Part.op : Part → Int | .mk _ _ o _ _ => o
def Part.colon : Part → Bool | .mk _ _ _ c _ => c
def Part.parts : Part → List Part | .mk _ _ _ _ p => p
def isOut (p : Nat) : Bool := p == 0 || p == 1
def sub (l : List UInt8) (a b : Nat) : List UInt8 := (l.drop a).take (b - a)
/-- the text of a command substitution -/
def wrap (t : List UInt8) : List UInt8 := 36 :: 40 :: (t ++ [41])
abbrev R := Except (Nat × Nat) (List Part × Nat)
def skj : List UInt8 → Nat
  | 92 :: 10 :: l => skj l + 2
  | _ => 0
def skipj (l : List UInt8) (i : Nat) : Nat := i + skj (l.drop i)
def tild (l : List UInt8) (a p : Nat) : Prop := isOut p = true ∧ bt l a = 126 ∧ (l.length ≤ skipj l (a + 1) ∨ bt l (skipj l (a + 1)) = 47 ∨ p = 1 ∧ bt l (skipj l (a + 1)) = 125)
instance (l : List UInt8) (a p : Nat) : Decidable (tild l a p) := by unfold tild; infer_instance
/-- steps enough -/
def big (l : List UInt8) : Nat := 3 * l.length + 3
def lx (l : List UInt8) (t : Tag) : Nat × Nat := rd l (big l) t
def closd (L : Nat) (t : List UInt8) : Prop := t.length + 3 ≤ L ∧ (lx (wrap t) (.pass 0 0)).2 = 0 ∧ (lx (wrap t) (.pass 0 0)).1 = t.length + 3 ∧ (t = [] ∨ t.head? ≠ some 40)
instance (L : Nat) (t : List UInt8) : Decidable (closd L t) := by unfold closd; infer_instance
def one (p : Part) (j : Nat) : R := .ok ([p], j)
end Go.Mir
namespace Go.PE
open Go Go.EvL Go.Mir
structure Ak (p : Prop) : Prop where
  h : p
section
variable {P : Program} {Γ : Nat → Option PFn} {ext : PCallF} {F : ZC → Option ZR}
theorem zdr_nil (b : Bool) (j : Nat) (acc : List (Nat × Eff × Nat × Nat)) (f : PFr) (s : PS) (k : List KI) : zdr P Γ ext F b [] j acc f s k = rn P Γ ext F f s k := rfl
theorem zdr_u (b : Bool) (d : Option Nat) (o : POp) (ls un : List Nat) (l : List (PI × List Nat × List Nat)) (j : Nat) (acc : List (Nat × Eff × Nat × Nat)) (f : PFr) (s : PS) (k : List KI) :
    zdr P Γ ext F b ((⟨d, o, none⟩, ls, un) :: l) j acc f s k = zda P Γ ext F (zact P (zcall P Γ ext) (onlyP ls f) s o) b d o (effO (onlyP ls f) o) (pureI (puOf Γ) (onlyP ls f) ⟨d, o, none⟩) un l j acc f s k := by
  unfold zdr zda
  simp only [zdraw, guardP, Option.isNone_none, Bool.and_true]
  cases zact P (zcall P Γ ext) (onlyP ls f) s o with
  | none => unfold zfin; exact (congrArg (Option.bind · _) (kz_none k))
  | some q =>
    cases q with
    | ok v s' =>
      simp only [Option.bind_some]
      rw [show effI (onlyP ls f) ⟨d, o, none⟩ = effO (onlyP ls f) o from rfl]
      split
      · rfl
      · unfold zfin; exact (congrArg (Option.bind · _) (kz_none k))
    | pan v s' => rfl
theorem zdr_mt (b : Bool) (d t : Nat) (ls un : List Nat) (l : List (PI × List Nat × List Nat)) (j : Nat) (acc : List (Nat × Eff × Nat × Nat)) (f : PFr) (s : PS) (k : List KI) :
    zdr P Γ ext F b ((mt d t, ls, un) :: l) j acc f s k = zdr P Γ ext F b l (j + 1) ((j, ⟨[], [], false, false⟩, s.n, s.n) :: acc) (f.set d (onlyP ls f t)) s k := by
  refine (zdr_u b (some d) (.mv (.tmp t)) ls un l j acc f s k).trans ?_
  exact if_pos ⟨.inl rfl, okAll_e _ _⟩
theorem zdr_mk (b : Bool) (d : Nat) (v : Value) (ls un : List Nat) (l : List (PI × List Nat × List Nat)) (j : Nat) (acc : List (Nat × Eff × Nat × Nat)) (f : PFr) (s : PS) (k : List KI) :
    zdr P Γ ext F b ((mk d v, ls, un) :: l) j acc f s k = zdr P Γ ext F b l (j + 1) ((j, ⟨[], [], false, false⟩, s.n, s.n) :: acc) (f.set d (pvOf v)) s k := by
  refine (zdr_u b (some d) (.mv (.const v)) ls un l j acc f s k).trans ?_
  exact if_pos ⟨.inl rfl, okAll_e _ _⟩
theorem zda_ok {v : PV} {s' : PS} {b pu : Bool} {d : Option Nat} {o : POp} {E : Eff} {un : List Nat} {l : List (PI × List Nat × List Nat)} {j : Nat} {acc : List (Nat × Eff × Nat × Nat)} (h1 : Ak (pu = true ∨ barP un j l = true)) (h2 : Ak (OkAll un E acc)) (f : PFr) (s : PS) (k : List KI) :
    zda P Γ ext F (some (.ok v s')) b d o E pu un l j acc f s k = zdr P Γ ext F b l (j + 1) ((j, E, s.n, s'.n) :: acc) (setD f d v) s' k := if_pos ⟨h1.h, h2.h⟩
theorem loop_1 (b : PCode) (f : PFr) (s : PS) (k : List KI) : zr P Γ ext F (.loop b) f s k = zr P Γ ext F b f s (.s (.loop b) :: k) := by
  unfold zr; rw [zcode_loop]; rfl
noncomputable def pz (F : ZC → Option ZR) (r : Option ZR) (f : PFr) : Option ZR := r.bind fun
  | .pan v s' => F (.pan v f s')
  | .ok _ _ => none
theorem pz_pan (v : Value) (s : PS) (f : PFr) : pz F (some (.pan v s)) f = F (.pan v f s) := rfl
theorem zda_pan {v : Value} {s' : PS} {b pu : Bool} {d : Option Nat} {o : POp} {E : Eff} {un : List Nat} {l : List (PI × List Nat × List Nat)} {j : Nat} {acc : List (Nat × Eff × Nat × Nat)} (h : Ak ((b && barP un j l) = true)) (f : PFr) (s : PS) (k : List KI) :
    zda P Γ ext F (some (.pan v s')) b d o E pu un l j acc f s k = pz F (zact P (zcall P Γ ext) f s o) f := by
  show zfin P Γ ext F k (zpan P (zcall P Γ ext) (b && barP un j l) f s o) = _
  rw [h.h]
  unfold zpan pz
  rw [if_pos rfl]
  cases zact P (zcall P Γ ext) f s o with
  | none => unfold zfin; exact (congrArg (Option.bind · _) (kz_none k))
  | some q =>
    cases q with
    | ok v s' => unfold zfin; exact (congrArg (Option.bind · _) (kz_none k))
    | pan v s' => unfold zfin; exact (congrArg (Option.bind · _) (kz_pan k _ _ _))
theorem zda_d (p : Prop) [Decidable p] (A : p → Option ZR) (B : ¬ p → Option ZR) (b : Bool) (d : Option Nat) (o : POp) (E : Eff) (pu : Bool) (un : List Nat) (l : List (PI × List Nat × List Nat)) (j : Nat) (acc : List (Nat × Eff × Nat × Nat)) (f : PFr) (s : PS) (k : List KI) :
    zda P Γ ext F (DI p A B) b d o E pu un l j acc f s k = DI p (fun h => zda P Γ ext F (A h) b d o E pu un l j acc f s k) fun h => zda P Γ ext F (B h) b d o E pu un l j acc f s k := by
  unfold DI; split <;> rfl
theorem pz_d (p : Prop) [Decidable p] (A : p → Option ZR) (B : ¬ p → Option ZR) (f : PFr) : pz F (DI p A B) f = DI p (fun h => pz F (A h) f) fun h => pz F (B h) f := by
  unfold DI; split <;> rfl
variable {c : ZCallF}
def nckV (v : PV) : Option PV := match v with
  | .ptr k o fin => some (.ptr k o fin)
  | .litp cs => some (.litp cs)
  | _ => none
theorem z_nck (f : PFr) (s : PS) (x : Operand) : zact P c f s (.nck x) = zv (nckV (pval f x)) s := by
  show zokR (opP P f s (.nck x)) = _
  unfold zv nckV
  simp only [opP]
  cases pval f x <;> rfl
theorem nck_p (k o fin : Nat) : nckV (.ptr k o fin) = some (.ptr k o fin) := rfl
theorem z_mkif (f : PFr) (s : PS) (t : Nat) (x : Operand) : zact P c f s (.mkif t x) = zv ((ifP t (pval f x)).map .sc) s := by
  show zokR (opP P f s (.mkif t x)) = _
  unfold zv
  simp only [opP]
  cases ifP t (pval f x) <;> rfl
noncomputable def panV (v : PV) (s : PS) : Option ZR := match v with
  | .sc (.iface t v) => if sok (.iface t v) = true then some (.pan (.iface t v) s) else none
  | _ => none
theorem z_pan (f : PFr) (s : PS) (x : Operand) : zact P c f s (.pan x) = panV (pval f x) s := rfl
/-- what fail throws -/
def flt (a e : Nat) : Value := .iface 307 (.agg #[.int .i64 (a : Int), .int .i64 (e : Int)])
theorem if_flt (a e : Nat) : ifP 307 (.agg [.sc (.int .i64 (a : Int)), .sc (.int .i64 (e : Int))]) = some (flt a e) := rfl
theorem pan_flt (a e : Nat) (s : PS) : panV (.sc (flt a e)) s = some (.pan (flt a e) s) := by
  have h : sok (flt a e) = true := rfl
  show (if sok (flt a e) = true then some (ZR.pan (flt a e) s) else none) = _
  rw [if_pos h]
theorem z_bts (f : PFr) (s : PS) (x : Operand) : zact P c f s (.bts x) = zv ((elemsP s 1 (pval f x)).bind fun q => (bytesP q.1).map fun l => .sc (.string ⟨⟨l⟩⟩)) s := by
  show zokR (opP P f s (.bts x)) = _
  unfold zv
  simp only [opP]
  cases elemsP s 1 (pval f x) with
  | none => rfl
  | some q => simp only [Option.bind_some]; cases bytesP q.1 <;> rfl
/-- results of any kind -/
def ZG (res : List PRes) (s0 : PS) : ZC → Option ZR
  | .go (.exit _) _ _ => none
  | .go _ f s => if s0.n ≤ s.w then (resP f s res).bind fun vs => (frz s0.n s (oneRes vs)).map fun v => .ok v s0 else none
  | .pan v _ s => if s0.n ≤ s.w then some (.pan v s0) else none
noncomputable def rsg (res : List PRes) (s0 : PS) (f : PFr) (s : PS) : Option PV := (resP f s res).bind fun vs => frz s0.n s (oneRes vs)
theorem rsg_e (res : List PRes) (s0 : PS) (f : PFr) (s : PS) : rsg res s0 f s = (resP f s res).bind fun vs => frz s0.n s (oneRes vs) := rfl
theorem ZG_r (res : List PRes) (s0 : PS) (f : PFr) (s : PS) : ZG res s0 (.go .ret f s) = ztk s.w s0 (rsg res s0 f s) := by
  show (if s0.n ≤ s.w then (resP f s res).bind fun vs => (frz s0.n s (oneRes vs)).map fun v => ZR.ok v s0 else none) = _
  unfold ztk rsg
  split
  · cases resP f s res <;> rfl
  · rfl
theorem ZG_n (res : List PRes) (s0 : PS) (f : PFr) (s : PS) : ZG res s0 (.go .normal f s) = ztk s.w s0 (rsg res s0 f s) := ZG_r res s0 f s
theorem ZG_p (res : List PRes) (s0 : PS) (v : Value) (f : PFr) (s : PS) : ZG res s0 (.pan v f s) = ztp s.w s0 v := rfl
theorem rp_n (f : PFr) (s : PS) : resP f s [] = some [] := rfl
theorem rp_t (f : PFr) (s : PS) (t : Nat) (l : List PRes) : resP f s (.tmp t :: l) = (resP f s l).map fun vs => f t :: vs := rfl
theorem rp_c (f : PFr) (s : PS) (a : Nat) (ag : Bool) (sz : Nat) (l : List PRes) : resP f s (.cell a ag sz :: l) = (ldP s (f a) sz).bind fun cs => (ofCells ag cs).bind fun v => (resP f s l).map fun vs => v :: vs := rfl
end
end Go.PE
namespace Go.PE
open Go Go.EvL
section
variable {P : Program} {Γ : Nat → Option PFn} {ext : PCallF} {c : ZCallF}
def zcl (c : ZCallF) (v : PV) (l : List PV) (s : PS) : Option ZR := match v with
  | .fn g first cap => c g (first ++ (l ++ cap)) s
  | _ => none
theorem z_callt (f : PFr) (s : PS) (t : Nat) (a : List Operand) : zact P c f s (.call (.tmp t) a) = zcl c (f t) (a.map (pval f)) s := rfl
theorem zcl_fn (g : Nat) (first cap l : List PV) (s : PS) : zcl c (.fn g first cap) l s = c g (first ++ (l ++ cap)) s := rfl
theorem z_mkfn (f : PFr) (s : PS) (g : Nat) (a b : List Operand) : zact P c f s (.mkfn g a b) = some (.ok (.fn g (a.map (pval f)) (b.map (pval f))) s) := rfl
def mnxV (s : PS) (mx : Bool) (x y : PV) : Option (PV × PS) := match x, y with
  | .sc (.int k a), .sc (.int _ b) => some (.sc (.int k (mnxI mx a b)), s)
  | _, _ => none
theorem z_mnx (f : PFr) (s : PS) (mx : Bool) (x y : Operand) : zact P c f s (.mnx mx x y) = zvs (mnxV s mx (pval f x) (pval f y)) := rfl
theorem mnx_n (s : PS) (k : IntKind) (a b : Nat) : mnxV s true (.sc (.int k (a : Int))) (.sc (.int k (b : Int))) = some (.sc (.int k ((max a b : Nat) : Int)), s) := by
  show some (PV.sc (.int k (if (b : Int) > (a : Int) then (b : Int) else (a : Int))), s) = _
  congr 4
  split <;> omega
def s3V (s : PS) (e es : Nat) (x : PV) (h m : Option Nat) : Option (PV × PS) := match x, h, m with
  | .lit e' n cs, some h, some m => if h = m ∧ h ≤ n ∧ cs.length = n * es ∧ e' = e then some (.litx e h (cs.take (h * es)), s) else none
  | .sc (.slice none 0 0), some 0, some 0 => some (.sc (.slice none 0 0), s)
  | .own k off n fin, some h, some m => if h = m ∧ h ≤ n ∧ off + n * es = fin ∧ (s.h k).low ≤ fin ∧ (s.h k).e = e then some (.ownx k off h (off + h * es), s) else none
  | _, _, _ => none
theorem z_slc3 (f : PFr) (s : PS) (e es : Nat) (x y z : Operand) : zact P c f s (.slc3 e es x y z) = zvs (s3V s e es (pval f x) (natP (pval f y)) (natP (pval f z))) := rfl
theorem s3_o (s : PS) (e es k off n fin h m : Nat) : s3V s e es (.own k off n fin) (some h) (some m) = if h = m ∧ h ≤ n ∧ off + n * es = fin ∧ (s.h k).low ≤ fin ∧ (s.h k).e = e then some (.ownx k off h (off + h * es), s) else none := rfl
theorem s3_n (s : PS) (e es : Nat) : s3V s e es (.sc (.slice none 0 0)) (some 0) (some 0) = some (.sc (.slice none 0 0), s) := rfl
theorem len_ox (k off n fin : Nat) : lenP false (.ownx k off n fin) = some (.sc (.int .i64 (n : Int))) := rfl
theorem ia_ox (es k off n fin j : Nat) : iaV es (.ownx k off n fin) (some j) = if j < n ∧ off + n * es = fin then some (.ptr k (off + j * es) fin) else none := rfl
theorem fz_ox {n k off m fin : Nat} {s : PS} (h : Ar (k < n)) : frz1 n s (.ownx k off m fin) = some (.ownx k off m fin) := if_pos h.h
theorem fz_ol {n k off m fin : Nat} {s : PS} (h : Ar (k < n)) : frz1 n s (.own k off m fin) = some (.own k off m fin) := if_pos h.h
theorem one_ox (k off n fin : Nat) : oneP (.ownx k off n fin) = true := (rfl)
theorem one_fn (g : Nat) (a b : List PV) : oneP (.fn g a b) = true := (rfl)
theorem bin_wlss (t : Nat) (x y : Operand) (a b : Int) : binP P .lss t x y (.sc (.int .u16 a)) (.sc (.int .u16 b)) = some (.sc (.bool (decide (a < b)))) := (rfl)
theorem bin_wgtr (t : Nat) (x y : Operand) (a b : Int) : binP P .gtr t x y (.sc (.int .u16 a)) (.sc (.int .u16 b)) = some (.sc (.bool (decide (a > b)))) := (rfl)
theorem conv_w {c : Nat} (h : Ar (c < 65536)) : convP .i64 (.sc (.int .u16 (c : Int))) = some (.sc (.int .i64 (c : Int))) := by
  show some (PV.sc (.int .i64 (IntKind.i64.wrap (c : Int)))) = _
  rw [wrapI (by omega) (by have := h.h; omega)]
/-- results of any kind, of a function that writes its caller's memory -/
def ZW (res : List PRes) (s0 : PS) : ZC → Option ZR
  | .go (.exit _) _ _ => none
  | .go _ f s => (resP f s res).map fun vs => .ok (oneRes vs) ⟨s.h, s.n, min s0.w s.w⟩
  | .pan v _ s => some (.pan v ⟨s.h, s.n, min s0.w s.w⟩)
theorem ZW_eq {fn : PFn} {res : List PRes} (hr : fn.res = res) (hk : fn.keep = true) (s0 : PS) : zleave fn s0 = ZW res s0 := by
  funext r
  unfold zleave ZW
  have h : ∀ f s, leaveP fn s0 f s = (resP f s res).map fun vs => (oneRes vs, ⟨s.h, s.n, min s0.w s.w⟩) := fun f s => by
    unfold leaveP
    rw [hr]
    simp only [hk, if_true]
    cases resP f s res <;> rfl
  rcases r with ⟨x, f, s⟩ | ⟨v, f, s⟩
  · cases x with
    | exit i => rfl
    | _ => simp only [h]; unfold zokR; rw [Option.map_map]; rfl
  · simp only [hk, if_true]
theorem ZW_r (res : List PRes) (s0 : PS) (f : PFr) (s : PS) : ZW res s0 (.go .ret f s) = (resP f s res).map fun vs => .ok (oneRes vs) ⟨s.h, s.n, min s0.w s.w⟩ := rfl
theorem ZW_n (res : List PRes) (s0 : PS) (f : PFr) (s : PS) : ZW res s0 (.go .normal f s) = (resP f s res).map fun vs => .ok (oneRes vs) ⟨s.h, s.n, min s0.w s.w⟩ := rfl
theorem ZW_p (res : List PRes) (s0 : PS) (v : Value) (f : PFr) (s : PS) : ZW res s0 (.pan v f s) = some (.pan v ⟨s.h, s.n, min s0.w s.w⟩) := rfl
/-- the blocks below N are as they were -/
structure St (N : Nat) (h : Nat → Blk) (s : PS) : Prop where
  n : N ≤ s.n
  at' : ∀ j, j < N → s.h j = h j
theorem St.new {N : Nat} {h : Nat → Blk} {s : PS} {b : Blk} (k : St N h s) : St N h (s.new b) := ⟨by rw [new_n]; have := k.n; omega, fun j hj => by rw [new_h, if_neg (by have := k.n; omega)]; exact k.at' j hj⟩
theorem St.put {N : Nat} {h : Nat → Blk} {s : PS} {i : Nat} {b : Blk} (k : St N h s) (hi : N ≤ i) : St N h (s.put i b) := ⟨k.n, fun j hj => by rw [put_h, if_neg (by omega)]; exact k.at' j hj⟩
end
end Go.PE
namespace Go.PE
open Go Go.EvL
section
variable {P : Program} {c : ZCallF}
theorem z_toU (f : PFr) (s : PS) (x : Operand) : zact P c f s (.toU x) = zv (toUP s (pval f x)) s := by
  show zokR (opP P f s (.toU x)) = _
  unfold zv
  simp only [opP]
theorem toU_p (s : PS) (k o fin : Nat) : toUP s (.ptr k o fin) = if (s.h k).low ≤ fin ∧ o < fin ∧ fin ≤ (s.h k).cells.length then some (.ptr k o fin) else none := rfl
theorem z_frU (f : PFr) (s : PS) (u n : Nat) (x : Operand) : zact P c f s (.frU u n x) = zv (frUP P s u n (pval f x)) s := by
  show zokR (opP P f s (.frU u n x)) = _
  unfold zv
  simp only [opP]
theorem frU_p {s : PS} {u n k o fin : Nat} : frUP P s u n (.ptr k o fin) = if (s.h k).low ≤ fin ∧ o < fin ∧ fin = (s.h k).cells.length ∧ fromOk P (s.h k).e u o n fin = true then some (.ptr k o fin) else none := rfl
def peV (ne : Bool) (o : Option Bool) : Option PV := o.map fun b => .sc (.bool (b != ne))
theorem z_peq (f : PFr) (s : PS) (ne : Bool) (t : Nat) (x y : Operand) : zact P c f s (.peq ne t x y) = zv (peV ne (peqP s (pval f x) (pval f y))) s := by
  show zokR (opP P f s (.peq ne t x y)) = _
  unfold zv peV
  simp only [opP]
  cases peqP s (pval f x) (pval f y) <;> rfl
theorem peq_nn (s : PS) : peqP s (.sc (.pointer none)) (.sc (.pointer none)) = some true := rfl
theorem peq_pn (s : PS) (k o fin : Nat) : peqP s (.ptr k o fin) (.sc (.pointer none)) = some false := rfl
theorem pe_t (b : Bool) : peV false (some b) = some (.sc (.bool b)) := by cases b <;> rfl
theorem z_inq (f : PFr) (s : PS) (ne : Bool) (t : Nat) (x : Operand) : zact P c f s (.inq ne t x) = zv (peV ne (inqP (pval f x))) s := by
  show zokR (opP P f s (.inq ne t x)) = _
  unfold zv peV
  simp only [opP]
  cases inqP (pval f x) <;> rfl
theorem inq_n : peV true (inqP (.sc .nilIface)) = some (.sc (.bool false)) := rfl
theorem z_sdata (f : PFr) (s : PS) (x : Operand) : zact P c f s (.sdata x) = zv (sdataP (pval f x)) s := by
  show zokR (opP P f s (.sdata x)) = _
  unfold zv
  simp only [opP]
theorem sd_1 (k off fin : Nat) : sdataP (.own k off 1 fin) = some (.ptr k off fin) := rfl
theorem z_ustr (f : PFr) (s : PS) (e : Nat) (x y : Operand) : zact P c f s (.ustr e x y) = zvs (ustrP s e (pval f x) (pval f y)) := rfl
theorem us_g {s : PS} {e k : Nat} {l : List UInt8} {low n : Nat} {cs : List PV} (h : s.h k = ⟨cs, low, e⟩) (hb : bytesP cs = some l) (hl : low ≤ n) (hc : cs.length = n) (h0 : 0 < n) (hn : n ≤ 1073741824) : ustrP s e (.ptr k 0 n) (.sc (.int .i64 (n : Int))) = some (.sc (.string ⟨⟨l⟩⟩), s.put k ⟨cs ++ [.sc undef], n + 2, e⟩) := by
  unfold ustrP
  simp only [h]
  rw [if_pos ⟨hl, by omega, by omega, by rw [Int.toNat_natCast]; omega, by rw [Int.toNat_natCast]; omega, trivial⟩]
  rw [List.drop_zero, Int.toNat_natCast, List.take_of_length_le (by omega), hb, hc]
  rfl
theorem sd_n {k off n fin : Nat} (h : 0 < n) : sdataP (.own k off n fin) = some (.ptr k off fin) := by
  obtain ⟨m, rfl⟩ : ∃ m, n = m + 1 := ⟨n - 1, by omega⟩
  rfl
theorem peq_pp (s : PS) (k o fin : Nat) : peqP s (.ptr k o fin) (.ptr k o fin) = if fin = (s.h k).cells.length then some true else none := by
  show (if k = k ∧ fin = (s.h k).cells.length ∧ fin = fin then some (o == o) else none) = _
  simp
theorem pe_n (b : Bool) : peV true (some b) = some (.sc (.bool (!b))) := by cases b <;> rfl
theorem us_1 {s : PS} {e k : Nat} {l : List UInt8} {low : Nat} {cs : List PV} (h : s.h k = ⟨cs, low, e⟩) (hb : bytesP (cs.take 1) = some l) (hl : low ≤ 1) (hc : cs.length = 1) : ustrP s e (.ptr k 0 1) (.sc (.int .i64 ((1 : Nat) : Int))) = some (.sc (.string ⟨⟨l⟩⟩), s.put k ⟨cs ++ [.sc undef], 3, e⟩) := by
  unfold ustrP
  simp only [h]
  rw [if_pos ⟨hl, by omega, by decide, by show 0 + 1 ≤ 1; omega, by show 1 ≤ 1073741824; omega, trivial⟩]
  rw [List.drop_zero, show (((1 : Nat) : Int).toNat) = 1 from rfl, hb, hc]
  rfl
end
end Go.PE
namespace Go.PE
open Go Go.EvL
def frz3 (m : Nat) (s : PS) (p : PV) : Option PV := match p with
  | .own k off n fin => if k < m then none else if (s.h k).low ≤ fin ∧ fin ≤ (s.h k).cells.length ∧ off ≤ fin then (frzL m s (((s.h k).cells.drop off).take (fin - off))).bind fun cs => if cs.all clean1 = true then some (.lit (s.h k).e n cs) else none else none
  | p => frz1 m s p
def frz3L (m : Nat) (s : PS) : List PV → Option (List PV)
  | [] => some []
  | p :: l => (frz3 m s p).bind fun p => (frz3L m s l).map fun l => p :: l
def frzA (m : Nat) (s : PS) (p : PV) : Option PV := match p with
  | .agg cs => (frz3L m s cs).map .agg
  | p => frz3 m s p
section
variable {P : Program} {A : AS} {β : Nat → Nat} {m : Nat} {s : PS}
theorem frz3_ok (hs : RS A β s) (hm : m ≤ s.n) {v : Value} {p p' : PV} (h : R1 A β s.n v p) (hf : frz3 m s p = some p') : R1 A β m v p' := by
  unfold frz3 at hf
  split at hf
  · rename_i k off n fin
    split at hf
    · cases hf
    rename_i hk
    split at hf
    · rename_i hc
      obtain ⟨c1, c2, c3⟩ := hc
      rw [Option.bind_eq_some_iff] at hf
      obtain ⟨cs, h1, hf⟩ := hf
      split at hf
      · rename_i hcl
        injection hf with hf; subst hf
        cases h with
        | cl _ _ h => cases h
        | own b o _ _ _ _ cap e cells st ok hk' hg ho hf hm' =>
          have hb := hs.blk k hk'
          obtain ⟨g1, g2, g3⟩ := hb.all _ _ _ _ _ hg
          obtain ⟨rfl, hr⟩ := g3 (by omega)
          have h2 := (hr.drop o).take (fin - off)
          rw [List.drop_take, List.take_take, List.drop_drop, ho, Nat.min_eq_left (by omega)] at h2
          have h3 := frzL_ok hs hm h2 h1
          have hlen : cs.length = fin - off := by
            rw [← h3.len, List.length_take, List.length_drop]; omega
          refine .cl _ _ ?_
          rw [← g1]
          refine .lit b o n cap e _ cells (β k) st hg ⟨hb.lt, fun j hj => fun he => ?_⟩ (by rw [hlen]; omega) hm' ?_
          · have := hs.inj j k (by omega) hk' he; omega
          · rw [hlen]
            exact cleans_ok h3 hcl
      · cases hf
    · cases hf
  · exact frz1_ok hs hm h hf
theorem frz3L_ok (hs : RS A β s) (hm : m ≤ s.n) : ∀ {l : List Value} {r r' : List PV}, Rs A β s.n l r → frz3L m s r = some r' → Rs A β m l r' := by
  intro l r
  induction r generalizing l with
  | nil => intro r' h hf; cases h; simp only [frz3L] at hf; injection hf with hf; subst hf; exact .nil
  | cons p r ih =>
    intro r' h hf
    simp only [frz3L, Option.bind_eq_some_iff, Option.map_eq_some_iff] at hf
    obtain ⟨p', h1, r1, h2, rfl⟩ := hf
    cases h with
    | cons v _ l _ h hn => exact .cons _ _ _ _ (frz3_ok hs hm h h1) (ih hn h2)
theorem frzA_ok (hs : RS A β s) (hm : m ≤ s.n) {v : Value} {p p' : PV} (h : R1 A β s.n v p) (hf : frzA m s p = some p') : R1 A β m v p' := by
  unfold frzA at hf
  split at hf
  · rename_i cs
    simp only [Option.map_eq_some_iff] at hf
    obtain ⟨r, h1, rfl⟩ := hf
    cases h with
    | cl _ _ h => cases h with | agg xs _ h => exact .agg xs _ (frz3L_ok hs hm (Cs.up h) h1)
    | agg xs _ h => exact .agg xs _ (frz3L_ok hs hm h h1)
  · exact frz3_ok hs hm h hf
/-- a call of which the result is frozen and the memory dropped -/
def fzc (c : PCallF) : PCallF := fun g args s => (c g args ⟨s.h, s.n, s.n⟩).bind fun q => if s.n ≤ q.2.w then (frzA s.n q.2 q.1).map fun v => (v, s) else none
theorem fzc_ok {pu pu' : Nat → Bool} {c : PCallF} (hc : PCallOK P pu c) : PCallOK P pu' (fzc c) := by
  intro g args s q s' h
  unfold fzc at h
  rw [Option.bind_eq_some_iff] at h
  obtain ⟨⟨v, s1⟩, h1, h2⟩ := h
  split at h2
  · rename_i hw
    have hw : s.n ≤ s1.w := hw
    rw [Option.map_eq_some_iff] at h2
    obtain ⟨v', h3, he⟩ := h2
    injection he with e1 e2; subst e1; subst e2
    obtain ⟨k1, kp, k2⟩ := hc g args ⟨s.h, s.n, s.n⟩ v s1 h1
    refine ⟨k1, .refl s, fun A β vs hi hs hr => ?_⟩
    have hs0 : RS A β ⟨s.h, s.n, s.n⟩ := ⟨hs.blk, hs.inj, hs.lay⟩
    obtain ⟨u, A', β', q0, q2, q3, q4, _⟩ := k2 A β vs hi hs0 hr
    have hwb : ∀ c, c < A.next → A'.w.testBit c = true → A.w.testBit c = true := fun c hc hb => by
      rcases q2.w c hc hb with h | ⟨k, a1, a2, _⟩
      · exact h
      · exact absurd a2 (Nat.not_lt.2 (Nat.le_trans hw a1))
    have hsm : Same s s1 := fun k hk => kp.h k hk (Nat.lt_of_lt_of_le hk hw)
    exact ⟨u, A', β', q0, ⟨Nat.le_refl _, q2.next, q2.eq, fun k a b => absurd b (Nat.not_lt.2 a), q2.prot, q2.keep, fun c hc hb => .inl (hwb c hc hb)⟩, q3.cut hs q2.le hsm, frzA_ok q3 q2.le q4 h3, fun _ => hwb⟩
  · cases h2
end
section
variable {P : Program} {c : ZCallF}
noncomputable def apV (s : PS) (e : Nat) (x y : PV) : Option (PV × PS) := match y with
  | .sc (.string b) => appP s e 1 1 x (bytePV b.data.toList) b.data.toList.length
  | _ => none
theorem z_apps (f : PFr) (s : PS) (e : Nat) (x y : Operand) : zact P c f s (.apps e x y) = zvs (apV s e (pval f x) (pval f y)) := rfl
theorem ap_s (s : PS) (e : Nat) (x : PV) (l : List UInt8) : apV s e x (.sc (.string ⟨⟨l⟩⟩)) = appP s e 1 1 x (bytePV l) l.length := rfl
theorem bp_len (l : List UInt8) : (bytePV l).length = l.length := List.length_map _
theorem bp_one (l : List UInt8) : (bytePV l).all oneP = true := by
  rw [List.all_eq_true]
  intro x hx
  obtain ⟨c, _, rfl⟩ := List.mem_map.1 hx
  rfl
theorem bp_app (a b : List UInt8) : bytePV a ++ bytePV b = bytePV (a ++ b) := (List.map_append).symm
theorem bp_bytes (l : List UInt8) : bytesP (bytePV l) = some l := by
  induction l with
  | nil => rfl
  | cons c l ih =>
    show (bytesP (bytePV l)).map _ = _
    rw [ih]
    simp [UInt8.ofNat_toNat]
end
end Go.PE
namespace Go.PE
open Go Go.EvL Go.Mir
theorem ZN : type_of% (And.intro (@run_seq) <| And.intro (@run_block) <| And.intro (@run_reg) <| And.intro (@run_draw) <| And.intro (@run_skip) <| And.intro (@run_exit) <| And.intro (@run_ret) <| And.intro (@run_cond) <| And.intro (@run_iff) <| And.intro (@run_sr) <| And.intro (@run_lt) <| And.intro (@rn_s) <| And.intro (@rn_b) <| And.intro (@rn_nil) <| And.intro (@re_s) <| And.intro (@re_b) <| And.intro (@rops_nil) <| And.intro (@rops_u) <| And.intro (@rops_g) <| And.intro (@ra_ok) <| And.intro (@ra_ok0) <| And.intro (@ra_pan) <| And.intro (@rops_mt) <| And.intro (@rops_mk) <| And.intro (@rg_t) <| And.intro (@rg_tf) <| And.intro (@rg_ft) <| And.intro (@rg_u) <| And.intro (@rg_d) <| And.intro (@rg_dn) <| And.intro (@gv_t) <| And.intro (@gv_al) <| And.intro (@rg_v) <| And.intro (@rg_vn) <| And.intro (@gk_ok) <| And.intro (@run_loop) <| And.intro (@ra_d) <| And.intro (@rn_lk) <| And.intro (@re_lk) <| And.intro (@rc_t) <| And.intro (@rc_f) <| And.intro (@rc_d) <| And.intro (@setD_s) <| And.intro (@setD_n) <| And.intro (@ZT_r) <| And.intro (@ZT_n) <| And.intro (@ZT_p) <| And.intro (@ztk_t) <| And.intro (@ztp_t) <| And.intro (@zv_s) <| And.intro (@zvs_s) <| And.intro (@z_mv) <| And.intro (@z_pick) <| And.intro (@pk_t) <| And.intro (@pk_f) <| And.intro (@pk_a) <| And.intro (@pk_o) <| And.intro (@pk_a1) <| And.intro (@pk_a0) <| And.intro (@pk_o0) <| And.intro (@pk_o1) <| And.intro (@z_box) <| And.intro (@z_alloc) <| And.intro (@z_len) <| And.intro (@len_s) <| And.intro (@z_sidx) <| And.intro (@six_s) <| And.intro (@z_bin) <| And.intro (@z_un) <| And.intro (@z_ext) <| And.intro (@z_call) <| And.intro (@z_load) <| And.intro (@z_fld) <| And.intro (@z_build) <| And.intro (@z_sslc) <| And.intro (@ssl_nn) <| And.intro (@ssl_sn) <| And.intro (@ssl_ns) <| And.intro (@ssl_ss) <| And.intro (@d_beq) <| And.intro (@d_not) <| And.intro (@d_tt) <| And.intro (@gt_e) <| And.intro (@ob_e) <| And.intro (@og_e) <| And.intro (@o0_e) <| And.intro (@g0_e) <| And.intro (@bn_e) <| And.intro (@bi_e) <| And.intro (@bc_e) <| And.intro (@pk_e) <| And.intro (@po_e) <| And.intro (@cl_e) <| And.intro (@init_0) <| And.intro (@init_1) <| And.intro (@set_at) <| And.intro (@pval_const) <| And.intro (@pval_func) <| And.intro (@pv_i) <| And.intro (@pv_s) <| And.intro (@pv_a) <| And.intro (@lit_c) <| And.intro (@pv_b) <| And.intro (@pv_l) <| And.intro (@pv_p) <| And.intro (@pv_nf) <| And.intro (@pv_ni) <| And.intro (@pv_t) <| And.intro (@bin_add) <| And.intro (@bin_sub) <| And.intro (@bin_lss) <| And.intro (@bin_leq) <| And.intro (@bin_gtr) <| And.intro (@bin_geq) <| And.intro (@bin_eql) <| And.intro (@bin_neq) <| And.intro (@bin_ceql) <| And.intro (@bin_cneq) <| And.intro (@bin_clss) <| And.intro (@bin_cleq) <| And.intro (@bin_cgtr) <| And.intro (@bin_cgeq) <| And.intro (@un_not) <| And.intro (@beqN) <| And.intro (@bneN) <| And.intro (@ltN) <| And.intro (@leN) <| And.intro (@gtN) <| And.intro (@geN) <| And.intro (@aN) <| And.intro (@seql) <| And.intro (@dec_nil) <| And.intro (@bin_seql) <| And.intro (@bin_sneq) <| And.intro (@sadd) <| And.intro (@bin_mul) <| And.intro (@mN) <| And.intro (@bin_csub) <| And.intro (@scN) <| And.intro (@z_conv) <| And.intro (@conv_c) <| And.intro (@ix_ge) <| And.intro (@ix_lt) <| And.intro (@ix_t) <| And.intro (@z_pcl) <| And.intro (@z_faddr) <| And.intro (@fa_p) <| And.intro (@List.nil_append.{0}) <| And.intro (@List.cons_append.{0}) <| And.intro (@List.append_nil.{0}) <| And.intro (@sN) <| And.intro (@List.map_cons.{0,0}) <| And.intro (@List.map_nil.{0,0}) <| And.intro (@Option.map_some.{0,0}) <| And.intro (@Option.map_none.{0,0}) <| And.intro (@Option.bind_some.{0,0}) <| And.intro (@new_n) <| And.intro (@new_w) <| And.intro (@put_n) <| And.intro (@put_w) <| And.intro (@ld_ptr) <| And.intro (@ce_agg) <| And.intro (@ce_sc) <| And.intro (@ce_own) <| And.intro (@ce_ptr) <| And.intro (@ce_fn) <| And.intro (@ce_lit) <| And.intro (@List.length_cons.{0}) <| And.intro (@List.length_nil.{0}) <| And.intro (@List.getElem?_cons_zero.{0}) <| And.intro (@List.getElem?_cons_succ.{0}) <| And.intro (@List.drop_succ_cons.{0}) <| And.intro (@List.drop_zero.{0}) <| And.intro (@List.take_succ_cons.{0}) <| And.intro (@List.take_zero.{0}) <| And.intro (@Nat.zero_add) <| And.intro (@Nat.add_zero) <| And.intro (@Nat.left_eq_add) <| And.intro (@Nat.add_eq_left) <| And.intro (@Nat.one_ne_zero) <| And.intro (@and_self) <| And.intro (@true_and) <| And.intro (@and_true) <| And.intro (@Nat.min_self) <| And.intro (@Nat.le_refl) <| And.intro (@Nat.zero_le) <| And.intro (@decide_true) <| And.intro (@decide_false) <| And.intro (@Bool.not_true) <| And.intro (@Bool.not_false) <| And.intro (@z_callt) <| And.intro (@zcl_fn) <| And.intro (@z_mkfn) <| And.intro (@z_mnx) <| And.intro (@mnx_n) <| And.intro (@bin_wlss) <| And.intro (@bin_wgtr) <| (@conv_w)) := And.intro (@run_seq) <| And.intro (@run_block) <| And.intro (@run_reg) <| And.intro (@run_draw) <| And.intro (@run_skip) <| And.intro (@run_exit) <| And.intro (@run_ret) <| And.intro (@run_cond) <| And.intro (@run_iff) <| And.intro (@run_sr) <| And.intro (@run_lt) <| And.intro (@rn_s) <| And.intro (@rn_b) <| And.intro (@rn_nil) <| And.intro (@re_s) <| And.intro (@re_b) <| And.intro (@rops_nil) <| And.intro (@rops_u) <| And.intro (@rops_g) <| And.intro (@ra_ok) <| And.intro (@ra_ok0) <| And.intro (@ra_pan) <| And.intro (@rops_mt) <| And.intro (@rops_mk) <| And.intro (@rg_t) <| And.intro (@rg_tf) <| And.intro (@rg_ft) <| And.intro (@rg_u) <| And.intro (@rg_d) <| And.intro (@rg_dn) <| And.intro (@gv_t) <| And.intro (@gv_al) <| And.intro (@rg_v) <| And.intro (@rg_vn) <| And.intro (@gk_ok) <| And.intro (@run_loop) <| And.intro (@ra_d) <| And.intro (@rn_lk) <| And.intro (@re_lk) <| And.intro (@rc_t) <| And.intro (@rc_f) <| And.intro (@rc_d) <| And.intro (@setD_s) <| And.intro (@setD_n) <| And.intro (@ZT_r) <| And.intro (@ZT_n) <| And.intro (@ZT_p) <| And.intro (@ztk_t) <| And.intro (@ztp_t) <| And.intro (@zv_s) <| And.intro (@zvs_s) <| And.intro (@z_mv) <| And.intro (@z_pick) <| And.intro (@pk_t) <| And.intro (@pk_f) <| And.intro (@pk_a) <| And.intro (@pk_o) <| And.intro (@pk_a1) <| And.intro (@pk_a0) <| And.intro (@pk_o0) <| And.intro (@pk_o1) <| And.intro (@z_box) <| And.intro (@z_alloc) <| And.intro (@z_len) <| And.intro (@len_s) <| And.intro (@z_sidx) <| And.intro (@six_s) <| And.intro (@z_bin) <| And.intro (@z_un) <| And.intro (@z_ext) <| And.intro (@z_call) <| And.intro (@z_load) <| And.intro (@z_fld) <| And.intro (@z_build) <| And.intro (@z_sslc) <| And.intro (@ssl_nn) <| And.intro (@ssl_sn) <| And.intro (@ssl_ns) <| And.intro (@ssl_ss) <| And.intro (@d_beq) <| And.intro (@d_not) <| And.intro (@d_tt) <| And.intro (@gt_e) <| And.intro (@ob_e) <| And.intro (@og_e) <| And.intro (@o0_e) <| And.intro (@g0_e) <| And.intro (@bn_e) <| And.intro (@bi_e) <| And.intro (@bc_e) <| And.intro (@pk_e) <| And.intro (@po_e) <| And.intro (@cl_e) <| And.intro (@init_0) <| And.intro (@init_1) <| And.intro (@set_at) <| And.intro (@pval_const) <| And.intro (@pval_func) <| And.intro (@pv_i) <| And.intro (@pv_s) <| And.intro (@pv_a) <| And.intro (@lit_c) <| And.intro (@pv_b) <| And.intro (@pv_l) <| And.intro (@pv_p) <| And.intro (@pv_nf) <| And.intro (@pv_ni) <| And.intro (@pv_t) <| And.intro (@bin_add) <| And.intro (@bin_sub) <| And.intro (@bin_lss) <| And.intro (@bin_leq) <| And.intro (@bin_gtr) <| And.intro (@bin_geq) <| And.intro (@bin_eql) <| And.intro (@bin_neq) <| And.intro (@bin_ceql) <| And.intro (@bin_cneq) <| And.intro (@bin_clss) <| And.intro (@bin_cleq) <| And.intro (@bin_cgtr) <| And.intro (@bin_cgeq) <| And.intro (@un_not) <| And.intro (@beqN) <| And.intro (@bneN) <| And.intro (@ltN) <| And.intro (@leN) <| And.intro (@gtN) <| And.intro (@geN) <| And.intro (@aN) <| And.intro (@seql) <| And.intro (@dec_nil) <| And.intro (@bin_seql) <| And.intro (@bin_sneq) <| And.intro (@sadd) <| And.intro (@bin_mul) <| And.intro (@mN) <| And.intro (@bin_csub) <| And.intro (@scN) <| And.intro (@z_conv) <| And.intro (@conv_c) <| And.intro (@ix_ge) <| And.intro (@ix_lt) <| And.intro (@ix_t) <| And.intro (@z_pcl) <| And.intro (@z_faddr) <| And.intro (@fa_p) <| And.intro (@List.nil_append.{0}) <| And.intro (@List.cons_append.{0}) <| And.intro (@List.append_nil.{0}) <| And.intro (@sN) <| And.intro (@List.map_cons.{0,0}) <| And.intro (@List.map_nil.{0,0}) <| And.intro (@Option.map_some.{0,0}) <| And.intro (@Option.map_none.{0,0}) <| And.intro (@Option.bind_some.{0,0}) <| And.intro (@new_n) <| And.intro (@new_w) <| And.intro (@put_n) <| And.intro (@put_w) <| And.intro (@ld_ptr) <| And.intro (@ce_agg) <| And.intro (@ce_sc) <| And.intro (@ce_own) <| And.intro (@ce_ptr) <| And.intro (@ce_fn) <| And.intro (@ce_lit) <| And.intro (@List.length_cons.{0}) <| And.intro (@List.length_nil.{0}) <| And.intro (@List.getElem?_cons_zero.{0}) <| And.intro (@List.getElem?_cons_succ.{0}) <| And.intro (@List.drop_succ_cons.{0}) <| And.intro (@List.drop_zero.{0}) <| And.intro (@List.take_succ_cons.{0}) <| And.intro (@List.take_zero.{0}) <| And.intro (@Nat.zero_add) <| And.intro (@Nat.add_zero) <| And.intro (@Nat.left_eq_add) <| And.intro (@Nat.add_eq_left) <| And.intro (@Nat.one_ne_zero) <| And.intro (@and_self) <| And.intro (@true_and) <| And.intro (@and_true) <| And.intro (@Nat.min_self) <| And.intro (@Nat.le_refl) <| And.intro (@Nat.zero_le) <| And.intro (@decide_true) <| And.intro (@decide_false) <| And.intro (@Bool.not_true) <| And.intro (@Bool.not_false) <| And.intro (@z_callt) <| And.intro (@zcl_fn) <| And.intro (@z_mkfn) <| And.intro (@z_mnx) <| And.intro (@mnx_n) <| And.intro (@bin_wlss) <| And.intro (@bin_wgtr) <| (@conv_w)
theorem ZM : type_of% (And.intro (@new_h') <| And.intro (@put_h') <| And.intro (@hn_eq) <| And.intro (@hn_ne) <| And.intro (@ZK_r) <| And.intro (@ZK_n) <| And.intro (@ZK_p) <| And.intro (@ZL_r) <| And.intro (@ZL_n) <| And.intro (@ZL_p) <| And.intro (@zlk_t) <| And.intro (@z_store) <| And.intro (@zst_s) <| And.intro (@st_e) <| And.intro (@z_bslice) <| And.intro (@z_app) <| And.intro (@el_nil) <| And.intro (@el_lit) <| And.intro (@el_own) <| And.intro (@app_nil) <| And.intro (@app_own) <| And.intro (@z_iaddr) <| And.intro (@ia_l) <| And.intro (@ia_o) <| And.intro (@fa_l) <| And.intro (@ld_l) <| And.intro (@z_slc) <| And.intro (@op_n) <| And.intro (@op_s) <| And.intro (@hi_l) <| And.intro (@hi_o) <| And.intro (@hi_n) <| And.intro (@one_i) <| And.intro (@one_s) <| And.intro (@one_b) <| And.intro (@one_n) <| And.intro (@one_o) <| And.intro (@one_l) <| And.intro (@one_p) <| And.intro (@cl_sc) <| And.intro (@cl_lit) <| And.intro (@fz_lit) <| And.intro (@fz_sc) <| And.intro (@fz_own) <| And.intro (@fzL_n) <| And.intro (@fzL_c) <| And.intro (@List.all_cons.{0}) <| And.intro (@List.all_nil.{0}) <| And.intro (@Bool.and_self) <| And.intro (@Bool.and_true) <| And.intro (@Bool.true_and) <| And.intro (@natP_cast) <| And.intro (@List.drop_nil.{0}) <| And.intro (@List.take_nil.{0}) <| And.intro (@Nat.sub_zero) <| And.intro (@len_n) <| And.intro (@len_o) <| And.intro (@len_l) <| And.intro (@ifa) <| And.intro (@slc_o) <| And.intro (@slc_l) <| And.intro (@app_0n) <| And.intro (@app_0o) <| And.intro (@Nat.zero_mul) <| And.intro (@z_nck) <| And.intro (@nck_p) <| And.intro (@z_mkif) <| And.intro (@z_bts) <| And.intro (@z_pan) <| And.intro (@if_flt) <| And.intro (@pan_flt) <| And.intro (@ZG_r) <| And.intro (@ZG_n) <| And.intro (@ZG_p) <| And.intro (@rsg_e) <| And.intro (@rp_n) <| And.intro (@rp_t) <| And.intro (@rp_c) <| And.intro (@z_slc3) <| And.intro (@s3_o) <| And.intro (@s3_n) <| And.intro (@len_ox) <| And.intro (@ia_ox) <| And.intro (@fz_ox) <| And.intro (@fz_ol) <| And.intro (@one_ox) <| And.intro (@one_fn) <| And.intro (@ZW_r) <| And.intro (@ZW_n) <| (@ZW_p)) := And.intro (@new_h') <| And.intro (@put_h') <| And.intro (@hn_eq) <| And.intro (@hn_ne) <| And.intro (@ZK_r) <| And.intro (@ZK_n) <| And.intro (@ZK_p) <| And.intro (@ZL_r) <| And.intro (@ZL_n) <| And.intro (@ZL_p) <| And.intro (@zlk_t) <| And.intro (@z_store) <| And.intro (@zst_s) <| And.intro (@st_e) <| And.intro (@z_bslice) <| And.intro (@z_app) <| And.intro (@el_nil) <| And.intro (@el_lit) <| And.intro (@el_own) <| And.intro (@app_nil) <| And.intro (@app_own) <| And.intro (@z_iaddr) <| And.intro (@ia_l) <| And.intro (@ia_o) <| And.intro (@fa_l) <| And.intro (@ld_l) <| And.intro (@z_slc) <| And.intro (@op_n) <| And.intro (@op_s) <| And.intro (@hi_l) <| And.intro (@hi_o) <| And.intro (@hi_n) <| And.intro (@one_i) <| And.intro (@one_s) <| And.intro (@one_b) <| And.intro (@one_n) <| And.intro (@one_o) <| And.intro (@one_l) <| And.intro (@one_p) <| And.intro (@cl_sc) <| And.intro (@cl_lit) <| And.intro (@fz_lit) <| And.intro (@fz_sc) <| And.intro (@fz_own) <| And.intro (@fzL_n) <| And.intro (@fzL_c) <| And.intro (@List.all_cons.{0}) <| And.intro (@List.all_nil.{0}) <| And.intro (@Bool.and_self) <| And.intro (@Bool.and_true) <| And.intro (@Bool.true_and) <| And.intro (@natP_cast) <| And.intro (@List.drop_nil.{0}) <| And.intro (@List.take_nil.{0}) <| And.intro (@Nat.sub_zero) <| And.intro (@len_n) <| And.intro (@len_o) <| And.intro (@len_l) <| And.intro (@ifa) <| And.intro (@slc_o) <| And.intro (@slc_l) <| And.intro (@app_0n) <| And.intro (@app_0o) <| And.intro (@Nat.zero_mul) <| And.intro (@z_nck) <| And.intro (@nck_p) <| And.intro (@z_mkif) <| And.intro (@z_bts) <| And.intro (@z_pan) <| And.intro (@if_flt) <| And.intro (@pan_flt) <| And.intro (@ZG_r) <| And.intro (@ZG_n) <| And.intro (@ZG_p) <| And.intro (@rsg_e) <| And.intro (@rp_n) <| And.intro (@rp_t) <| And.intro (@rp_c) <| And.intro (@z_slc3) <| And.intro (@s3_o) <| And.intro (@s3_n) <| And.intro (@len_ox) <| And.intro (@ia_ox) <| And.intro (@fz_ox) <| And.intro (@fz_ol) <| And.intro (@one_ox) <| And.intro (@one_fn) <| And.intro (@ZW_r) <| And.intro (@ZW_n) <| (@ZW_p)
theorem ZV : type_of% (And.intro (@zdr_nil) <| And.intro (@zdr_u) <| And.intro (@zdr_mt) <| And.intro (@zdr_mk) <| And.intro (@zda_ok) <| And.intro (@only_at) <| And.intro (@List.mem_cons.{0}) <| And.intro (@List.not_mem_nil.{0}) <| And.intro (@or_false) <| And.intro (@false_or) <| And.intro (@or_true) <| And.intro (@true_or) <| And.intro (@or_self) <| And.intro (@zda_pan) <| And.intro (@pz_pan) <| And.intro (@zda_d) <| (@pz_d)) := And.intro (@zdr_nil) <| And.intro (@zdr_u) <| And.intro (@zdr_mt) <| And.intro (@zdr_mk) <| And.intro (@zda_ok) <| And.intro (@only_at) <| And.intro (@List.mem_cons.{0}) <| And.intro (@List.not_mem_nil.{0}) <| And.intro (@or_false) <| And.intro (@false_or) <| And.intro (@or_true) <| And.intro (@true_or) <| And.intro (@or_self) <| And.intro (@zda_pan) <| And.intro (@pz_pan) <| And.intro (@zda_d) <| (@pz_d)
theorem ZU : type_of% (And.intro (@z_toU) <| And.intro (@toU_p) <| And.intro (@z_frU) <| And.intro (@frU_p) <| And.intro (@z_peq) <| And.intro (@peq_nn) <| And.intro (@peq_pn) <| And.intro (@peq_pp) <| And.intro (@pe_t) <| And.intro (@pe_n) <| And.intro (@z_sdata) <| And.intro (@sd_1) <| And.intro (@z_ustr) <| (@us_1)) := And.intro (@z_toU) <| And.intro (@toU_p) <| And.intro (@z_frU) <| And.intro (@frU_p) <| And.intro (@z_peq) <| And.intro (@peq_nn) <| And.intro (@peq_pn) <| And.intro (@peq_pp) <| And.intro (@pe_t) <| And.intro (@pe_n) <| And.intro (@z_sdata) <| And.intro (@sd_1) <| And.intro (@z_ustr) <| (@us_1)
end Go.PE
set_option linter.unusedSimpArgs false
namespace Go.Proofs.YtnocibbhognbeaaGreatDoor
open Go Go.EvL Go.PE Go.Mir
variable {ext : PCallF}
abbrev sv (l : List UInt8) : PV := .sc (.string ⟨⟨l⟩⟩)
abbrev iv (n : Nat) : PV := .sc (.int .i64 (n : Int))
abbrev cv (n : Nat) : PV := .sc (.int .u8 (n : Int))
abbrev nv : PV := .sc (.slice none 0 0)
abbrev tt : PV := .sc (.bool true)
abbrev ff : PV := .sc (.bool false)
abbrev aT (n : Nat) : List UInt8 := List.replicate n 97
abbrev aC (n : Nat) : List PV := [iv 1, sv (aT n), iv 0, ff, nv]
theorem aT_len (n : Nat) : (aT n).length = n := List.length_replicate
theorem aT_bt {n i : Nat} (h : i < n) : bt (aT n) i = 97 := by
  unfold bt
  rw [List.getD_eq_getElem?_getD, List.getElem?_replicate, if_pos h]
  rfl
theorem aT_f {n : Nat} {w : List UInt8} (h : Ar ((w.any fun c => c != 97) = true)) : (aT n = w) = False := by
  apply eq_false
  rintro rfl
  have h := h.h
  rw [List.any_eq_true] at h
  obtain ⟨c, h1, h2⟩ := h
  rw [List.eq_of_mem_replicate h1] at h2
  simp at h2
theorem aT_g {n : Nat} {w : List UInt8} (h : Ar ((w.any fun c => c != 97) = true)) : (w = aT n) = False := by
  rw [eq_comm (a := w), aT_f h]
theorem aT_1 {n : Nat} (h : 1 ≤ n) : (aT n).take 1 = [97] := by
  obtain ⟨m, rfl⟩ : ∃ m, n = m + 1 := ⟨n - 1, by omega⟩
  rfl
def idxI (l : List UInt8) (c : Nat) : Int := if (l.takeWhile fun x => x.toNat != c).length < l.length then ((l.takeWhile fun x => x.toNat != c).length : Int) else -1
theorem idx_eq (l : List UInt8) (c : UInt8) : Lib.indexByte l c = idxI l c.toNat := by
  induction l with
  | nil => rfl
  | cons b l ih =>
    unfold Lib.indexByte idxI
    rw [List.takeWhile_cons]
    by_cases hb : (b == c) = true
    · have e : (b.toNat != c.toNat) = false := by simp at hb; simp [hb]
      rw [if_pos hb, e]
      simp
    · have e : (b.toNat != c.toNat) = true := by
        simp at hb ⊢
        intro h
        exact hb (UInt8.toNat_inj.1 h)
      rw [if_neg hb, e, ih]
      unfold idxI
      simp only [if_true, List.length_cons]
      generalize (l.takeWhile fun x => x.toNat != c.toNat).length = t
      by_cases hl : t < l.length
      · have h1 : (((t : Nat) : Int) == -1) = false := by rw [Bool.eq_false_iff]; simp only [ne_eq, beq_iff_eq]; omega
        have h2 : t + 1 < l.length + 1 := by omega
        simp only [if_pos hl, h1, if_pos h2]
        rw [if_neg (by simp)]
        omega
      · have h2 : ¬ t + 1 < l.length + 1 := by omega
        simp only [if_neg hl, if_neg h2]
        rfl
theorem pure_index (b : ByteArray) (c : Int) : pureRun Tryz.prog (Extern.BytealgIndexByte.indexByte #[.string b, .int .u8 c]) = some (.int .i64 (idxI b.data.toList c.toNat.toUInt8.toNat)) := by
  have hex : ∃ x, pureRun Tryz.prog (Extern.BytealgIndexByte.indexByte #[.string b, .int .u8 c]) = some x := by
    show ∃ x, pureRun Tryz.prog (match (List.range b.size).find? fun i => b[i]! == c.toNat.toUInt8 with
      | some i => pure (goInt i)
      | none => pure (goInt (-1)) : Sem Value) = some x
    cases (List.range b.size).find? fun i => b[i]! == c.toNat.toUInt8 with
    | none => exact ⟨_, rfl⟩
    | some i => exact ⟨_, rfl⟩
  obtain ⟨x, hx⟩ := hex
  have h1 := pureRun_ok Tryz.prog _ hx default
  rw [Lib.run_indexByteString, idx_eq] at h1
  injection h1 with h1
  rw [hx, h1]
theorem find122 : Extern.findNext Tryz.f122 = none ∧ Extern.find Tryz.f122 = some Extern.BytealgIndexByte.indexByte := ⟨by kernel_rfl, by kernel_rfl⟩
theorem call122 (args : Array Value) : pureRun Tryz.prog (callFunc 122 args) = (pureRun Tryz.prog (Extern.BytealgIndexByte.indexByte args)).map Next.value := by
  unfold callFunc
  rw [pureRun_bind, show pureRun Tryz.prog program = some Tryz.prog from rfl]
  simp only [Option.bind_some]
  rw [Tryz.func122]
  simp only
  rw [if_neg (by rw [show (Tryz.f122.name == "runtime.NumGoroutine") = false from by kernel_rfl]; simp)]
  rw [if_pos (by kernel_rfl)]
  have hmk : ∀ m, pureRun Tryz.prog (mark m) = some () := fun _ => rfl
  rw [pureRun_bind, hmk]
  simp only [Option.bind_some]
  rw [find122.1, find122.2]
  show pureRun Tryz.prog (Extern.BytealgIndexByte.indexByte args >>= fun v => pure (Next.value v)) = _
  rw [pureRun_bind]
  cases pureRun Tryz.prog (Extern.BytealgIndexByte.indexByte args) <;> rfl
theorem pcl_index (b : ByteArray) {c : Nat} (hc : c < 256) : pclP Tryz.prog 122 [.sc (.string b), .sc (.int .u8 (c : Int))] = some (.sc (.int .i64 (idxI b.data.toList c))) := by
  unfold pclP
  simp only [scs, scalar, if_true, Option.map_some]
  rw [call122]
  show (match (pureRun Tryz.prog (Extern.BytealgIndexByte.indexByte #[.string b, .int .u8 (c : Int)])).map Next.value with | some (.value u) => if scalar u then some (PV.sc u) else none | _ => none) = _
  rw [pure_index]
  have : ((c : Int).toNat.toUInt8).toNat = c := by
    show (UInt8.ofNat c).toNat = c
    rw [UInt8.toNat_ofNat']
    omega
  rw [this]
  rfl
theorem idx_a (n : Nat) : idxI (aT n) 61 = -1 := by
  unfold idxI
  have : (aT n).takeWhile (fun x => x.toNat != 61) = aT n := by
    rw [List.takeWhile_replicate]
    rfl
  rw [this, if_neg (Nat.lt_irrefl _)]
section
variable {n : Nat} (h1 : 1 ≤ n) (h2 : n ≤ 16000)
theorem a304 (n : Nat) (s : PS) : zcall Tryz.prog Γ ext 107 [sv (aT n), cv 61] s = some (.ok (.sc (.int .i64 (-1))) s) := by
  have h := pcl_index ⟨⟨aT n⟩⟩ (c := 61) (by omega)
  rw [idx_a] at h
  refine zT_case (fn := p107) [4] rfl rfl rfl rfl (by unfold p107; rfl) ?_; intro R hR
  simp -implicitDefEqProofs (maxSteps := 3000000) (disch := first | assumption | (apply Ar.mk; omega)) only [ZN, ↓dt, ↓df, und_e, Nat.reduceEqDiff, ↓reduceIte, Nat.reduceAdd, Nat.reduceLeDiff, Nat.reduceLT, Nat.reduceBEq, reduceCtorEq, pval_tmp, fillP, oneRes, frz, frz2, frz1, frzT, new_h, put_h, ofCells, h]
  exact hR.symm
theorem a268 (n : Nat) (s : PS) : zcall Tryz.prog Γ ext 108 [sv (aT n), sv [61]] s = some (.ok (.sc (.int .i64 (-1))) s) := by
  have h1 : bt [61] 0 = 61 := rfl
  refine zT_case (fn := p108) [4] rfl rfl rfl rfl (by unfold p108; rfl) ?_; intro R hR
  simp -implicitDefEqProofs (maxSteps := 3000000) (disch := first | assumption | (apply Ar.mk; omega) | (apply Ar.mk; decide) | (apply Ar.mk; simp only [List.length_append, List.length_cons, List.length_nil, true_and, and_true]; omega)) only [ZN, ↓dt, ↓df, und_e, Nat.reduceEqDiff, ↓reduceIte, Nat.reduceAdd, Nat.reduceLeDiff, Nat.reduceLT, Nat.reduceBEq, reduceCtorEq, pval_tmp, fillP, oneRes, frz, frz2, frz1, frzT, new_h, put_h, ofCells, pk_dt, pk_df, ↓gk_t, ↓gk_f, h1, a304, aT_f, aT_g]
  exact hR.symm
theorem a214 (n : Nat) (s : PS) : zcall Tryz.prog Γ ext 88 [sv (aT n), sv [61]] s = some (.ok (.tup [sv (aT n), sv [], ff]) s) := by
  refine zT_case (fn := p88) [4, 5, 6] rfl rfl rfl rfl (by unfold p88; rfl) ?_; intro R hR
  simp -implicitDefEqProofs (maxSteps := 3000000) (disch := first | assumption | (apply Ar.mk; omega) | (apply Ar.mk; decide) | (apply Ar.mk; simp only [List.length_append, List.length_cons, List.length_nil, true_and, and_true]; omega)) only [ZN, ↓dt, ↓df, und_e, Nat.reduceEqDiff, ↓reduceIte, Nat.reduceAdd, Nat.reduceLeDiff, Nat.reduceLT, Nat.reduceBEq, reduceCtorEq, pval_tmp, fillP, oneRes, frz, frz2, frz1, frzT, new_h, put_h, ofCells, pk_dt, pk_df, ↓gk_t, ↓gk_f, a268]
  exact hR.symm
theorem a152 (n : Nat) (s : PS) : zcall Tryz.prog Γ ext 73 [sv (aT n), sv [61]] s = some (.ok (.tup [sv (aT n), sv [], ff]) s) := by
  refine zT_case (fn := p73) [4, 5, 6] rfl rfl rfl rfl (by unfold p73; rfl) ?_; intro R hR
  simp -implicitDefEqProofs (maxSteps := 3000000) (disch := first | assumption | (apply Ar.mk; omega) | (apply Ar.mk; decide) | (apply Ar.mk; simp only [List.length_append, List.length_cons, List.length_nil, true_and, and_true]; omega)) only [ZN, ↓dt, ↓df, und_e, Nat.reduceEqDiff, ↓reduceIte, Nat.reduceAdd, Nat.reduceLeDiff, Nat.reduceLT, Nat.reduceBEq, reduceCtorEq, pval_tmp, fillP, oneRes, frz, frz2, frz1, frzT, new_h, put_h, ofCells, pk_dt, pk_df, ↓gk_t, ↓gk_f, a214]
  exact hR.symm
theorem a233 (n : Nat) (s : PS) : zcall Tryz.prog Γ ext 61 [sv (aT n)] s = some (.ok ff s) := by
  refine zT_case (fn := p61) [2] rfl rfl rfl rfl (by unfold p61; rfl) ?_; intro R hR
  simp -implicitDefEqProofs (maxSteps := 3000000) (disch := first | assumption | (apply Ar.mk; omega) | (apply Ar.mk; decide) | (apply Ar.mk; simp only [List.length_append, List.length_cons, List.length_nil, true_and, and_true]; omega)) only [ZN, ↓dt, ↓df, und_e, Nat.reduceEqDiff, ↓reduceIte, Nat.reduceAdd, Nat.reduceLeDiff, Nat.reduceLT, Nat.reduceBEq, reduceCtorEq, pval_tmp, fillP, oneRes, frz, frz2, frz1, frzT, new_h, put_h, ofCells, pk_dt, pk_df, ↓gk_t, ↓gk_f, aT_f]
  exact hR.symm
theorem a339 (s : PS) : zcall Tryz.prog Γ ext 109 [iv 0, cv 97, ff] s = some (.ok ff s) := by
  refine zT_case (fn := p109) [6] rfl rfl rfl rfl (by unfold p109; rfl) ?_; intro R hR
  simp -implicitDefEqProofs (maxSteps := 3000000) (disch := first | assumption | (apply Ar.mk; omega) | (apply Ar.mk; decide) | (apply Ar.mk; simp only [List.length_append, List.length_cons, List.length_nil, true_and, and_true]; omega)) only [ZN, ↓dt, ↓df, und_e, Nat.reduceEqDiff, ↓reduceIte, Nat.reduceAdd, Nat.reduceLeDiff, Nat.reduceLT, Nat.reduceBEq, reduceCtorEq, pval_tmp, fillP, oneRes, frz, frz2, frz1, frzT, new_h, put_h, ofCells, pk_dt, pk_df, ↓gk_t, ↓gk_f]
  exact hR.symm
include h1 h2
theorem a277 (s : PS) : zcall Tryz.prog Γ ext 76 [sv (aT n), sv [35]] s = some (.ok ff s) := by
  have hl := aT_len n
  have ht := aT_1 h1
  refine zT_case (fn := p76) [4] rfl rfl rfl rfl (by unfold p76; rfl) ?_; intro R hR
  simp -implicitDefEqProofs (maxSteps := 3000000) (disch := first | assumption | (apply Ar.mk; omega) | (apply Ar.mk; decide) | (apply Ar.mk; simp only [List.length_append, List.length_cons, List.length_nil, true_and, and_true]; omega)) only [ZN, ↓dt, ↓df, und_e, Nat.reduceEqDiff, ↓reduceIte, Nat.reduceAdd, Nat.reduceLeDiff, Nat.reduceLT, Nat.reduceBEq, reduceCtorEq, pval_tmp, fillP, oneRes, frz, frz2, frz1, frzT, new_h, put_h, ofCells, pk_dt, pk_df, ↓gk_t, ↓gk_f, hl, ht]
  exact hR.symm
theorem a234 (s : PS) : zcall Tryz.prog Γ ext 64 [sv (aT n), sv [35]] s = some (.ok ff s) := by
  have h := fun s => a277 (ext := ext) h1 h2 s
  refine zT_case (fn := p64) [4] rfl rfl rfl rfl (by unfold p64; rfl) ?_; intro R hR
  simp -implicitDefEqProofs (maxSteps := 3000000) (disch := first | assumption | (apply Ar.mk; omega)) only [ZN, ↓dt, ↓df, und_e, Nat.reduceEqDiff, ↓reduceIte, Nat.reduceAdd, Nat.reduceLeDiff, Nat.reduceLT, Nat.reduceBEq, reduceCtorEq, pval_tmp, fillP, oneRes, frz, frz2, frz1, frzT, new_h, put_h, ofCells, h]
  exact hR.symm
end
theorem a186n (s : PS) : zcall Tryz.prog Γ ext 65 [nv, nv] s = some (.ok tt s) := by
  have h : ∀ s : PS, zcall Tryz.prog Γ ext 77 [nv, nv, .fn 78 [] []] s = some (.ok tt s) := fun s => by
    refine zT_case (fn := p77) [6] rfl rfl rfl rfl (by unfold p77; rfl) ?_; intro R hR
    subst hR
    simp -implicitDefEqProofs (maxSteps := 3000000) (disch := first | assumption | (apply Ar.mk; omega) | (apply Ar.mk; simp only [List.length_append, List.length_cons, List.length_nil, true_and, and_true]; omega)) only [ZN, ↓dt, ↓df, und_e, Nat.reduceEqDiff, ↓reduceIte, Nat.reduceAdd, Nat.reduceLeDiff, Nat.reduceLT, Nat.reduceBEq, reduceCtorEq, pval_tmp, fillP, oneRes, frz, frz2, frzT, ofCells, ZM, slV, Nat.reduceMul, Nat.reduceSub, frzT, pk_dt, pk_df, ↓gk_t, ↓gk_f]
    refine rl_case (by unfold b77_0; rfl) (by unfold r77_0; rfl) ?_; intro hr R hR
    simp -implicitDefEqProofs (maxSteps := 3000000) (disch := first | assumption | (apply Ar.mk; omega) | (apply Ar.mk; simp only [List.length_append, List.length_cons, List.length_nil, true_and, and_true]; omega)) only [ZN, ↓dt, ↓df, und_e, Nat.reduceEqDiff, ↓reduceIte, Nat.reduceAdd, Nat.reduceLeDiff, Nat.reduceLT, Nat.reduceBEq, reduceCtorEq, pval_tmp, fillP, oneRes, frz, frz2, frzT, ofCells, ZM, slV, Nat.reduceMul, Nat.reduceSub, frzT, pk_dt, pk_df, ↓gk_t, ↓gk_f, hr]
    exact hR.symm
  refine zT_case (fn := p65) [4] rfl rfl rfl rfl (by unfold p65; rfl) ?_; intro R hR
  simp -implicitDefEqProofs (maxSteps := 3000000) (disch := first | assumption | (apply Ar.mk; omega)) only [ZN, ↓dt, ↓df, und_e, Nat.reduceEqDiff, ↓reduceIte, Nat.reduceAdd, Nat.reduceLeDiff, Nat.reduceLT, Nat.reduceBEq, reduceCtorEq, pval_tmp, fillP, oneRes, frz, frz2, frz1, frzT, new_h, put_h, ofCells, h]
  exact hR.symm
theorem a249 (n : Nat) (s : PS) : zcall Tryz.prog Γ ext 78 [.agg (aC n), .agg (aC n)] s = some (.ok tt s) := by
  have hb1 := fun x y a b => bin_beql (P := Tryz.prog) (t := 4) Tryz.underlying4 x y a b
  have h := fun s => a186n (ext := ext) s
  have eff : ((false : Bool) == false) = true := rfl
  refine zT_case (fn := p78) [4] rfl rfl rfl rfl (by unfold p78; rfl) ?_; intro R hR
  simp -implicitDefEqProofs (maxSteps := 3000000) (disch := first | assumption | (apply Ar.mk; omega) | (apply Ar.mk; decide) | (apply Ar.mk; simp only [List.length_append, List.length_cons, List.length_nil, true_and, and_true]; omega)) only [ZN, ↓dt, ↓df, und_e, Nat.reduceEqDiff, ↓reduceIte, Nat.reduceAdd, Nat.reduceLeDiff, Nat.reduceLT, Nat.reduceBEq, reduceCtorEq, pval_tmp, fillP, oneRes, frz, frz2, frzT, ofCells, ZM, slV, Nat.reduceMul, Nat.reduceSub, frzT, pk_dt, pk_df, ↓gk_t, ↓gk_f, h, hb1, eff]
  exact hR.symm
/-- the parts of the word, and the word -/
abbrev pV (n : Nat) : PV := .lit 38 1 (aC n)
abbrev wV (n : Nat) : List PV := [iv 0, pV n]
theorem a190 (n : Nat) (s : PS) : zcall Tryz.prog Γ ext 60 [.agg (wV n)] s = some (.ok (.tup [sv (aT n), tt]) s) := by
  refine zT_case (fn := p60) [2, 3] rfl rfl rfl rfl (by unfold p60; rfl) ?_; intro R hR
  simp -implicitDefEqProofs (maxSteps := 3000000) (disch := first | assumption | (apply Ar.mk; omega) | (apply Ar.mk; simp only [List.length_append, List.length_cons, List.length_nil, true_and, and_true]; omega)) only [ZN, ↓dt, ↓df, und_e, Nat.reduceEqDiff, ↓reduceIte, Nat.reduceAdd, Nat.reduceLeDiff, Nat.reduceLT, Nat.reduceBEq, reduceCtorEq, pval_tmp, fillP, oneRes, frz, frz2, frzT, ofCells, ZM, slV, Nat.reduceMul, Nat.reduceSub, frzT, pk_dt, pk_df, ↓gk_t, ↓gk_f]
  exact hR.symm
theorem a253 (n : Nat) (s : PS) : zcall Tryz.prog Γ ext 62 [.agg (wV n)] s = some (.ok ff s) := by
  have h := fun s => a152 (ext := ext) n s
  refine zT_case (fn := p62) [2] rfl rfl rfl rfl (by unfold p62; rfl) ?_; intro R hR
  simp -implicitDefEqProofs (maxSteps := 3000000) (disch := first | assumption | (apply Ar.mk; omega) | (apply Ar.mk; simp only [List.length_append, List.length_cons, List.length_nil, true_and, and_true]; omega)) only [ZN, ↓dt, ↓df, und_e, Nat.reduceEqDiff, ↓reduceIte, Nat.reduceAdd, Nat.reduceLeDiff, Nat.reduceLT, Nat.reduceBEq, reduceCtorEq, pval_tmp, fillP, oneRes, frz, frz2, frzT, ofCells, ZM, slV, Nat.reduceMul, Nat.reduceSub, frzT, pk_dt, pk_df, ↓gk_t, ↓gk_f, h]
  exact hR.symm
theorem a248 (n : Nat) (s : PS) : zcall Tryz.prog Γ ext 77 [pV n, pV n, .fn 78 [] []] s = some (.ok tt s) := by
  have h := fun s => a249 (ext := ext) n s
  refine zT_case (fn := p77) [6] rfl rfl rfl rfl (by unfold p77; rfl) ?_; intro R hR
  subst hR
  simp -implicitDefEqProofs (maxSteps := 3000000) (disch := first | assumption | (apply Ar.mk; omega) | (apply Ar.mk; simp only [List.length_append, List.length_cons, List.length_nil, true_and, and_true]; omega)) only [ZN, ↓dt, ↓df, und_e, Nat.reduceEqDiff, ↓reduceIte, Nat.reduceAdd, Nat.reduceLeDiff, Nat.reduceLT, Nat.reduceBEq, reduceCtorEq, pval_tmp, fillP, oneRes, frz, frz2, frzT, ofCells, ZM, slV, Nat.reduceMul, Nat.reduceSub, frzT, pk_dt, pk_df, ↓gk_t, ↓gk_f]
  refine rl_case (by unfold b77_0; rfl) (by unfold r77_0; rfl) ?_; intro hr R hR
  subst hR
  simp -implicitDefEqProofs (maxSteps := 3000000) (disch := first | assumption | (apply Ar.mk; omega) | (apply Ar.mk; simp only [List.length_append, List.length_cons, List.length_nil, true_and, and_true]; omega)) only [ZN, ↓dt, ↓df, und_e, Nat.reduceEqDiff, ↓reduceIte, Nat.reduceAdd, Nat.reduceLeDiff, Nat.reduceLT, Nat.reduceBEq, reduceCtorEq, pval_tmp, fillP, oneRes, frz, frz2, frzT, ofCells, ZM, slV, Nat.reduceMul, Nat.reduceSub, frzT, pk_dt, pk_df, ↓gk_t, ↓gk_f, hr, h]
  refine rl_case (by unfold b77_0; rfl) (by unfold r77_0; rfl) ?_; intro hr R hR
  simp -implicitDefEqProofs (maxSteps := 3000000) (disch := first | assumption | (apply Ar.mk; omega) | (apply Ar.mk; simp only [List.length_append, List.length_cons, List.length_nil, true_and, and_true]; omega)) only [ZN, ↓dt, ↓df, und_e, Nat.reduceEqDiff, ↓reduceIte, Nat.reduceAdd, Nat.reduceLeDiff, Nat.reduceLT, Nat.reduceBEq, reduceCtorEq, pval_tmp, fillP, oneRes, frz, frz2, frzT, ofCells, ZM, slV, Nat.reduceMul, Nat.reduceSub, frzT, pk_dt, pk_df, ↓gk_t, ↓gk_f, hr]
  exact hR.symm
theorem a186 (n : Nat) (s : PS) : zcall Tryz.prog Γ ext 65 [pV n, pV n] s = some (.ok tt s) := by
  have h := fun s => a248 (ext := ext) n s
  refine zT_case (fn := p65) [4] rfl rfl rfl rfl (by unfold p65; rfl) ?_; intro R hR
  simp -implicitDefEqProofs (maxSteps := 3000000) (disch := first | assumption | (apply Ar.mk; omega) | (apply Ar.mk; simp only [List.length_append, List.length_cons, List.length_nil, true_and, and_true]; omega)) only [ZN, ↓dt, ↓df, und_e, Nat.reduceEqDiff, ↓reduceIte, Nat.reduceAdd, Nat.reduceLeDiff, Nat.reduceLT, Nat.reduceBEq, reduceCtorEq, pval_tmp, fillP, oneRes, frz, frz2, frzT, ofCells, ZM, slV, Nat.reduceMul, Nat.reduceSub, frzT, pk_dt, pk_df, ↓gk_t, ↓gk_f, h]
  exact hR.symm
end Go.Proofs.YtnocibbhognbeaaGreatDoor
set_option linter.unusedSimpArgs false
namespace Go.Proofs.YtnocibbhognbeaaGreatDoor
open Go Go.EvL Go.PE Go.Mir
variable {ext : PCallF}
def PX (z : Option ZR) (v : PV) (Q : PS → Prop) : Prop := ∃ s, z = some (.ok v s) ∧ Q s
theorem PX.mk' {v : PV} {s : PS} {Q : PS → Prop} (q : Q s) : PX (some (.ok v s)) v Q := ⟨s, rfl, q⟩
section
variable {F : ZC → Option ZR} {v : PV} {Q Q' : PS → Prop}
theorem zK_px {g : Nat} {fn : PFn} {args : List PV} {s : PS} {B : PCode} (res : List Nat) (h : Γ g = some fn) (hr : fn.res = res.map .tmp) (hk : fn.keep = true) (hl : Nat.ble args.length fn.nt = true) (hb : fn.body = B)
    (hR : PX (zr Tryz.prog Γ ext (ZK res s) B (initP args 0) ⟨s.h, s.n, s.n⟩ []) v Q) : PX (zcall Tryz.prog Γ ext g args s) v Q := by
  rw [z_enter fn h args s (Nat.le_of_ble_eq_true hl), ZK_eq hr hk, hb]; exact hR
theorem zW_px {g : Nat} {fn : PFn} {args : List PV} {s : PS} {B : PCode} (res : List PRes) (h : Γ g = some fn) (hr : fn.res = res) (hk : fn.keep = true) (hl : Nat.ble args.length fn.nt = true) (hb : fn.body = B)
    (hR : PX (zr Tryz.prog Γ ext (ZW res s) B (initP args 0) ⟨s.h, s.n, s.n⟩ []) v Q) : PX (zcall Tryz.prog Γ ext g args s) v Q := by
  rw [z_enter fn h args s (Nat.le_of_ble_eq_true hl), ZW_eq hr hk, hb]; exact hR
theorem ra_px {z : Option ZR} {v' : PV} {d : Option Nat} {f : PFr} {l : List PI} {k : List KI} (h : PX z v' Q') (hR : ∀ s, Q' s → PX (ra Tryz.prog Γ ext F (some (.ok v' s)) d f l k) v Q) : PX (ra Tryz.prog Γ ext F z d f l k) v Q := by
  obtain ⟨s, rfl, hq⟩ := h
  exact hR s hq
theorem zda_px {z : Option ZR} {v' : PV} {b pu : Bool} {d : Option Nat} {o : POp} {E : Eff} {un : List Nat} {l : List (PI × List Nat × List Nat)} {j : Nat} {acc : List (Nat × Eff × Nat × Nat)} {f : PFr} {s0 : PS} {k : List KI} (h : PX z v' Q') (hR : ∀ s, Q' s → PX (zda Tryz.prog Γ ext F (some (.ok v' s)) b d o E pu un l j acc f s0 k) v Q) : PX (zda Tryz.prog Γ ext F z b d o E pu un l j acc f s0 k) v Q := by
  obtain ⟨s, rfl, hq⟩ := h
  exact hR s hq
def PY (z : Option ZR) (Q : PV → PS → Prop) : Prop := ∃ v s, z = some (.ok v s) ∧ Q v s
theorem PY.mk' {v : PV} {s : PS} {Q : PV → PS → Prop} (q : Q v s) : PY (some (.ok v s)) Q := ⟨v, s, rfl, q⟩
theorem zK_py {Q : PV → PS → Prop} {g : Nat} {fn : PFn} {args : List PV} {s : PS} {B : PCode} (res : List Nat) (h : Γ g = some fn) (hr : fn.res = res.map .tmp) (hk : fn.keep = true) (hl : Nat.ble args.length fn.nt = true) (hb : fn.body = B)
    (hR : PY (zr Tryz.prog Γ ext (ZK res s) B (initP args 0) ⟨s.h, s.n, s.n⟩ []) Q) : PY (zcall Tryz.prog Γ ext g args s) Q := by
  rw [z_enter fn h args s (Nat.le_of_ble_eq_true hl), ZK_eq hr hk, hb]; exact hR
theorem ra_py {Q : PV → PS → Prop} {z : Option ZR} {v' : PV} {d : Option Nat} {f : PFr} {l : List PI} {k : List KI} (h : PX z v' Q') (hR : ∀ s, Q' s → PY (ra Tryz.prog Γ ext F (some (.ok v' s)) d f l k) Q) : PY (ra Tryz.prog Γ ext F z d f l k) Q := by
  obtain ⟨s, rfl, hq⟩ := h
  exact hR s hq
theorem ra_y {Q : PV → PS → Prop} {z : Option ZR} {d : Option Nat} {f : PFr} {l : List PI} {k : List KI} {R : Option ZR} (h : PY z Q) (hR : ∀ v s, Q v s → ra Tryz.prog Γ ext F (some (.ok v s)) d f l k = R) : ra Tryz.prog Γ ext F z d f l k = R := by
  obtain ⟨v, s, rfl, hq⟩ := h
  exact hR v s hq
theorem loop_u {b B : PCode} (hb : b = B) (f : PFr) (s : PS) (k : List KI) : zr Tryz.prog Γ ext F (.loop b) f s k = zr Tryz.prog Γ ext F B f s (.s (.loop b) :: k) := by
  rw [loop_1]; subst hb; rfl
theorem rl_u {id : Nat} {b B r : PCode} (hb : b = B) (f : PFr) (s : PS) (k : List KI) : rl Tryz.prog Γ ext (F) id b r f s k = zr Tryz.prog Γ ext F B f s (lk id b r k) := by
  rw [rl_step]; subst hb; rfl
end
theorem ra_x {F : ZC → Option ZR} {z : Option ZR} {v' : PV} {Q' : PS → Prop} {d : Option Nat} {f : PFr} {l : List PI} {k : List KI} {R : Option ZR} (h : PX z v' Q') (hR : ∀ s, Q' s → ra Tryz.prog Γ ext F (some (.ok v' s)) d f l k = R) : ra Tryz.prog Γ ext F z d f l k = R := by
  obtain ⟨s, rfl, hq⟩ := h
  exact hR s hq
theorem fo277 : fromOk Tryz.prog 109 48 0 1 3 = true := by kernel_rfl
/-- the cells of a writer's text: i letters -/
abbrev cvs (i : Nat) : List PV := List.replicate i (cv 97)
theorem cvs_snoc (i : Nat) : cvs i ++ [cv 97] = cvs (i + 1) := by simp [List.replicate_succ']
theorem cvs_len (i : Nat) : (cvs i).length = i := List.length_replicate
theorem cvs_bytes (i : Nat) : bytesP (cvs i) = some (aT i) := by
  induction i with
  | zero => rfl
  | succ i ih =>
    show (bytesP (cvs i)).map _ = _
    rw [ih]
    rfl
/-- the writer at k holds i letters, in blocks from b on -/
def WrS (k b i : Nat) (s : PS) : Prop := (i = 0 ∧ s.h k = ⟨[.sc (.pointer none), nv, ff], 0, 109⟩) ∨ (0 < i ∧ ∃ j low, low ≤ i ∧ b ≤ j ∧ j < s.n ∧ s.h k = ⟨[.ptr k 0 3, .own j 0 i i, ff], 3, 109⟩ ∧ s.h j = ⟨cvs i, low, 5⟩)
theorem WrS.fr {k b i : Nat} {s s' : PS} (h : WrS k b i s) (hn : s.n ≤ s'.n) (hk : k < s.n) (hh : ∀ j, j < s.n → s'.h j = s.h j) : WrS k b i s' := by
  rcases h with ⟨h1, h2⟩ | ⟨h0, j, low, h1, h2, h3, h4, h5⟩
  · exact .inl ⟨h1, (hh k hk).trans h2⟩
  · exact .inr ⟨h0, j, low, h1, h2, by omega, (hh k hk).trans h4, (hh j h3).trans h5⟩
/-- what a call on the writer at k leaves alone -/
structure Wr (k b i : Nat) (s s' : PS) : Prop where
  n : s.n ≤ s'.n
  at' : WrS k b i s'
  fr : ∀ j, j < b → j ≠ k → s'.h j = s.h j
  w : ∀ n0, n0 ≤ k → n0 ≤ b → n0 ≤ s.w → n0 ≤ s'.w
theorem Wr.fin {k b i : Nat} {s t s1 : PS} (h : Wr k b i t s1) (hn : s.n ≤ t.n) (hh : ∀ j, j < b → j ≠ k → t.h j = s.h j) (hw : ∀ n0, n0 ≤ k → n0 ≤ b → n0 ≤ s.w → n0 ≤ t.w) (hwb : ∀ n0, n0 ≤ k → n0 ≤ b → n0 ≤ t.w) : Wr k b i s ⟨s1.h, s1.n, min s.w s1.w⟩ where
  n := Nat.le_trans hn h.n
  at' := h.at'
  fr := fun j hj hk => (h.fr j hj hk).trans (hh j hj hk)
  w := fun n0 h1 h2 h3 => Nat.le_min.2 ⟨h3, h.w n0 h1 h2 (hwb n0 h1 h2)⟩
section
variable {k b i : Nat} {s : PS}
theorem a281 (hk : s.h k = ⟨[.sc (.pointer none), nv, ff], 0, 109⟩) : zcall Tryz.prog Γ ext 55 [.ptr k 0 3] s = some (.ok (.tup []) ⟨(s.put k ⟨[.ptr k 0 3, nv, ff], 3, 109⟩).h, s.n, min s.w (min s.n k)⟩) := by
  have hf := fo277
  refine zK_case (fn := p55) [] rfl rfl rfl rfl (by unfold p55; rfl) ?_; intro R hR
  simp -implicitDefEqProofs (maxSteps := 3000000) (disch := first | assumption | (apply Ar.mk; omega) | (apply Ar.mk; decide) | (apply Ar.mk; simp only [List.length_append, List.length_cons, List.length_nil, true_and, and_true]; omega)) only [ZN, ↓dt, ↓df, und_e, Nat.reduceEqDiff, ↓reduceIte, Nat.reduceAdd, Nat.reduceLeDiff, Nat.reduceLT, Nat.reduceBEq, reduceCtorEq, pval_tmp, fillP, oneRes, frz, frz2, frzT, ofCells, ZM, slV, Nat.reduceMul, Nat.reduceSub, frzT, pk_dt, pk_df, ↓gk_t, ↓gk_f, ZU, hk, hf]
  exact hR.symm
theorem a281' {v : PV} (hk : s.h k = ⟨[.ptr k 0 3, v, ff], 3, 109⟩) : zcall Tryz.prog Γ ext 55 [.ptr k 0 3] s = some (.ok (.tup []) ⟨s.h, s.n, min s.w s.n⟩) := by
  refine zK_case (fn := p55) [] rfl rfl rfl rfl (by unfold p55; rfl) ?_; intro R hR
  simp -implicitDefEqProofs (maxSteps := 3000000) (disch := first | assumption | (apply Ar.mk; omega) | (apply Ar.mk; decide) | (apply Ar.mk; simp only [List.length_append, List.length_cons, List.length_nil, true_and, and_true]; omega)) only [ZN, ↓dt, ↓df, und_e, Nat.reduceEqDiff, ↓reduceIte, Nat.reduceAdd, Nat.reduceLeDiff, Nat.reduceLT, Nat.reduceBEq, reduceCtorEq, pval_tmp, fillP, oneRes, frz, frz2, frzT, ofCells, ZM, slV, Nat.reduceMul, Nat.reduceSub, frzT, pk_dt, pk_df, ↓gk_t, ↓gk_f, ZU, hk]
  exact hR.symm
theorem a296 (h : WrS k b i s) (hkb : k < b) (hb : b ≤ s.n) (hi : i < 100000) : PX (zcall Tryz.prog Γ ext 70 [.ptr k 0 3, cv 97] s) (.sc .nilIface) (Wr k b (i + 1) s) := by
  rcases h with ⟨rfl, hk⟩ | ⟨h0, j, low, g1, g2, g3, g4, g5⟩
  · have h1 : zcall Tryz.prog Γ ext 55 [.ptr k 0 3] ⟨s.h, s.n, s.n⟩ = _ := a281 (ext := ext) (s := ⟨s.h, s.n, s.n⟩) hk
    refine zK_px (fn := p70) [4] rfl rfl rfl rfl (by unfold p70; rfl) ?_
    simp -implicitDefEqProofs (maxSteps := 3000000) (disch := first | assumption | (apply Ar.mk; omega) | (apply Ar.mk; simp only [List.length_append, List.length_cons, List.length_nil, true_and, and_true]; omega)) only [ZN, ↓dt, ↓df, und_e, Nat.reduceEqDiff, ↓reduceIte, Nat.reduceAdd, Nat.reduceLeDiff, Nat.reduceLT, Nat.reduceBEq, reduceCtorEq, pval_tmp, fillP, oneRes, frz, frz2, frzT, ofCells, ZM, slV, Nat.reduceMul, Nat.reduceSub, frzT, pk_dt, pk_df, ↓gk_t, ↓gk_f, ZU, hk, h1]
    refine PX.mk' ⟨?_, .inr ⟨by omega, s.n + 1, 0, by omega, ?_, ?_, ?_, ?_⟩, fun i h1 h2 => ?_, fun n0 h1 h2 h3 => ?_⟩
    · (simp only [new_n, put_n]; omega)
    · omega
    · (simp only [new_n, put_n]; omega)
    · simp -implicitDefEqProofs (disch := (apply Ar.mk; (try simp only [new_n, put_n]); omega)) only [new_h', put_h', new_n, put_n, hn_ne, hn_eq]
    · simp -implicitDefEqProofs (disch := (apply Ar.mk; (try simp only [new_n, put_n]); omega)) only [new_h', put_h', new_n, put_n, hn_ne, hn_eq]; rfl
    · simp -implicitDefEqProofs (disch := (apply Ar.mk; (try simp only [new_n, put_n]); omega)) only [new_h', put_h', new_n, put_n, hn_ne, hn_eq]
    · (simp only [new_w, put_w]; omega)
  · have h1 : zcall Tryz.prog Γ ext 55 [.ptr k 0 3] ⟨s.h, s.n, s.n⟩ = _ := a281' (ext := ext) (s := ⟨s.h, s.n, s.n⟩) g4
    have hl := cvs_len i
    have hs := cvs_snoc i
    refine zK_px (fn := p70) [4] rfl rfl rfl rfl (by unfold p70; rfl) ?_
    simp -implicitDefEqProofs (maxSteps := 3000000) (disch := first | assumption | (apply Ar.mk; omega) | (apply Ar.mk; simp only [List.length_append, List.length_cons, List.length_nil, true_and, and_true]; omega)) only [ZN, ↓dt, ↓df, und_e, Nat.reduceEqDiff, ↓reduceIte, Nat.reduceAdd, Nat.reduceLeDiff, Nat.reduceLT, Nat.reduceBEq, reduceCtorEq, pval_tmp, fillP, oneRes, frz, frz2, frzT, ofCells, ZM, slV, Nat.reduceMul, Nat.reduceSub, frzT, pk_dt, pk_df, ↓gk_t, ↓gk_f, ZU, g4, g5, h1, hl]
    refine PX.mk' ⟨?_, .inr ⟨by omega, j, low, by omega, g2, ?_, ?_, ?_⟩, fun i h1 h2 => ?_, fun n0 h1 h2 h3 => ?_⟩
    · (simp only [new_n, put_n]; omega)
    · (simp only [new_n, put_n]; omega)
    · simp -implicitDefEqProofs (disch := (apply Ar.mk; (try simp only [new_n, put_n]); omega)) only [new_h', put_h', new_n, put_n, hn_ne, hn_eq]
    · simp -implicitDefEqProofs (disch := (apply Ar.mk; (try simp only [new_n, put_n]); omega)) only [new_h', put_h', new_n, put_n, hn_ne, hn_eq]; rw [hs]
    · simp -implicitDefEqProofs (disch := (apply Ar.mk; (try simp only [new_n, put_n]); omega)) only [new_h', put_h', new_n, put_n, hn_ne, hn_eq]
    · (simp only [new_w, put_w]; omega)
theorem lp321 {F : ZC → Option ZR} {v : PV} {Q : PS → Prop} {K : List KI} {n : Nat} (hn : n ≤ 16000) (hkb : k < b) : ∀ (m i : Nat) (f : PFr) (s : PS), i + m = n → f 0 = .ptr k 0 3 → f 1 = sv (aT n) → f 2 = iv 0 → f 3 = ff → f 8 = iv i → WrS k b i s → b ≤ s.n →
    (∀ f' s', Wr k b n s s' → PX (rn Tryz.prog Γ ext F f' s' K) v Q) → PX (zr Tryz.prog Γ ext F (.loop b89_0) f s (.b 0 :: K)) v Q := by
  intro m
  have hl := aT_len n
  induction m with
  | zero =>
    intro i f s him f0 f1 f2 f3 f8 h hb H
    obtain rfl : i = n := by omega
    rw [loop_u (b := b89_0) (by unfold b89_0; rfl)]
    simp -implicitDefEqProofs (maxSteps := 3000000) (disch := first | assumption | (apply Ar.mk; omega) | (apply Ar.mk; simp only [List.length_append, List.length_cons, List.length_nil, true_and, and_true]; omega)) only [ZN, ↓dt, ↓df, und_e, Nat.reduceEqDiff, ↓reduceIte, Nat.reduceAdd, Nat.reduceLeDiff, Nat.reduceLT, Nat.reduceBEq, reduceCtorEq, pval_tmp, fillP, oneRes, frz, frz2, frzT, ofCells, ZM, slV, Nat.reduceMul, Nat.reduceSub, frzT, pk_dt, pk_df, ↓gk_t, ↓gk_f, f0, f1, f8, hl]
    exact H _ _ ⟨Nat.le_refl _, h, fun _ _ _ => rfl, fun _ _ _ h => h⟩
  | succ m ih =>
    intro i f s him f0 f1 f2 f3 f8 h hb H
    have hbt := aT_bt (n := n) (i := i) (by omega)
    rw [loop_u (b := b89_0) (by unfold b89_0; rfl)]
    simp -implicitDefEqProofs (maxSteps := 3000000) (disch := first | assumption | (apply Ar.mk; omega) | (apply Ak.mk; first | rfl | exact .inl rfl | exact .inr rfl | exact okAll_un _ _ | exact okAll_e _ _ | (unfold OkAll OkPair; simp <;> omega)) | (apply Ar.mk; simp only [List.length_append, List.length_cons, List.length_nil, true_and, and_true]; omega)) only [ZN, ↓dt, ↓df, und_e, Nat.reduceEqDiff, ↓reduceIte, Nat.reduceAdd, Nat.reduceLeDiff, Nat.reduceLT, Nat.reduceBEq, reduceCtorEq, pval_tmp, fillP, oneRes, frz, frz2, frzT, ofCells, ZM, slV, Nat.reduceMul, Nat.reduceSub, frzT, pk_dt, pk_df, ↓gk_t, ↓gk_f, ZV, effO, effA, pureI, f0, f1, f2, f3, f8, hl, a339, hbt]
    refine zda_px (a296 h hkb hb (by omega)) fun s1 h1 => ?_
    simp -implicitDefEqProofs (maxSteps := 3000000) (disch := first | assumption | (apply Ar.mk; omega) | (apply Ak.mk; first | rfl | exact .inl rfl | exact .inr rfl | exact okAll_un _ _ | exact okAll_e _ _ | (unfold OkAll OkPair; simp <;> omega)) | (apply Ar.mk; simp only [List.length_append, List.length_cons, List.length_nil, true_and, and_true]; omega)) only [ZN, ↓dt, ↓df, und_e, Nat.reduceEqDiff, ↓reduceIte, Nat.reduceAdd, Nat.reduceLeDiff, Nat.reduceLT, Nat.reduceBEq, reduceCtorEq, pval_tmp, fillP, oneRes, frz, frz2, frzT, ofCells, ZM, slV, Nat.reduceMul, Nat.reduceSub, frzT, pk_dt, pk_df, ↓gk_t, ↓gk_f, ZV, effO, effA, pureI, f8]
    refine ih (i + 1) _ s1 (by omega) f0 f1 f2 f3 rfl h1.at' (Nat.le_trans hb h1.n) fun f' s' h2 => H f' s' ⟨Nat.le_trans h1.n h2.n, h2.at', fun j a c => (h2.fr j a c).trans (h1.fr j a c), fun n0 a c d => h2.w n0 a c (h1.w n0 a c d)⟩
theorem a321 {n : Nat} (hn : n ≤ 16000) (hk : s.h k = ⟨[.sc (.pointer none), nv, ff], 0, 109⟩) (hkb : k < b) (hb : b ≤ s.n) : PX (zcall Tryz.prog Γ ext 89 [.ptr k 0 3, sv (aT n), iv 0, ff] s) (.tup []) (Wr k b n s) := by
  refine zK_px (fn := p89) [] rfl rfl rfl rfl (by unfold p89; rfl) ?_
  simp -implicitDefEqProofs (maxSteps := 3000000) (disch := first | assumption | (apply Ar.mk; omega) | (apply Ar.mk; simp only [List.length_append, List.length_cons, List.length_nil, true_and, and_true]; omega)) only [ZN, ↓dt, ↓df, und_e, Nat.reduceEqDiff, ↓reduceIte, Nat.reduceAdd, Nat.reduceLeDiff, Nat.reduceLT, Nat.reduceBEq, reduceCtorEq, pval_tmp, fillP, oneRes, frz, frz2, frzT, ofCells, ZM, slV, Nat.reduceMul, Nat.reduceSub, frzT, pk_dt, pk_df, ↓gk_t, ↓gk_f]
  refine lp321 hn hkb n 0 _ _ (by omega) rfl rfl rfl rfl rfl (.inl ⟨rfl, hk⟩) hb fun f' s' h => ?_
  simp -implicitDefEqProofs (maxSteps := 3000000) (disch := first | assumption | (apply Ar.mk; omega) | (apply Ar.mk; simp only [List.length_append, List.length_cons, List.length_nil, true_and, and_true]; omega)) only [ZN, ↓dt, ↓df, und_e, Nat.reduceEqDiff, ↓reduceIte, Nat.reduceAdd, Nat.reduceLeDiff, Nat.reduceLT, Nat.reduceBEq, reduceCtorEq, pval_tmp, fillP, oneRes, frz, frz2, frzT, ofCells, ZM, slV, Nat.reduceMul, Nat.reduceSub, frzT, pk_dt, pk_df, ↓gk_t, ↓gk_f]
  exact PX.mk' (h.fin (Nat.le_refl _) (fun _ _ _ => rfl) (fun n0 _ h _ => Nat.le_trans h hb) fun n0 _ h => Nat.le_trans h hb)
theorem a293 {n : Nat} (hn : n ≤ 16000) (hk : s.h k = ⟨[.sc (.pointer none), nv, ff], 0, 109⟩) (hkb : k < b) (hb : b ≤ s.n) : PX (zcall Tryz.prog Γ ext 74 [.ptr k 0 3, pV n, iv 0, ff] s) (.tup []) (Wr k b n s) := by
  refine zK_px (fn := p74) [] rfl rfl rfl rfl (by unfold p74; rfl) ?_
  simp -implicitDefEqProofs (maxSteps := 3000000) (disch := first | assumption | (apply Ar.mk; omega) | (apply Ar.mk; simp only [List.length_append, List.length_cons, List.length_nil, true_and, and_true]; omega)) only [ZN, ↓dt, ↓df, und_e, Nat.reduceEqDiff, ↓reduceIte, Nat.reduceAdd, Nat.reduceLeDiff, Nat.reduceLT, Nat.reduceBEq, reduceCtorEq, pval_tmp, fillP, oneRes, frz, frz2, frzT, ofCells, ZM, slV, Nat.reduceMul, Nat.reduceSub, frzT, pk_dt, pk_df, ↓gk_t, ↓gk_f]
  rw [loop_u (b := b74_0) (by unfold b74_0; rfl)]
  simp -implicitDefEqProofs (maxSteps := 3000000) (disch := first | assumption | (apply Ar.mk; omega) | (apply Ar.mk; decide) | (apply Ar.mk; simp only [List.length_append, List.length_cons, List.length_nil, true_and, and_true]; omega)) only [ZN, ↓dt, ↓df, und_e, Nat.reduceEqDiff, ↓reduceIte, Nat.reduceAdd, Nat.reduceLeDiff, Nat.reduceLT, Nat.reduceBEq, reduceCtorEq, pval_tmp, fillP, oneRes, frz, frz2, frzT, ofCells, ZM, slV, Nat.reduceMul, Nat.reduceSub, frzT, pk_dt, pk_df, ↓gk_t, ↓gk_f]
  refine ra_px (a321 (b := b) hn ?_ hkb ?_) fun s1 h1 => ?_
  · simp -implicitDefEqProofs (disch := (apply Ar.mk; (try simp only [new_n, put_n]); omega)) only [new_h', put_h', new_n, put_n, hn_ne, hn_eq]; exact hk
  · (simp only [new_n, put_n]; omega)
  simp -implicitDefEqProofs (maxSteps := 3000000) (disch := first | assumption | (apply Ar.mk; omega) | (apply Ar.mk; simp only [List.length_append, List.length_cons, List.length_nil, true_and, and_true]; omega)) only [ZN, ↓dt, ↓df, und_e, Nat.reduceEqDiff, ↓reduceIte, Nat.reduceAdd, Nat.reduceLeDiff, Nat.reduceLT, Nat.reduceBEq, reduceCtorEq, pval_tmp, fillP, oneRes, frz, frz2, frzT, ofCells, ZM, slV, Nat.reduceMul, Nat.reduceSub, frzT, pk_dt, pk_df, ↓gk_t, ↓gk_f]
  rw [loop_u (b := b74_0) (by unfold b74_0; rfl)]
  simp -implicitDefEqProofs (maxSteps := 3000000) (disch := first | assumption | (apply Ar.mk; omega) | (apply Ar.mk; simp only [List.length_append, List.length_cons, List.length_nil, true_and, and_true]; omega)) only [ZN, ↓dt, ↓df, und_e, Nat.reduceEqDiff, ↓reduceIte, Nat.reduceAdd, Nat.reduceLeDiff, Nat.reduceLT, Nat.reduceBEq, reduceCtorEq, pval_tmp, fillP, oneRes, frz, frz2, frzT, ofCells, ZM, slV, Nat.reduceMul, Nat.reduceSub, frzT, pk_dt, pk_df, ↓gk_t, ↓gk_f]
  exact PX.mk' (h1.fin (by (simp only [new_n, put_n]; omega)) (fun i hi _ => by simp -implicitDefEqProofs (disch := (apply Ar.mk; (try simp only [new_n, put_n]); omega)) only [new_h', put_h', new_n, put_n, hn_ne, hn_eq]) (fun n0 _ h _ => by (simp only [new_w, put_w]; omega)) fun n0 _ h => by (simp only [new_w, put_w]; omega))
end
/-- the text of a writer -/
theorem a239 {n k j low : Nat} {s : PS} (hn : n ≤ 16000) (h0 : 0 < n) (hk : s.h k = ⟨[.ptr k 0 3, .own j 0 n n, ff], 3, 109⟩) (hj : s.h j = ⟨cvs n, low, 5⟩) (hlow : low ≤ n) (hkn : k < s.n) (hjn : j < s.n) (hjk : j ≠ k) :
    zcall Tryz.prog Γ ext 13 [.ptr k 0 3] s = some (.ok (sv (aT n)) ⟨(s.put j ⟨cvs n ++ [.sc undef], n + 2, 5⟩).h, s.n, min s.w (min s.n j)⟩) := by
  have hu : ∀ {s' : PS}, s'.h j = ⟨cvs n, low, 5⟩ → ustrP s' 5 (.ptr j 0 n) (iv n) = some (sv (aT n), s'.put j ⟨cvs n ++ [.sc undef], n + 2, 5⟩) := fun h => us_g h (cvs_bytes n) hlow (cvs_len n) h0 (by omega)
  have hu := hu (s' := ⟨s.h, s.n, s.n⟩) hj
  have hsd := fun k off fin => sd_n (k := k) (off := off) (fin := fin) h0
  refine zK_case (fn := p13) [2] rfl rfl rfl rfl (by unfold p13; rfl) ?_; intro R hR
  simp -implicitDefEqProofs (maxSteps := 3000000) (disch := first | assumption | (apply Ar.mk; omega) | (apply Ak.mk; first | rfl | exact .inl rfl | exact .inr rfl | exact okAll_un _ _ | exact okAll_e _ _ | (unfold OkAll OkPair; simp <;> omega)) | (apply Ar.mk; simp only [List.length_append, List.length_cons, List.length_nil, true_and, and_true]; omega)) only [ZN, ↓dt, ↓df, und_e, Nat.reduceEqDiff, ↓reduceIte, Nat.reduceAdd, Nat.reduceLeDiff, Nat.reduceLT, Nat.reduceBEq, reduceCtorEq, pval_tmp, fillP, oneRes, frz, frz2, frzT, ofCells, ZM, slV, Nat.reduceMul, Nat.reduceSub, frzT, pk_dt, pk_df, ↓gk_t, ↓gk_f, ZU, ZV, effO, effA, pureI, hk, hj, hu, hsd]
  exact hR.symm
section
variable {n : Nat} (hx : ∀ s : PS, ext 80 [sv (aT n), iv 0] s = some (.tup [pV n, iv 0, iv 0], s)) (hn1 : 1 ≤ n) (hn2 : n ≤ 16000)
include hx
theorem a294 (s : PS) : zcall Tryz.prog Γ ext 75 [sv (aT n)] s = some (.ok (.tup [pV n, iv 0, iv 0]) s) := by
  have h : ∀ s : PS, zcall Tryz.prog Γ ext 80 [sv (aT n), iv 0] s = some (.ok (.tup [pV n, iv 0, iv 0]) s) := fun s => by
    rw [zcall_ext (by rfl), hx]; rfl
  refine zT_case (fn := p75) [2, 3, 4] rfl rfl rfl rfl (by unfold p75; rfl) ?_; intro R hR
  simp -implicitDefEqProofs (maxSteps := 3000000) (disch := first | assumption | (apply Ar.mk; omega) | (apply Ar.mk; simp only [List.length_append, List.length_cons, List.length_nil, true_and, and_true]; omega)) only [ZN, ↓dt, ↓df, und_e, Nat.reduceEqDiff, ↓reduceIte, Nat.reduceAdd, Nat.reduceLeDiff, Nat.reduceLT, Nat.reduceBEq, reduceCtorEq, pval_tmp, fillP, oneRes, frz, frz2, frzT, ofCells, ZM, slV, Nat.reduceMul, Nat.reduceSub, frzT, pk_dt, pk_df, ↓gk_t, ↓gk_f, h]
  exact hR.symm
include hn1 hn2
theorem a254 (s : PS) : zcall Tryz.prog Γ ext 63 [pV n] s = some (.ok (.tup [sv (aT n), tt]) s) := by
  have h294 := fun s => a294 (ext := ext) hx s
  have h186 := fun s => a186 (ext := ext) n s
  refine zT_case (fn := p63) [2, 3] rfl rfl rfl rfl (by unfold p63; rfl) ?_; intro R hR
  simp -implicitDefEqProofs (maxSteps := 3000000) (disch := first | assumption | (apply Ar.mk; omega) | (apply Ar.mk; simp only [List.length_append, List.length_cons, List.length_nil, true_and, and_true]; omega)) only [ZN, ↓dt, ↓df, und_e, Nat.reduceEqDiff, ↓reduceIte, Nat.reduceAdd, Nat.reduceLeDiff, Nat.reduceLT, Nat.reduceBEq, reduceCtorEq, pval_tmp, fillP, oneRes, frz, frz2, frzT, ofCells, ZM, slV, Nat.reduceMul, Nat.reduceSub, frzT, pk_dt, pk_df, ↓gk_t, ↓gk_f]
  refine ra_x (a293 (b := s.n + 1) hn2 ?_ ?_ ?_) fun s1 h1 => ?_
  · simp -implicitDefEqProofs (disch := (apply Ar.mk; (try simp only [new_n, put_n]); omega)) only [new_h', put_h', new_n, put_n, hn_ne, hn_eq]
  · omega
  · (simp only [new_n, put_n]; omega)
  obtain ⟨g1, g2, g6, g7⟩ := h1
  rcases g2 with ⟨h0, _⟩ | ⟨_, j, low, gl, g2, g3, g4, g5⟩
  · omega
  have g1' : s.n + 1 ≤ s1.n := g1
  have g7' : s.n ≤ s1.w := g7 s.n (Nat.le_refl _) (by omega) (by show s.n ≤ s.n; omega)
  have h239 := a239 (ext := ext) hn2 hn1 g4 g5 gl (by omega) g3 (by omega)
  simp -implicitDefEqProofs (maxSteps := 3000000) (disch := first | assumption | (apply Ar.mk; omega) | (apply Ar.mk; simp only [List.length_append, List.length_cons, List.length_nil, true_and, and_true]; omega)) only [ZN, ↓dt, ↓df, und_e, Nat.reduceEqDiff, ↓reduceIte, Nat.reduceAdd, Nat.reduceLeDiff, Nat.reduceLT, Nat.reduceBEq, reduceCtorEq, pval_tmp, fillP, oneRes, frz, frz2, frzT, ofCells, ZM, slV, Nat.reduceMul, Nat.reduceSub, frzT, pk_dt, pk_df, ↓gk_t, ↓gk_f, g4, h239, h294, h186]
  exact hR.symm
theorem a255 (s : PS) : zcall Tryz.prog Γ ext 54 [pV n] s = some (.ok (.tup [sv (aT n), iv 0]) s) := by
  have h := fun s => a254 (ext := ext) hx hn1 hn2 s
  refine zT_case (fn := p54) [2, 3] rfl rfl rfl rfl (by unfold p54; rfl) ?_; intro R hR
  simp -implicitDefEqProofs (maxSteps := 3000000) (disch := first | assumption | (apply Ar.mk; omega) | (apply Ar.mk; simp only [List.length_append, List.length_cons, List.length_nil, true_and, and_true]; omega)) only [ZN, ↓dt, ↓df, und_e, Nat.reduceEqDiff, ↓reduceIte, Nat.reduceAdd, Nat.reduceLeDiff, Nat.reduceLT, Nat.reduceBEq, reduceCtorEq, pval_tmp, fillP, oneRes, frz, frz2, frzT, ofCells, ZM, slV, Nat.reduceMul, Nat.reduceSub, frzT, pk_dt, pk_df, ↓gk_t, ↓gk_f, h]
  exact hR.symm
theorem a204 (s : PS) : zcall Tryz.prog Γ ext 52 [.agg (wV n)] s = some (.ok tt s) := by
  have h := fun s => a255 (ext := ext) hx hn1 hn2 s
  have h2 := fun s => a234 (ext := ext) hn1 hn2 s
  refine zT_case (fn := p52) [2] rfl rfl rfl rfl (by unfold p52; rfl) ?_; intro R hR
  simp -implicitDefEqProofs (maxSteps := 3000000) (disch := first | assumption | (apply Ar.mk; omega) | (apply Ar.mk; simp only [List.length_append, List.length_cons, List.length_nil, true_and, and_true]; omega)) only [ZN, ↓dt, ↓df, und_e, Nat.reduceEqDiff, ↓reduceIte, Nat.reduceAdd, Nat.reduceLeDiff, Nat.reduceLT, Nat.reduceBEq, reduceCtorEq, pval_tmp, fillP, oneRes, frz, frz2, frzT, ofCells, ZM, slV, Nat.reduceMul, Nat.reduceSub, frzT, pk_dt, pk_df, ↓gk_t, ↓gk_f, h, h2]
  exact hR.symm
end
/-- the node -/
abbrev lfC (n : Nat) : List PV := [iv 1, iv 0, sv [], ff, nv, .lit 40 1 (wV n), nv, nv, nv]
theorem l195 (n : Nat) (s : PS) : zcall Tryz.prog Γ ext 43 [.agg (lfC n)] s = some (.ok tt s) := by
  have h1 := fun s => a190 (ext := ext) n s
  have h2 := fun s => a253 (ext := ext) n s
  have h3 := fun s => a233 (ext := ext) n s
  refine zT_case (fn := p43) [2] rfl rfl rfl rfl (by unfold p43; rfl) ?_; intro R hR
  simp -implicitDefEqProofs (maxSteps := 3000000) (disch := first | assumption | (apply Ar.mk; omega) | (apply Ar.mk; simp only [List.length_append, List.length_cons, List.length_nil, true_and, and_true]; omega)) only [ZN, ↓dt, ↓df, und_e, Nat.reduceEqDiff, ↓reduceIte, Nat.reduceAdd, Nat.reduceLeDiff, Nat.reduceLT, Nat.reduceBEq, reduceCtorEq, pval_tmp, fillP, oneRes, frz, frz2, frzT, ofCells, ZM, slV, Nat.reduceMul, Nat.reduceSub, frzT, pk_dt, pk_df, ↓gk_t, ↓gk_f, h1, h2, h3]
  exact hR.symm
theorem l139 (n : Nat) (s : PS) : zcall Tryz.prog Γ ext 31 [.agg (lfC n)] s = some (.ok tt s) := by
  have h1 := fun s => l195 (ext := ext) n s
  refine zT_case (fn := p31) [2] rfl rfl rfl rfl (by unfold p31; rfl) ?_; intro R hR
  simp -implicitDefEqProofs (maxSteps := 3000000) (disch := first | assumption | (apply Ar.mk; omega) | (apply Ar.mk; simp only [List.length_append, List.length_cons, List.length_nil, true_and, and_true]; omega)) only [ZN, ↓dt, ↓df, und_e, Nat.reduceEqDiff, ↓reduceIte, Nat.reduceAdd, Nat.reduceLeDiff, Nat.reduceLT, Nat.reduceBEq, reduceCtorEq, pval_tmp, fillP, oneRes, frz, frz2, frzT, ofCells, ZM, slV, Nat.reduceMul, Nat.reduceSub, frzT, pk_dt, pk_df, ↓gk_t, ↓gk_f, h1]
  exact hR.symm
section
variable {n : Nat} (hx : ∀ s : PS, ext 80 [sv (aT n), iv 0] s = some (.tup [pV n, iv 0, iv 0], s)) (hn1 : 1 ≤ n) (hn2 : n ≤ 16000)
include hx hn1 hn2
theorem l140 (s : PS) : zcall Tryz.prog Γ ext 32 [.agg (lfC n)] s = some (.ok tt s) := by
  have h1 := fun s => a204 (ext := ext) hx hn1 hn2 s
  refine zT_case (fn := p32) [2] rfl rfl rfl rfl (by unfold p32; rfl) ?_; intro R hR
  subst hR
  simp -implicitDefEqProofs (maxSteps := 3000000) (disch := first | assumption | (apply Ar.mk; omega) | (apply Ar.mk; simp only [List.length_append, List.length_cons, List.length_nil, true_and, and_true]; omega)) only [ZN, ↓dt, ↓df, und_e, Nat.reduceEqDiff, ↓reduceIte, Nat.reduceAdd, Nat.reduceLeDiff, Nat.reduceLT, Nat.reduceBEq, reduceCtorEq, pval_tmp, fillP, oneRes, frz, frz2, frzT, ofCells, ZM, slV, Nat.reduceMul, Nat.reduceSub, frzT, pk_dt, pk_df, ↓gk_t, ↓gk_f]
  refine rl_case (by unfold b32_0; rfl) (by unfold r32_3; rfl) ?_; intro hr R hR
  subst hR
  simp -implicitDefEqProofs (maxSteps := 3000000) (disch := first | assumption | (apply Ar.mk; omega) | (apply Ar.mk; simp only [List.length_append, List.length_cons, List.length_nil, true_and, and_true]; omega)) only [ZN, ↓dt, ↓df, und_e, Nat.reduceEqDiff, ↓reduceIte, Nat.reduceAdd, Nat.reduceLeDiff, Nat.reduceLT, Nat.reduceBEq, reduceCtorEq, pval_tmp, fillP, oneRes, frz, frz2, frzT, ofCells, ZM, slV, Nat.reduceMul, Nat.reduceSub, frzT, pk_dt, pk_df, ↓gk_t, ↓gk_f, hr]
  refine rl_case (by unfold b32_1; rfl) (by unfold r32_2; rfl) ?_; intro hr R hR
  subst hR
  simp -implicitDefEqProofs (maxSteps := 3000000) (disch := first | assumption | (apply Ar.mk; omega) | (apply Ar.mk; simp only [List.length_append, List.length_cons, List.length_nil, true_and, and_true]; omega)) only [ZN, ↓dt, ↓df, und_e, Nat.reduceEqDiff, ↓reduceIte, Nat.reduceAdd, Nat.reduceLeDiff, Nat.reduceLT, Nat.reduceBEq, reduceCtorEq, pval_tmp, fillP, oneRes, frz, frz2, frzT, ofCells, ZM, slV, Nat.reduceMul, Nat.reduceSub, frzT, pk_dt, pk_df, ↓gk_t, ↓gk_f, hr, h1]
  refine rl_case (by unfold b32_1; rfl) (by unfold r32_2; rfl) ?_; intro hr R hR
  subst hR
  simp -implicitDefEqProofs (maxSteps := 3000000) (disch := first | assumption | (apply Ar.mk; omega) | (apply Ar.mk; simp only [List.length_append, List.length_cons, List.length_nil, true_and, and_true]; omega)) only [ZN, ↓dt, ↓df, und_e, Nat.reduceEqDiff, ↓reduceIte, Nat.reduceAdd, Nat.reduceLeDiff, Nat.reduceLT, Nat.reduceBEq, reduceCtorEq, pval_tmp, fillP, oneRes, frz, frz2, frzT, ofCells, ZM, slV, Nat.reduceMul, Nat.reduceSub, frzT, pk_dt, pk_df, ↓gk_t, ↓gk_f, hr]
  refine rl_case (by unfold b32_2; rfl) (by unfold r32_1; rfl) ?_; intro hr R hR
  subst hR
  simp -implicitDefEqProofs (maxSteps := 3000000) (disch := first | assumption | (apply Ar.mk; omega) | (apply Ar.mk; simp only [List.length_append, List.length_cons, List.length_nil, true_and, and_true]; omega)) only [ZN, ↓dt, ↓df, und_e, Nat.reduceEqDiff, ↓reduceIte, Nat.reduceAdd, Nat.reduceLeDiff, Nat.reduceLT, Nat.reduceBEq, reduceCtorEq, pval_tmp, fillP, oneRes, frz, frz2, frzT, ofCells, ZM, slV, Nat.reduceMul, Nat.reduceSub, frzT, pk_dt, pk_df, ↓gk_t, ↓gk_f, hr]
  refine rl_case (by unfold b32_4; rfl) (by unfold r32_0; rfl) ?_; intro hr R hR
  simp -implicitDefEqProofs (maxSteps := 3000000) (disch := first | assumption | (apply Ar.mk; omega) | (apply Ar.mk; simp only [List.length_append, List.length_cons, List.length_nil, true_and, and_true]; omega)) only [ZN, ↓dt, ↓df, und_e, Nat.reduceEqDiff, ↓reduceIte, Nat.reduceAdd, Nat.reduceLeDiff, Nat.reduceLT, Nat.reduceBEq, reduceCtorEq, pval_tmp, fillP, oneRes, frz, frz2, frzT, ofCells, ZM, slV, Nat.reduceMul, Nat.reduceSub, frzT, pk_dt, pk_df, ↓gk_t, ↓gk_f, hr]
  exact hR.symm
theorem l64 (s : PS) : zcall Tryz.prog Γ ext 18 [.agg (lfC n)] s = some (.ok tt s) := by
  have h1 := fun s => l139 (ext := ext) n s
  have h2 := fun s => l140 (ext := ext) hx hn1 hn2 s
  have hb2 := fun x y a b => bin_bneq (P := Tryz.prog) (t := 4) Tryz.underlying4 x y a b
  have eff : ((false : Bool) == false) = true := rfl
  refine zT_case (fn := p18) [2] rfl rfl rfl rfl (by unfold p18; rfl) ?_; intro R hR
  simp -implicitDefEqProofs (maxSteps := 3000000) (disch := first | assumption | (apply Ar.mk; omega) | (apply Ar.mk; decide) | (apply Ar.mk; simp only [List.length_append, List.length_cons, List.length_nil, true_and, and_true]; omega)) only [ZN, ↓dt, ↓df, und_e, Nat.reduceEqDiff, ↓reduceIte, Nat.reduceAdd, Nat.reduceLeDiff, Nat.reduceLT, Nat.reduceBEq, reduceCtorEq, pval_tmp, fillP, oneRes, frz, frz2, frzT, ofCells, ZM, slV, Nat.reduceMul, Nat.reduceSub, frzT, pk_dt, pk_df, ↓gk_t, ↓gk_f, hb2, eff, h1, h2]
  exact hR.symm
end
end Go.Proofs.YtnocibbhognbeaaGreatDoor
set_option linter.unusedSimpArgs false
namespace Go.Proofs.YtnocibbhognbeaaGreatDoor
open Go Go.EvL Go.PE Go.Mir
variable {ext : PCallF}
theorem f66 (n : Nat) (s : PS) : zcall Tryz.prog Γ ext 27 [.agg (lfC n)] s = some (.ok nv s) := by
  refine zT_case (fn := p27) [2] rfl rfl rfl rfl (by unfold p27; rfl) ?_; intro R hR
  subst hR
  simp -implicitDefEqProofs (maxSteps := 3000000) (disch := first | assumption | (apply Ar.mk; omega) | (apply Ar.mk; simp only [List.length_append, List.length_cons, List.length_nil, true_and, and_true]; omega)) only [ZN, ↓dt, ↓df, und_e, Nat.reduceEqDiff, ↓reduceIte, Nat.reduceAdd, Nat.reduceLeDiff, Nat.reduceLT, Nat.reduceBEq, reduceCtorEq, pval_tmp, fillP, oneRes, frz, frz2, frzT, ofCells, ZM, slV, Nat.reduceMul, Nat.reduceSub, frzT, pk_dt, pk_df, ↓gk_t, ↓gk_f]
  refine rl_case (by unfold b27_0; rfl) (by unfold r27_0; rfl) ?_; intro hr R hR
  simp -implicitDefEqProofs (maxSteps := 3000000) (disch := first | assumption | (apply Ar.mk; omega) | (apply Ar.mk; simp only [List.length_append, List.length_cons, List.length_nil, true_and, and_true]; omega)) only [ZN, ↓dt, ↓df, und_e, Nat.reduceEqDiff, ↓reduceIte, Nat.reduceAdd, Nat.reduceLeDiff, Nat.reduceLT, Nat.reduceBEq, reduceCtorEq, pval_tmp, fillP, oneRes, frz, frz2, frzT, ofCells, ZM, slV, Nat.reduceMul, Nat.reduceSub, frzT, pk_dt, pk_df, ↓gk_t, ↓gk_f, hr]
  exact hR.symm
theorem f21 (n : Nat) (s : PS) : zcall Tryz.prog Γ ext 15 [.agg (lfC n)] s = some (.ok (iv 1) s) := by
  refine zT_case (fn := p15) [2] rfl rfl rfl rfl (by unfold p15; rfl) ?_; intro R hR
  subst hR
  simp -implicitDefEqProofs (maxSteps := 3000000) (disch := first | assumption | (apply Ar.mk; omega) | (apply Ar.mk; simp only [List.length_append, List.length_cons, List.length_nil, true_and, and_true]; omega)) only [ZN, ↓dt, ↓df, und_e, Nat.reduceEqDiff, ↓reduceIte, Nat.reduceAdd, Nat.reduceLeDiff, Nat.reduceLT, Nat.reduceBEq, reduceCtorEq, pval_tmp, fillP, oneRes, frz, frz2, frzT, ofCells, ZM, slV, Nat.reduceMul, Nat.reduceSub, frzT, pk_dt, pk_df, ↓gk_t, ↓gk_f, f66]
  refine rl_case (by unfold b15_0; rfl) (by unfold r15_0; rfl) ?_; intro hr R hR
  simp -implicitDefEqProofs (maxSteps := 3000000) (disch := first | assumption | (apply Ar.mk; omega) | (apply Ar.mk; simp only [List.length_append, List.length_cons, List.length_nil, true_and, and_true]; omega)) only [ZN, ↓dt, ↓df, und_e, Nat.reduceEqDiff, ↓reduceIte, Nat.reduceAdd, Nat.reduceLeDiff, Nat.reduceLT, Nat.reduceBEq, reduceCtorEq, pval_tmp, fillP, oneRes, frz, frz2, frzT, ofCells, ZM, slV, Nat.reduceMul, Nat.reduceSub, frzT, pk_dt, pk_df, ↓gk_t, ↓gk_f, hr]
  exact hR.symm
theorem f19 (n : Nat) (s : PS) : zcall Tryz.prog Γ ext 16 [.agg (lfC n)] s = some (.ok (iv 1) s) := by
  refine zT_case (fn := p16) [2] rfl rfl rfl rfl (by unfold p16; rfl) ?_; intro R hR
  subst hR
  simp -implicitDefEqProofs (maxSteps := 3000000) (disch := first | assumption | (apply Ar.mk; omega) | (apply Ar.mk; simp only [List.length_append, List.length_cons, List.length_nil, true_and, and_true]; omega)) only [ZN, ↓dt, ↓df, und_e, Nat.reduceEqDiff, ↓reduceIte, Nat.reduceAdd, Nat.reduceLeDiff, Nat.reduceLT, Nat.reduceBEq, reduceCtorEq, pval_tmp, fillP, oneRes, frz, frz2, frzT, ofCells, ZM, slV, Nat.reduceMul, Nat.reduceSub, frzT, pk_dt, pk_df, ↓gk_t, ↓gk_f, f66]
  refine rl_case (by unfold b16_0; rfl) (by unfold r16_0; rfl) ?_; intro hr R hR
  simp -implicitDefEqProofs (maxSteps := 3000000) (disch := first | assumption | (apply Ar.mk; omega) | (apply Ar.mk; simp only [List.length_append, List.length_cons, List.length_nil, true_and, and_true]; omega)) only [ZN, ↓dt, ↓df, und_e, Nat.reduceEqDiff, ↓reduceIte, Nat.reduceAdd, Nat.reduceLeDiff, Nat.reduceLT, Nat.reduceBEq, reduceCtorEq, pval_tmp, fillP, oneRes, frz, frz2, frzT, ofCells, ZM, slV, Nat.reduceMul, Nat.reduceSub, frzT, pk_dt, pk_df, ↓gk_t, ↓gk_f, hr]
  exact hR.symm
theorem f137 {n L V low : Nat} {s : PS} (hL : s.h L = ⟨[nv], low, 26⟩) (hlow : low ≤ 1) (hLn : L < s.n) : PX (zcall Tryz.prog Γ ext 28 [.agg (lfC n), .ptr L 0 1, .ptr V 0 1] s) (.tup []) (fun s' => ∃ j, s.n ≤ j ∧ j < s'.n ∧ s'.h L = ⟨[.own j 0 1 9], 1, 26⟩ ∧ s'.h j = ⟨lfC n, 9, 29⟩ ∧ (∀ i, i < s.n → i ≠ L → s'.h i = s.h i) ∧ (∀ n0, n0 ≤ L → n0 ≤ s.w → n0 ≤ s'.w)) := by
  refine zK_px (fn := p28) [] rfl rfl rfl rfl (by unfold p28; rfl) ?_
  simp -implicitDefEqProofs (maxSteps := 3000000) (disch := first | assumption | (apply Ar.mk; omega) | (apply Ak.mk; first | rfl | exact .inl rfl | exact .inr rfl | exact okAll_un _ _ | exact okAll_e _ _ | (unfold OkAll OkPair; simp <;> omega)) | (apply Ar.mk; simp only [List.length_append, List.length_cons, List.length_nil, true_and, and_true]; omega)) only [ZN, ↓dt, ↓df, und_e, Nat.reduceEqDiff, ↓reduceIte, Nat.reduceAdd, Nat.reduceLeDiff, Nat.reduceLT, Nat.reduceBEq, reduceCtorEq, pval_tmp, fillP, oneRes, frz, frz2, frzT, ofCells, ZM, slV, Nat.reduceMul, Nat.reduceSub, frzT, pk_dt, pk_df, ↓gk_t, ↓gk_f, ZV, effO, effA, pureI, hL, f66]
  rw [loop_u (b := b28_0) (by unfold b28_0; rfl)]
  simp -implicitDefEqProofs (maxSteps := 3000000) (disch := first | assumption | (apply Ar.mk; omega) | (apply Ar.mk; simp only [List.length_append, List.length_cons, List.length_nil, true_and, and_true]; omega)) only [ZN, ↓dt, ↓df, und_e, Nat.reduceEqDiff, ↓reduceIte, Nat.reduceAdd, Nat.reduceLeDiff, Nat.reduceLT, Nat.reduceBEq, reduceCtorEq, pval_tmp, fillP, oneRes, frz, frz2, frzT, ofCells, ZM, slV, Nat.reduceMul, Nat.reduceSub, frzT, pk_dt, pk_df, ↓gk_t, ↓gk_f]
  refine PX.mk' ⟨s.n + 2, ?_, ?_, ?_, ?_, fun i h1 h2 => ?_, fun n0 h1 h2 => ?_⟩
  · omega
  · (simp only [new_n, put_n]; omega)
  · simp -implicitDefEqProofs (disch := (apply Ar.mk; (try simp only [new_n, put_n]); omega)) only [new_h', put_h', new_n, put_n, hn_ne, hn_eq]
  · simp -implicitDefEqProofs (disch := (apply Ar.mk; (try simp only [new_n, put_n]); omega)) only [new_h', put_h', new_n, put_n, hn_ne, hn_eq]
  · simp -implicitDefEqProofs (disch := (apply Ar.mk; (try simp only [new_n, put_n]); omega)) only [new_h', put_h', new_n, put_n, hn_ne, hn_eq]
  · (simp only [new_w, put_w]; omega)
theorem f63 (n : Nat) (s : PS) : PY (zcall Tryz.prog Γ ext 17 [.agg (lfC n)] s) (fun v s' => ∃ j, v = .own j 0 1 9 ∧ s.n ≤ j ∧ j < s'.n ∧ s'.h j = ⟨lfC n, 9, 29⟩ ∧ (∀ i, i < s.n → s'.h i = s.h i) ∧ (∀ n0, n0 ≤ s.n → n0 ≤ s.w → n0 ≤ s'.w)) := by
  refine zK_py (fn := p17) [2] rfl rfl rfl rfl (by unfold p17; rfl) ?_
  simp -implicitDefEqProofs (maxSteps := 3000000) (disch := first | assumption | (apply Ar.mk; omega) | (apply Ar.mk; simp only [List.length_append, List.length_cons, List.length_nil, true_and, and_true]; omega)) only [ZN, ↓dt, ↓df, und_e, Nat.reduceEqDiff, ↓reduceIte, Nat.reduceAdd, Nat.reduceLeDiff, Nat.reduceLT, Nat.reduceBEq, reduceCtorEq, pval_tmp, fillP, oneRes, frz, frz2, frzT, ofCells, ZM, slV, Nat.reduceMul, Nat.reduceSub, frzT, pk_dt, pk_df, ↓gk_t, ↓gk_f]
  refine ra_py (f137 (low := 0) ?_ (Nat.zero_le _) ?_) fun s1 h1 => ?_
  · simp -implicitDefEqProofs (disch := (apply Ar.mk; (try simp only [new_n, put_n]); omega)) only [new_h', put_h', new_n, put_n, hn_ne, hn_eq]
  · (simp only [new_n, put_n]; omega)
  obtain ⟨j, g1, g2, g3, g4, g5, g6⟩ := h1
  have g1' : s.n + 3 ≤ j := g1
  simp -implicitDefEqProofs (maxSteps := 3000000) (disch := first | assumption | (apply Ar.mk; omega) | (apply Ar.mk; simp only [List.length_append, List.length_cons, List.length_nil, true_and, and_true]; omega)) only [ZN, ↓dt, ↓df, und_e, Nat.reduceEqDiff, ↓reduceIte, Nat.reduceAdd, Nat.reduceLeDiff, Nat.reduceLT, Nat.reduceBEq, reduceCtorEq, pval_tmp, fillP, oneRes, frz, frz2, frzT, ofCells, ZM, slV, Nat.reduceMul, Nat.reduceSub, frzT, pk_dt, pk_df, ↓gk_t, ↓gk_f, g3]
  refine PY.mk' ⟨j, rfl, by omega, g2, g4, fun i hi => ?_, fun n0 h1 h2 => ?_⟩
  · rw [g5 i (by (simp only [new_n, put_n]; omega)) (by omega)]; simp -implicitDefEqProofs (disch := (apply Ar.mk; (try simp only [new_n, put_n]); omega)) only [new_h', put_h', new_n, put_n, hn_ne, hn_eq]
  · have := g6 n0 (by omega) (by (simp only [new_w, put_w]; omega))
    (simp only [new_w, put_w]; omega)
theorem f17 {n : Nat} (hx : ∀ s : PS, ext 80 [sv (aT n), iv 0] s = some (.tup [pV n, iv 0, iv 0], s)) (hn1 : 1 ≤ n) (hn2 : n ≤ 16000) (s : PS) : zcall Tryz.prog Γ ext 9 [.agg (lfC n)] s = some (.ok (iv 0) s) := by
  have h64 := fun s => l64 (ext := ext) hx hn1 hn2 s
  refine zT_case (fn := p9) [2] rfl rfl rfl rfl (by unfold p9; rfl) ?_; intro R hR
  simp -implicitDefEqProofs (maxSteps := 3000000) (disch := first | assumption | (apply Ar.mk; omega) | (apply Ar.mk; simp only [List.length_append, List.length_cons, List.length_nil, true_and, and_true]; omega)) only [ZN, ↓dt, ↓df, und_e, Nat.reduceEqDiff, ↓reduceIte, Nat.reduceAdd, Nat.reduceLeDiff, Nat.reduceLT, Nat.reduceBEq, reduceCtorEq, pval_tmp, fillP, oneRes, frz, frz2, frzT, ofCells, ZM, slV, Nat.reduceMul, Nat.reduceSub, frzT, pk_dt, pk_df, ↓gk_t, ↓gk_f, f21, f19]
  refine ra_y (f63 n _) fun v s1 h1 => ?_
  obtain ⟨j, rfl, g1, g2, g3, g4, g5⟩ := h1
  have g0 : s.n + 1 ≤ j := g1
  have g6 : s.n ≤ s1.w := g5 s.n (by (simp only [new_n, put_n]; omega)) (by (simp only [new_w, put_w]; omega))
  subst hR
  simp -implicitDefEqProofs (maxSteps := 3000000) (disch := first | assumption | (apply Ar.mk; omega) | (apply Ar.mk; simp only [List.length_append, List.length_cons, List.length_nil, true_and, and_true]; omega)) only [ZN, ↓dt, ↓df, und_e, Nat.reduceEqDiff, ↓reduceIte, Nat.reduceAdd, Nat.reduceLeDiff, Nat.reduceLT, Nat.reduceBEq, reduceCtorEq, pval_tmp, fillP, oneRes, frz, frz2, frzT, ofCells, ZM, slV, Nat.reduceMul, Nat.reduceSub, frzT, pk_dt, pk_df, ↓gk_t, ↓gk_f]
  refine rl_case (by unfold b9_0; rfl) (by unfold r9_0; rfl) ?_; intro hr R hR
  subst hR
  simp -implicitDefEqProofs (maxSteps := 3000000) (disch := first | assumption | (apply Ar.mk; omega) | (apply Ar.mk; simp only [List.length_append, List.length_cons, List.length_nil, true_and, and_true]; omega)) only [ZN, ↓dt, ↓df, und_e, Nat.reduceEqDiff, ↓reduceIte, Nat.reduceAdd, Nat.reduceLeDiff, Nat.reduceLT, Nat.reduceBEq, reduceCtorEq, pval_tmp, fillP, oneRes, frz, frz2, frzT, ofCells, ZM, slV, Nat.reduceMul, Nat.reduceSub, frzT, pk_dt, pk_df, ↓gk_t, ↓gk_f, g3, h64]
  refine rl_case (by unfold b9_0; rfl) (by unfold r9_0; rfl) ?_; intro hr R hR
  simp -implicitDefEqProofs (maxSteps := 3000000) (disch := first | assumption | (apply Ar.mk; omega) | (apply Ar.mk; simp only [List.length_append, List.length_cons, List.length_nil, true_and, and_true]; omega)) only [ZN, ↓dt, ↓df, und_e, Nat.reduceEqDiff, ↓reduceIte, Nat.reduceAdd, Nat.reduceLeDiff, Nat.reduceLT, Nat.reduceBEq, reduceCtorEq, pval_tmp, fillP, oneRes, frz, frz2, frzT, ofCells, ZM, slV, Nat.reduceMul, Nat.reduceSub, frzT, pk_dt, pk_df, ↓gk_t, ↓gk_f, r9_0]
  exact hR.symm
end Go.Proofs.YtnocibbhognbeaaGreatDoor
