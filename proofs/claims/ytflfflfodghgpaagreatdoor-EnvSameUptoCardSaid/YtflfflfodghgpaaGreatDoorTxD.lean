/- What functions of the program and of the reference compute, on values. No statement is proved here. -/
import Derived.Test.YtflfflfodghgpaaGreatDoorTxC
import Derived.Test.YtflfflfodghgpaaGreatDoorPeE
import Derived.Test.YtflfflfodghgpaaGreatDoorPeD
import Derived.Test.YtflfflfodghgpaaGreatDoorPeC
set_option linter.unusedSimpArgs false
set_option linter.unusedVariables false
namespace Go.Proofs.YtflfflfodghgpaaGreatDoor
open Go Go.EvL Go.PE
theorem PartsAt.succ : ∀ {d : Nat} {p : PV}, PartsAt d p → PartsAt (d + 1) p := by
  intro d
  induction d with
  | zero => intro p h; cases h
  | succ d ih =>
    rintro p ⟨l, h1, h2, h3⟩
    exact ⟨l, h1, h2, fun x hx => ih (h3 x hx)⟩
theorem PartsAt.mono {d d' : Nat} {p : PV} (h : PartsAt d p) (hd : d ≤ d') : PartsAt d' p := by
  obtain ⟨k, rfl⟩ : ∃ k, d' = d + k := ⟨d' - d, by omega⟩
  induction k with
  | zero => exact h
  | succ k ih => exact (ih (by omega)).succ
theorem RowAt.mono {α : Type} {e : Nat} {c : α → List PV} {Q Q' : α → Prop} {p : PV} (h : RowAt e c Q p) (hq : ∀ x, Q x → Q' x) : RowAt e c Q' p := by
  obtain ⟨l, h1, h2, h3⟩ := h
  exact ⟨l, h1, h2, fun x hx => hq x (h3 x hx)⟩
theorem NodeAt.succ {D : Nat} : ∀ {d : Nat} {x : NodeD}, NodeAt D d x → NodeAt D (d + 1) x := by
  intro d
  induction d with
  | zero => intro x h; cases h
  | succ d ih =>
    rintro x ⟨h1, h2, h3, h4, h5⟩
    exact ⟨h1, h2, h3, h4.mono fun x => ih, h5.mono fun x h => ⟨h.1, h.2.mono fun x => ih⟩⟩
theorem NodeAt.mono {D d d' : Nat} {x : NodeD} (h : NodeAt D d x) (hd : d ≤ d') : NodeAt D d' x := by
  obtain ⟨k, rfl⟩ : ∃ k, d' = d + k := ⟨d' - d, by omega⟩
  induction k with
  | zero => exact h
  | succ k ih => exact (ih (by omega)).succ
theorem parts_of {N : Nat} (hN : N < 4611686018427387904) : ∀ (n : Nat) (ps : List PV), OfT Tryz.prog n 80 ps → bulks ps ≤ N → ∃ p, ps = [p] ∧ PartsAt n p := by
  intro n
  induction n using Nat.strongRecOn with
  | ind n ih =>
    intro ps h hb
    obtain ⟨j, hj⟩ := of_pos h
    obtain ⟨p, l, h1, h2, h3, h4⟩ := of_sl (c := PartD.cells) (Q := fun x => PartsAt j x.parts) Tryz.underlying80 h (fun d => by rw [PartD.len]; omega) hb hN (fun m x hm hx hbx => by
      obtain rfl : j = m := by omega
      obtain ⟨k, ls, hk, rfl, hf⟩ := of_struct Tryz.underlying90 hx
      obtain ⟨a, b, c, d, e, rfl, f1, f2, f3, f4, f5⟩ := flds5 hf
      obtain ⟨z1, rfl, _⟩ := of_int Tryz.underlying3 f1
      obtain ⟨z2, rfl, _⟩ := of_string Tryz.underlying9 f2
      obtain ⟨z3, rfl, _⟩ := of_int Tryz.underlying3 f3
      obtain ⟨z4, rfl⟩ := of_bool Tryz.underlying4 f4
      obtain ⟨q, rfl, hq⟩ := ih k (by omega) e f5 (Nat.le_trans (bulks_flatten (by simp)) hbx)
      exact ⟨⟨z1, z2, z3, z4, q⟩, rfl, hq.mono (by omega)⟩)
    refine ⟨p, h1, ?_⟩
    rw [hj]
    exact ⟨l, h2, h3, h4⟩
theorem word_of {N : Nat} (hN : N < 4611686018427387904) {n : Nat} {ps : List PV} (h : OfT Tryz.prog n 82 ps) (hb : bulks ps ≤ N) : ∃ x : WordD, ps = x.cells ∧ PartsAt n x.parts := by
  obtain ⟨k, ls, rfl, rfl, hf⟩ := of_struct Tryz.underlying82 h
  obtain ⟨a, b, rfl, f1, f2⟩ := flds2 hf
  obtain ⟨z1, rfl, _⟩ := of_int Tryz.underlying3 f1
  obtain ⟨q, rfl, hq⟩ := parts_of hN k b f2 (Nat.le_trans (bulks_flatten (by simp)) hb)
  exact ⟨⟨z1, q⟩, rfl, hq.succ⟩
theorem words_of {N : Nat} (hN : N < 4611686018427387904) {n D : Nat} (hD : n ≤ D) {ps : List PV} (h : OfT Tryz.prog n 23 ps) (hb : bulks ps ≤ N) : ∃ p, ps = [p] ∧ WordsAt D p := by
  obtain ⟨p, l, h1, h2, h3, h4⟩ := of_sl (c := WordD.cells) (Q := fun x => PartsAt D x.parts) Tryz.underlying23 h (fun d => by rw [WordD.len]; omega) hb hN (fun m x hm hx hbx => by
    obtain ⟨y, h1, h2⟩ := word_of hN hx hbx
    exact ⟨y, h1, h2.mono (by omega)⟩)
  exact ⟨p, h1, l, h2, h3, h4⟩
theorem assigns_of {N : Nat} (hN : N < 4611686018427387904) {n D : Nat} (hD : n ≤ D) {ps : List PV} (h : OfT Tryz.prog n 22 ps) (hb : bulks ps ≤ N) : ∃ p, ps = [p] ∧ AssignsAt D p := by
  obtain ⟨p, l, h1, h2, h3, h4⟩ := of_sl (c := AssignD.cells) (Q := fun x => PartsAt D x.parts) Tryz.underlying22 h (fun d => by rw [AssignD.len]; omega) hb hN (fun m x hm hx hbx => by
    obtain ⟨k, ls, rfl, rfl, hf⟩ := of_struct Tryz.underlying84 hx
    obtain ⟨a, b, c, rfl, f1, f2, f3⟩ := flds3 hf
    obtain ⟨z1, rfl, _⟩ := of_int Tryz.underlying3 f1
    obtain ⟨z2, rfl, _⟩ := of_string Tryz.underlying9 f2
    obtain ⟨y, rfl, hy⟩ := word_of hN f3 (Nat.le_trans (bulks_flatten (by simp)) hbx)
    exact ⟨⟨z1, z2, y.pos, y.parts⟩, rfl, hy.mono (by omega)⟩)
  exact ⟨p, h1, l, h2, h3, h4⟩
theorem redirs_of {N : Nat} (hN : N < 4611686018427387904) {n D : Nat} (hD : n ≤ D) {ps : List PV} (h : OfT Tryz.prog n 24 ps) (hb : bulks ps ≤ N) : ∃ p, ps = [p] ∧ RedirsAt D p := by
  obtain ⟨p, l, h1, h2, h3, h4⟩ := of_sl (c := RedirD.cells) (Q := fun x => PartsAt D x.parts) Tryz.underlying24 h (fun d => by rw [RedirD.len]; omega) hb hN (fun m x hm hx hbx => by
    obtain ⟨k, ls, rfl, rfl, hf⟩ := of_struct Tryz.underlying148 hx
    obtain ⟨a, b, c, d, rfl, f1, f2, f3, f4⟩ := flds4 hf
    obtain ⟨z1, rfl, _⟩ := of_int Tryz.underlying3 f1
    obtain ⟨z2, rfl, _⟩ := of_int Tryz.underlying3 f2
    obtain ⟨z3, rfl, _⟩ := of_int Tryz.underlying3 f3
    obtain ⟨y, rfl, hy⟩ := word_of hN f4 (Nat.le_trans (bulks_flatten (by simp)) hbx)
    exact ⟨⟨z1, z2, z3, y.pos, y.parts⟩, rfl, hy.mono (by omega)⟩)
  exact ⟨p, h1, l, h2, h3, h4⟩
theorem node_of {N : Nat} (hN : N < 4611686018427387904) {D : Nat} : ∀ (n : Nat), n ≤ D → ∀ (ps : List PV), OfT Tryz.prog n 28 ps → bulks ps ≤ N → ∃ x : NodeD, ps = x.cells ∧ NodeAt D n x := by
  intro n
  induction n using Nat.strongRecOn with
  | ind n ih =>
    intro hn ps h hb
    have kids : ∀ (m : Nat), m < n → ∀ (ps : List PV), OfT Tryz.prog m 25 ps → bulks ps ≤ N → ∃ p, ps = [p] ∧ RowAt 28 NodeD.cells (NodeAt D m) p := by
      intro m hm ps h hb
      obtain ⟨p, l, h1, h2, h3, h4⟩ := of_sl (c := NodeD.cells) (Q := NodeAt D m) Tryz.underlying25 h (fun d => by rw [NodeD.len]; omega) hb hN (fun k x hk hx hbx => by
        obtain ⟨y, e1, e2⟩ := ih k (by omega) (by omega) x hx hbx
        exact ⟨y, e1, e2.mono (by omega)⟩)
      exact ⟨p, h1, l, h2, h3, h4⟩
    obtain ⟨k, ls, hk, rfl, hf⟩ := of_struct Tryz.underlying28 h
    clear h
    obtain ⟨a1, a2, a3, a4, a5, a6, a7, a8, a9, rfl, f1, f2, f3, f4, f5, f6, f7, f8, f9⟩ := flds9 hf
    obtain ⟨z1, rfl, _⟩ := of_int Tryz.underlying3 f1
    obtain ⟨z2, rfl, _⟩ := of_int Tryz.underlying3 f2
    obtain ⟨z3, rfl, _⟩ := of_string Tryz.underlying9 f3
    obtain ⟨z4, rfl⟩ := of_bool Tryz.underlying4 f4
    obtain ⟨p5, rfl, h5⟩ := assigns_of hN (D := D) (by omega) f5 (Nat.le_trans (bulks_flatten (by simp)) hb)
    obtain ⟨p6, rfl, h6⟩ := words_of hN (D := D) (by omega) f6 (Nat.le_trans (bulks_flatten (by simp)) hb)
    obtain ⟨p7, rfl, h7⟩ := redirs_of hN (D := D) (by omega) f7 (Nat.le_trans (bulks_flatten (by simp)) hb)
    obtain ⟨p8, rfl, h8⟩ := kids k (by omega) a8 f8 (Nat.le_trans (bulks_flatten (by simp)) hb)
    obtain ⟨p, l, h1, h2, h3, h4⟩ := of_sl (c := ItemD.cells) (Q := fun it => WordsAt D it.pats ∧ RowAt 28 NodeD.cells (NodeAt D k) it.body) Tryz.underlying26 f9 (fun d => by rw [ItemD.len]; omega) (Nat.le_trans (bulks_flatten (by simp)) hb) hN (fun m x hm hx hbx => by
      obtain ⟨k', ls, rfl, rfl, hf⟩ := of_struct Tryz.underlying150 hx
      obtain ⟨a, b, rfl, f1, f2⟩ := flds2 hf
      obtain ⟨q1, rfl, g1⟩ := words_of hN (D := D) (by omega) f1 (Nat.le_trans (bulks_flatten (by simp)) hbx)
      obtain ⟨q2, rfl, g2⟩ := kids k' (by omega) b f2 (Nat.le_trans (bulks_flatten (by simp)) hbx)
      exact ⟨⟨q1, q2⟩, rfl, g1, g2.mono fun x h => h.mono (by omega)⟩)
    subst h1
    refine ⟨⟨z1, z2, z3, z4, p5, p6, p7, p8, p⟩, rfl, ?_⟩
    rw [hk]
    exact ⟨h5, h6, h7, h8, ⟨l, h2, h3, h4⟩⟩
end Go.Proofs.YtflfflfodghgpaaGreatDoor


namespace Go.Proofs.YtflfflfodghgpaaGreatDoor
open Go Go.EvL Go.PE Go.Mir
variable {ext : PCallF}
structure VarD where
  name : ByteArray
  value : ByteArray
  set : Bool
  exp : Bool
  ro : Bool
def VarD.cells (x : VarD) : List PV := [.sc (.string x.name), .sc (.string x.value), .sc (.bool x.set), .sc (.bool x.exp), .sc (.bool x.ro)]
structure AliasD where
  name : ByteArray
  value : ByteArray
def AliasD.cells (x : AliasD) : List PV := [.sc (.string x.name), .sc (.string x.value)]
structure TrapD where
  sig : Int
  act : ByteArray
def TrapD.cells (x : TrapD) : List PV := [.sc (.int .i64 x.sig), .sc (.string x.act)]
def strC (b : ByteArray) : List PV := [.sc (.string b)]
def strQ (a b : ByteArray) : Bool := a.toList == b.toList
def varQ (x y : VarD) : Bool := strQ x.name y.name && (strQ x.value y.value && (x.set == y.set && (x.exp == y.exp && x.ro == y.ro)))
def aliasQ (x y : AliasD) : Bool := strQ x.name y.name && strQ x.value y.value
def trapQ (x y : TrapD) : Bool := x.sig == y.sig && strQ x.act y.act
theorem var_cmp (x y : VarD) (i j : Tmp) : binP Tryz.prog .neq 99 (.tmp i) (.tmp j) (.agg x.cells) (.agg y.cells) = some (.sc (.bool (!(varQ x y)))) := by
  have he : pureRun Tryz.prog (Op.equalIn 10000 99 (.agg #[.string x.name, .string x.value, .bool x.set, .bool x.exp, .bool x.ro]) (.agg #[.string y.name, .string y.value, .bool y.set, .bool y.exp, .bool y.ro])) = some (allT [strQ x.name y.name, strQ x.value y.value, x.set == y.set, x.exp == y.exp, x.ro == y.ro]) := by
    refine (pr_struct (d := 9999) Tryz.underlying99 (by kernel_rfl)).trans (pr_fields ?_)
    refine .cons _ _ _ _ ⟨by decide, _, _, _, Tryz.underlying9, rfl, rfl, rfl, pr_string (d := 9998) Tryz.underlying9 _ _⟩ ?_
    refine .cons _ _ _ _ ⟨by decide, _, _, _, Tryz.underlying9, rfl, rfl, rfl, pr_string (d := 9998) Tryz.underlying9 _ _⟩ ?_
    refine .cons _ _ _ _ ⟨by decide, _, _, _, Tryz.underlying4, rfl, rfl, rfl, pr_bool (d := 9998) Tryz.underlying4 _ _⟩ ?_
    refine .cons _ _ _ _ ⟨by decide, _, _, _, Tryz.underlying4, rfl, rfl, rfl, pr_bool (d := 9998) Tryz.underlying4 _ _⟩ ?_
    refine .cons _ _ _ _ ⟨by decide, _, _, _, Tryz.underlying4, rfl, rfl, rfl, pr_bool (d := 9998) Tryz.underlying4 _ _⟩ ?_
    exact .nil
  have hb := (binV_agg (x := .tmp i) (y := .tmp j) (by kernel_rfl) he).1
  simp only [VarD.cells, binP, scs, scalar, if_true, Option.map_some]
  rw [show binV Tryz.prog .neq 99 (.tmp i) (.tmp j) (.agg [.string x.name, .string x.value, .bool x.set, .bool x.exp, .bool x.ro].toArray) (.agg [.string y.name, .string y.value, .bool y.set, .bool y.exp, .bool y.ro].toArray) = _ from hb]
  rfl
theorem alias_cmp (x y : AliasD) (i j : Tmp) : binP Tryz.prog .neq 123 (.tmp i) (.tmp j) (.agg x.cells) (.agg y.cells) = some (.sc (.bool (!(aliasQ x y)))) := by
  have he : pureRun Tryz.prog (Op.equalIn 10000 123 (.agg #[.string x.name, .string x.value]) (.agg #[.string y.name, .string y.value])) = some (allT [strQ x.name y.name, strQ x.value y.value]) := by
    refine (pr_struct (d := 9999) Tryz.underlying123 (by kernel_rfl)).trans (pr_fields ?_)
    refine .cons _ _ _ _ ⟨by decide, _, _, _, Tryz.underlying9, rfl, rfl, rfl, pr_string (d := 9998) Tryz.underlying9 _ _⟩ ?_
    refine .cons _ _ _ _ ⟨by decide, _, _, _, Tryz.underlying9, rfl, rfl, rfl, pr_string (d := 9998) Tryz.underlying9 _ _⟩ ?_
    exact .nil
  have hb := (binV_agg (x := .tmp i) (y := .tmp j) (by kernel_rfl) he).1
  simp only [AliasD.cells, binP, scs, scalar, if_true, Option.map_some]
  rw [show binV Tryz.prog .neq 123 (.tmp i) (.tmp j) (.agg [.string x.name, .string x.value].toArray) (.agg [.string y.name, .string y.value].toArray) = _ from hb]
  rfl
theorem trap_cmp (x y : TrapD) (i j : Tmp) : binP Tryz.prog .neq 101 (.tmp i) (.tmp j) (.agg x.cells) (.agg y.cells) = some (.sc (.bool (!(trapQ x y)))) := by
  have he : pureRun Tryz.prog (Op.equalIn 10000 101 (.agg #[.int .i64 x.sig, .string x.act]) (.agg #[.int .i64 y.sig, .string y.act])) = some (allT [x.sig == y.sig, strQ x.act y.act]) := by
    refine (pr_struct (d := 9999) Tryz.underlying101 (by kernel_rfl)).trans (pr_fields ?_)
    refine .cons _ _ _ _ ⟨by decide, _, _, _, Tryz.underlying3, rfl, rfl, rfl, pr_int (d := 9998) Tryz.underlying3 _ _⟩ ?_
    refine .cons _ _ _ _ ⟨by decide, _, _, _, Tryz.underlying9, rfl, rfl, rfl, pr_string (d := 9998) Tryz.underlying9 _ _⟩ ?_
    exact .nil
  have hb := (binV_agg (x := .tmp i) (y := .tmp j) (by kernel_rfl) he).1
  simp only [TrapD.cells, binP, scs, scalar, if_true, Option.map_some]
  rw [show binV Tryz.prog .neq 101 (.tmp i) (.tmp j) (.agg [.int .i64 x.sig, .string x.act].toArray) (.agg [.int .i64 y.sig, .string y.act].toArray) = _ from hb]
  rfl
theorem opt_cmp (a b c d : Int) (i j : Tmp) : binP Tryz.prog .neq 54 (.tmp i) (.tmp j) (.agg [.sc (.int .i64 a), .sc (.int .i64 b)]) (.agg [.sc (.int .i64 c), .sc (.int .i64 d)]) = some (.sc (.bool (!(a == c && b == d)))) ∧ binP Tryz.prog .eql 54 (.tmp i) (.tmp j) (.agg [.sc (.int .i64 a), .sc (.int .i64 b)]) (.agg [.sc (.int .i64 c), .sc (.int .i64 d)]) = some (.sc (.bool (a == c && b == d))) := by
  have he : pureRun Tryz.prog (Op.equalIn 10000 54 (.agg #[.int .i64 a, .int .i64 b]) (.agg #[.int .i64 c, .int .i64 d])) = some (allT [a == c, b == d]) := by
    refine (pr_struct (d := 9999) Tryz.underlying54 (by kernel_rfl)).trans (pr_fields ?_)
    refine .cons _ _ _ _ ⟨by decide, _, _, _, Tryz.underlying3, rfl, rfl, rfl, pr_int (d := 9998) Tryz.underlying3 _ _⟩ ?_
    refine .cons _ _ _ _ ⟨by decide, _, _, _, Tryz.underlying3, rfl, rfl, rfl, pr_int (d := 9998) Tryz.underlying3 _ _⟩ ?_
    exact .nil
  have hb := binV_agg (x := .tmp i) (y := .tmp j) (by kernel_rfl) he
  simp only [binP, scs, scalar, if_true, Option.map_some]
  rw [show binV Tryz.prog .neq 54 (.tmp i) (.tmp j) (.agg [.int .i64 a, .int .i64 b].toArray) (.agg [.int .i64 c, .int .i64 d].toArray) = _ from hb.1, show binV Tryz.prog .eql 54 (.tmp i) (.tmp j) (.agg [.int .i64 a, .int .i64 b].toArray) (.agg [.int .i64 c, .int .i64 d].toArray) = _ from hb.2]
  exact ⟨rfl, rfl⟩
theorem var_el (l m : List VarD) : ElOK 99 5 true VarD.cells (fun x => .agg x.cells) varQ l m := ⟨fun _ => rfl, fun _ => rfl, fun x _ y _ i j => var_cmp x y i j⟩
theorem alias_el (l m : List AliasD) : ElOK 123 2 true AliasD.cells (fun x => .agg x.cells) aliasQ l m := ⟨fun _ => rfl, fun _ => rfl, fun x _ y _ i j => alias_cmp x y i j⟩
theorem trap_el (l m : List TrapD) : ElOK 101 2 true TrapD.cells (fun x => .agg x.cells) trapQ l m := ⟨fun _ => rfl, fun _ => rfl, fun x _ y _ i j => trap_cmp x y i j⟩
theorem str_el (l m : List ByteArray) : ElOK 9 1 false strC (fun x => .sc (.string x)) strQ l m := ⟨fun _ => rfl, fun _ => rfl, fun _ _ _ _ _ _ => rfl⟩
end Go.Proofs.YtflfflfodghgpaaGreatDoor


namespace Go.Proofs.YtflfflfodghgpaaGreatDoor
open Go Go.EvL Go.PE
variable {ext : PCallF}
theorem flat_inj {α : Type} {c : α → List PV} {es : Nat} (hi : ∀ x y, c x = c y → x = y) (hc : ∀ x, (c x).length = es) : ∀ (l m : List α), l.length = m.length → l.flatMap c = m.flatMap c → l = m := by
  intro l
  induction l with
  | nil => intro m h _; cases m with | nil => rfl | cons y m => cases h
  | cons x l ih =>
    intro m h hh
    cases m with
    | nil => cases h
    | cons y m =>
      rw [List.flatMap_cons, List.flatMap_cons] at hh
      obtain ⟨h1, h2⟩ := List.append_inj hh (by rw [hc, hc])
      rw [hi _ _ h1, ih m (by simpa using h) h2]
theorem slP_inj {α : Type} {e es : Nat} {c : α → List PV} (hi : ∀ x y, c x = c y → x = y) (hc : ∀ x, (c x).length = es) {l m : Option (List α)} (h : slP e c l = slP e c m) : l = m := by
  cases l with
  | none => cases m with | none => rfl | some m => cases h
  | some l =>
    cases m with
    | none => cases h
    | some m =>
      simp only [slP] at h
      injection h with _ h1 h2
      rw [flat_inj hi hc l m h1 h2]
theorem WordD.inj (x y : WordD) (h : x.cells = y.cells) : x = y := by
  cases x; cases y; simp only [WordD.cells] at h; simp at h; obtain ⟨rfl, rfl⟩ := h; rfl
theorem AssignD.inj (x y : AssignD) (h : x.cells = y.cells) : x = y := by
  cases x; cases y; simp only [AssignD.cells] at h; simp at h; obtain ⟨rfl, rfl, rfl, rfl⟩ := h; rfl
theorem RedirD.inj (x y : RedirD) (h : x.cells = y.cells) : x = y := by
  cases x; cases y; simp only [RedirD.cells] at h; simp at h; obtain ⟨rfl, rfl, rfl, rfl, rfl⟩ := h; rfl
theorem ItemD.inj (x y : ItemD) (h : x.cells = y.cells) : x = y := by
  cases x; cases y; simp only [ItemD.cells] at h; simp at h; obtain ⟨rfl, rfl⟩ := h; rfl
theorem NodeD.inj (x y : NodeD) (h : x.cells = y.cells) : x = y := by
  cases x; cases y; simp only [NodeD.cells] at h; simp at h; obtain ⟨rfl, rfl, rfl, rfl, rfl, rfl, rfl, rfl, rfl⟩ := h; rfl
end Go.Proofs.YtflfflfodghgpaaGreatDoor


set_option linter.unusedSimpArgs false
namespace Go.Proofs.YtflfflfodghgpaaGreatDoor
open Go Go.EvL Go.PE Go.Mir
variable {ext : PCallF}
/-- the kinds of nodes -/
def kinds (l : List NodeD) : List Int := l.map NodeD.kind
end Go.Proofs.YtflfflfodghgpaaGreatDoor


namespace Go.Proofs.YtflfflfodghgpaaGreatDoor
open Go Go.EvL Go.PE Go.Mir
variable {ext : PCallF}
def aPS : PS := ⟨fun _ => ⟨[], 0, 0⟩, 0, 0⟩
open Classical in
noncomputable def sayB (ext : PCallF) (g : Nat) (a : List PV) (q : PV) : Bool := decide (∀ s, pcall Tryz.prog Γ ext g a s = some (q, s))
open Classical in
theorem sayB_bool {g : Nat} {a : List PV} {b : Bool} (h : ∀ s, pcall Tryz.prog Γ ext g a s = some (.sc (.bool b), s)) : sayB ext g a (.sc (.bool true)) = b := by
  unfold sayB
  cases b with
  | true => exact decide_eq_true h
  | false =>
    refine decide_eq_false fun hh => ?_
    have h1 := hh aPS
    rw [h aPS] at h1
    cases h1
theorem PartsAt.sl {d : Nat} {v : PV} (h : PartsAt d v) : ∃ y, v = slP 90 PartD.cells y := by
  cases d with
  | zero => cases h
  | succ d =>
    obtain ⟨y, h, _⟩ := h
    exact ⟨y, h⟩
end Go.Proofs.YtflfflfodghgpaaGreatDoor


set_option linter.unusedSimpArgs false
namespace Go.Proofs.YtflfflfodghgpaaGreatDoor
open Go Go.EvL Go.PE Go.Mir
variable {ext : PCallF}
structure FuncD where
  name : ByteArray
  body : NodeD
def FuncD.cells (x : FuncD) : List PV := .sc (.string x.name) :: x.body.cells
theorem FuncD.len (x : FuncD) : x.cells.length = 10 := rfl
noncomputable def sameN (ext : PCallF) (x y : NodeD) : Bool := sayB ext 56 [.agg x.cells, .agg y.cells] (.sc (.bool true))
theorem same_n {D d : Nat} {x y : NodeD} (hx : NodeAt D d x) (hy : NodeAt D d y) : (∀ s, pcall Tryz.prog Γ ext 60 [.agg x.cells, .agg y.cells] s = some (.sc (.bool (sameN ext x y)), s)) ∧ ∀ s, pcall Tryz.prog Γ ext 56 [.agg x.cells, .agg y.cells] s = some (.sc (.bool (sameN ext x y)), s) := by
  obtain ⟨r, h1, h2⟩ := node_same (ext := ext) d x y hx hy
  rw [show sameN ext x y = r from sayB_bool h2]
  exact ⟨h1, h2⟩
noncomputable def funQ (ext : PCallF) (x y : FuncD) : Bool := strQ x.name y.name && sameN ext x.body y.body
theorem f_fun {D d : Nat} {x y : FuncD} (hx : NodeAt D d x.body) (hy : NodeAt D d y.body) (s : PS) : pcall Tryz.prog Γ ext 100 [.agg x.cells, .agg y.cells] s = some (.sc (.bool (funQ ext x y)), s) := by
  have h := (same_n (ext := ext) hx hy).1
  have o1 := hx.ones
  have o2 := hy.ones
  refine er_call1w (fn := p100) (r := 4) (by rfl) (by simp [p100]) (by rfl) (by rfl) ?_
  unfold p100 funQ
  obtain ⟨n, ⟨k, p, nm, al, aa, ws, rs, v, is⟩⟩ := x
  obtain ⟨n', ⟨k', p', nm', al', aa', ws', rs', v', is'⟩⟩ := y
  simp only [FuncD.cells, NodeD.cells] at h ⊢
  have hs : (n.toList == n'.toList) = strQ n n' := rfl
  cases c1 : strQ n n' with
  | false => simp -implicitDefEqProofs (disch := omega) only [ZA, Nat.reduceAdd, Nat.reduceEqDiff, ↓reduceIte, Nat.reduceLeDiff, reduceCtorEq, Nat.reduceBEq, Nat.reduceLT, actP, opP, pvOf, ofCells, callP, leaveP, resP, oneRes, frz, frz2, frz1, frzT, hs, c1, Bool.false_and]; all_goals exact Nat.le_refl _
  | true => simp -implicitDefEqProofs (disch := omega) only [ZA, Nat.reduceAdd, Nat.reduceEqDiff, ↓reduceIte, Nat.reduceLeDiff, reduceCtorEq, Nat.reduceBEq, Nat.reduceLT, actP, opP, pvOf, ofCells, callP, leaveP, resP, oneRes, frz, frz2, frz1, frzT, hs, c1, h, Bool.true_and]; all_goals exact Nat.le_refl _
theorem func_loop {D d : Nat} {l m : List FuncD} (hl : ∀ x ∈ l, NodeAt D d x.body) (hm : ∀ x ∈ m, NodeAt D d x.body) (hlm : l.length = m.length) (hx : l.length < 1000000000000) (s : PS) : ∀ (k i : Nat) (f : PFr), i + k = l.length → f 0 = .lit 121 l.length (l.flatMap FuncD.cells) → f 1 = .lit 121 m.length (m.flatMap FuncD.cells) → f 5 = .sc (.int .i64 (i : Int)) →
    Er (fun f' s' => s' = s ∧ f' 4 = .sc (.bool (allQ (funQ ext) (l.drop i) (m.drop i)))) (LP Tryz.prog Γ ext 0 b82_0 r82_0 f s) := by
  intro k
  induction k with
  | zero =>
    intro i f hk h0 h1 h5
    have e1 : decide (i < l.length) = false := decide_eq_false (by omega)
    have ha : allQ (funQ ext) (l.drop i) (m.drop i) = true := by rw [List.drop_eq_nil_of_le (by omega), List.drop_eq_nil_of_le (by omega)]; rfl
    refine LP_case fun L hL => ?_
    simp -implicitDefEqProofs (disch := omega) only [ZA, Nat.reduceAdd, Nat.reduceEqDiff, ↓reduceIte, Nat.reduceLeDiff, reduceCtorEq, Nat.reduceBEq, Nat.reduceLT, actP, opP, pvOf, ofCells, callP, leaveP, resP, oneRes, frz, frz2, frz1, frzT, b82_0, r82_0, h0, h1, h5, e1, lenP, ha]
  | succ k ih =>
    intro i f hk h0 h1 h5
    have hil : i < l.length := by omega
    have him : i < m.length := by omega
    have e1 : decide (i < l.length) = true := decide_eq_true hil
    have hj : l[i]? = some l[i] := List.getElem?_eq_getElem hil
    have hj2 : m[i]? = some m[i] := List.getElem?_eq_getElem him
    have hfl := flat_len FuncD.len l
    have hfm := flat_len FuncD.len m
    obtain ⟨rr, hk3⟩ := flat_at FuncD.len hj
    obtain ⟨rr2, hk4⟩ := flat_at FuncD.len hj2
    have hs := (same_n (ext := ext) (hl _ (List.getElem_mem hil)) (hm _ (List.getElem_mem him))).2
    have hd : allQ (funQ ext) (l.drop i) (m.drop i) = (funQ ext l[i] m[i] && allQ (funQ ext) (l.drop (i + 1)) (m.drop (i + 1))) := by
      rw [List.drop_eq_getElem_cons hil, List.drop_eq_getElem_cons him]
      rfl
    rw [hd]
    have hgo := ih (i + 1)
    have pu56 : puOf Γ 56 = true := rfl
    generalize l[i] = x at *
    generalize m[i] = y at *
    obtain ⟨n, ⟨k1, p, nm, al, aa, ws, rs, v, is⟩⟩ := x
    obtain ⟨n', ⟨k', p', nm', al', aa', ws', rs', v', is'⟩⟩ := y
    simp only [FuncD.cells, NodeD.cells, List.cons_append, List.nil_append] at hk3 hk4 hs
    simp only [funQ]
    have hq : (n.toList == n'.toList) = strQ n n' := rfl
    refine LP_case fun L hL => ?_
    cases c1 : strQ n n' with
    | false => simp -implicitDefEqProofs (disch := first | omega | (unfold OkAll OkPair; simp <;> omega)) only [ZA, Nat.reduceAdd, Nat.reduceEqDiff, ↓reduceIte, Nat.reduceLeDiff, reduceCtorEq, Nat.reduceBEq, Nat.reduceLT, actP, opP, pvOf, ofCells, callP, leaveP, resP, oneRes, frz, frz2, frz1, frzT, ZD, effO, effA, pureI, b82_0, r82_0, h0, h1, h5, e1, lenP, hil, him, hfl, hfm, hk3, hk4, ld_litp, hq, c1, pu56, Bool.not_false, Bool.false_and]
    | true =>
      generalize hcs : sameN ext _ _ = cs at hs ⊢
      cases cs with
      | false => simp -implicitDefEqProofs (disch := first | omega | (unfold OkAll OkPair; simp <;> omega)) only [ZA, Nat.reduceAdd, Nat.reduceEqDiff, ↓reduceIte, Nat.reduceLeDiff, reduceCtorEq, Nat.reduceBEq, Nat.reduceLT, actP, opP, pvOf, ofCells, callP, leaveP, resP, oneRes, frz, frz2, frz1, frzT, ZD, effO, effA, pureI, b82_0, r82_0, h0, h1, h5, e1, lenP, hil, him, hfl, hfm, hk3, hk4, ld_litp, hq, c1, hs, pu56, Bool.not_true, Bool.not_false, Bool.false_and, Bool.true_and]
      | true =>
        simp -implicitDefEqProofs (disch := first | omega | (unfold OkAll OkPair; simp <;> omega)) only [ZA, Nat.reduceAdd, Nat.reduceEqDiff, ↓reduceIte, Nat.reduceLeDiff, reduceCtorEq, Nat.reduceBEq, Nat.reduceLT, actP, opP, pvOf, ofCells, callP, leaveP, resP, oneRes, frz, frz2, frz1, frzT, ZD, effO, effA, pureI, b82_0, h0, h1, h5, e1, lenP, hil, him, hfl, hfm, hk3, hk4, ld_litp, hq, c1, hs, pu56, Bool.not_true, Bool.not_false, Bool.false_and, Bool.true_and]
        subst hL
        exact hgo _ (by omega) (by simp -implicitDefEqProofs (disch := omega) only [ZA, Nat.reduceAdd, Nat.reduceEqDiff, ↓reduceIte, Nat.reduceLeDiff, reduceCtorEq, Nat.reduceBEq, Nat.reduceLT, actP, opP, pvOf, ofCells, callP, leaveP, resP, oneRes, frz, frz2, frz1, frzT, h0]) (by simp -implicitDefEqProofs (disch := omega) only [ZA, Nat.reduceAdd, Nat.reduceEqDiff, ↓reduceIte, Nat.reduceLeDiff, reduceCtorEq, Nat.reduceBEq, Nat.reduceLT, actP, opP, pvOf, ofCells, callP, leaveP, resP, oneRes, frz, frz2, frz1, frzT, h1]) (by simp -implicitDefEqProofs (disch := omega) only [ZA, Nat.reduceAdd, Nat.reduceEqDiff, ↓reduceIte, Nat.reduceLeDiff, reduceCtorEq, Nat.reduceBEq, Nat.reduceLT, actP, opP, pvOf, ofCells, callP, leaveP, resP, oneRes, frz, frz2, frz1, frzT])
theorem r_funcs {D d : Nat} {la lb : Option (List FuncD)} (hl : ∀ x ∈ la.getD [], NodeAt D d x.body) (hm : ∀ x ∈ lb.getD [], NodeAt D d x.body) (hx : (la.getD []).length < 1000000000000) (hy : (lb.getD []).length < 1000000000000) (s : PS) :
    pcall Tryz.prog Γ ext 82 [slP 121 FuncD.cells la, slP 121 FuncD.cells lb] s = some (.sc (.bool (allQ (funQ ext) (la.getD []) (lb.getD []))), s) := by
  have h1 := slP_len (e := 121) (c := FuncD.cells) la
  have h2 := slP_len (e := 121) (c := FuncD.cells) lb
  refine er_call1 (fn := p82) (r := 4) (by rfl) (by simp [p82]) (by rfl) (by rfl) ?_
  unfold p82
  cases cn : (la.getD []).length == (lb.getD []).length with
  | false =>
    rw [allQ_ne (ne_of_beq_false cn)]
    simp -implicitDefEqProofs (disch := omega) only [ZA, Nat.reduceAdd, Nat.reduceEqDiff, ↓reduceIte, Nat.reduceLeDiff, reduceCtorEq, Nat.reduceBEq, Nat.reduceLT, actP, opP, pvOf, ofCells, callP, leaveP, resP, oneRes, frz, frz2, frz1, frzT, h1, h2, bne, cn, Bool.not_false]
  | true =>
    have hn := eq_of_beq cn
    simp -implicitDefEqProofs (disch := omega) only [ZA, Nat.reduceAdd, Nat.reduceEqDiff, ↓reduceIte, Nat.reduceLeDiff, reduceCtorEq, Nat.reduceBEq, Nat.reduceLT, actP, opP, pvOf, ofCells, callP, leaveP, resP, oneRes, frz, frz2, frz1, frzT, h1, h2, bne, cn, Bool.not_true]
    cases la with
    | none =>
      have hb : lb.getD [] = [] := List.eq_nil_of_length_eq_zero hn.symm
      have z0 : decide ((0 : Int) < 0) = false := rfl
      rw [hb]
      refine LP_case fun L hL => ?_
      simp -implicitDefEqProofs (disch := omega) only [ZA, Nat.reduceAdd, Nat.reduceEqDiff, ↓reduceIte, Nat.reduceLeDiff, reduceCtorEq, Nat.reduceBEq, Nat.reduceLT, actP, opP, pvOf, ofCells, callP, leaveP, resP, oneRes, frz, frz2, frz1, frzT, b82_0, r82_0, slP, lenP, z0]
      rfl
    | some l =>
      cases lb with
      | none =>
        have ha : l = [] := List.eq_nil_of_length_eq_zero hn
        subst ha
        have z0 : decide ((0 : Int) < ((0 : Nat) : Int)) = false := rfl
        refine LP_case fun L hL => ?_
        simp -implicitDefEqProofs (disch := omega) only [ZA, Nat.reduceAdd, Nat.reduceEqDiff, ↓reduceIte, Nat.reduceLeDiff, reduceCtorEq, Nat.reduceBEq, Nat.reduceLT, actP, opP, pvOf, ofCells, callP, leaveP, resP, oneRes, frz, frz2, frz1, frzT, b82_0, r82_0, slP, lenP, List.length_nil, z0]
        rfl
      | some m =>
        have key := fun f a b c => func_loop (ext := ext) hl hm hn hx ⟨s.h, s.n, s.n⟩ l.length 0 f (Nat.zero_add _) a b c
        simp only [List.drop_zero, Option.getD_some] at key
        exact key _ (by simp -implicitDefEqProofs (disch := omega) only [ZA, Nat.reduceAdd, Nat.reduceEqDiff, ↓reduceIte, Nat.reduceLeDiff, reduceCtorEq, Nat.reduceBEq, Nat.reduceLT, actP, opP, pvOf, ofCells, callP, leaveP, resP, oneRes, frz, frz2, frz1, frzT, slP]) (by simp -implicitDefEqProofs (disch := omega) only [ZA, Nat.reduceAdd, Nat.reduceEqDiff, ↓reduceIte, Nat.reduceLeDiff, reduceCtorEq, Nat.reduceBEq, Nat.reduceLT, actP, opP, pvOf, ofCells, callP, leaveP, resP, oneRes, frz, frz2, frz1, frzT, slP]) (by simp -implicitDefEqProofs (disch := omega) only [ZA, Nat.reduceAdd, Nat.reduceEqDiff, ↓reduceIte, Nat.reduceLeDiff, reduceCtorEq, Nat.reduceBEq, Nat.reduceLT, actP, opP, pvOf, ofCells, callP, leaveP, resP, oneRes, frz, frz2, frz1, frzT] <;> rfl)
theorem g103 : Γ 103 = some (eqF 121 10 #[(.string ⟨#[]⟩), (.int .i64 0), (.int .i64 0), (.string ⟨#[]⟩), (.bool false), (.slice none 0 0), (.slice none 0 0), (.slice none 0 0), (.slice none 0 0), (.slice none 0 0)] 3) := rfl
theorem allB_allQ {α : Type} {q : α → α → Bool} {R : Nat → Bool} : ∀ (l m : List α) (i0 : Nat), l.length = m.length → (∀ i x y, l[i]? = some x → m[i]? = some y → R (i0 + i) = q x y) → allB R i0 l.length = allQ q l m
  | [], [], i0, _, _ => rfl
  | [], _ :: _, _, h, _ => by cases h
  | _ :: _, [], _, h, _ => by cases h
  | p :: l, r :: m, i0, h, hr => by
    rw [allQ, ← hr 0 p r rfl rfl, ← allB_allQ l m (i0 + 1) (by simpa using h) fun i p q h1 h2 => by
      rw [← hr (i + 1) p q (by simpa using h1) (by simpa using h2)]
      congr 1
      omega]
    rfl
theorem p_funcs {D d : Nat} {la lb : Option (List FuncD)} (hl : ∀ x ∈ la.getD [], NodeAt D d x.body) (hm : ∀ x ∈ lb.getD [], NodeAt D d x.body) (hx : (la.getD []).length < 1000000000000) (s : PS) :
    pcall Tryz.prog Γ ext 103 [slP 121 FuncD.cells la, slP 121 FuncD.cells lb, .fn 100 [] []] s = some (.sc (.bool (allQ (funQ ext) (la.getD []) (lb.getD []))), s) := by
  have ones : ∀ {x : FuncD}, NodeAt D d x.body → x.cells.all oneP = true := fun {x} h => by
    have := h.ones
    simp only [FuncD.cells, List.all_cons, this, Bool.and_true]
    rfl
  have h := eq_func (P := Tryz.prog) (ext := ext) (e := 121) (t := 121) FuncD.len (by rfl) g103 (l := la) (m := lb) (fun x hx => hx.elim (fun h => ones (hl x h)) (fun h => ones (hm x h))) (g := 100) (by omega) (r := fun i => match (la.getD [])[i]?, (lb.getD [])[i]? with | some x, some y => funQ ext x y | _, _ => true) (fun i x y h1 h2 s => by
    simp only [h1, h2]
    exact f_fun (hl x (List.mem_of_getElem? h1)) (hm y (List.mem_of_getElem? h2)) s) s
  have e : ((la.getD []).length == (lb.getD []).length && allB (fun i => match (la.getD [])[i]?, (lb.getD [])[i]? with | some x, some y => funQ ext x y | _, _ => true) 0 (la.getD []).length) = allQ (funQ ext) (la.getD []) (lb.getD []) := by
    cases cn : (la.getD []).length == (lb.getD []).length with
    | false => rw [Bool.false_and, allQ_ne (ne_of_beq_false cn)]
    | true =>
      rw [Bool.true_and]
      exact allB_allQ _ _ 0 (eq_of_beq cn) fun i x y h1 h2 => by simp only [Nat.zero_add, h1, h2]
  rw [← e]
  exact h
end Go.Proofs.YtflfflfodghgpaaGreatDoor


set_option linter.unusedSimpArgs false
namespace Go.Proofs.YtflfflfodghgpaaGreatDoor
open Go Go.EvL Go.PE Go.Mir
variable {ext : PCallF}
structure EnvD where
  name : ByteArray
  vars : PV
  params : PV
  funcs : PV
  aliases : PV
  traps : PV
  opts : Int
  stat : Int
  pid : Int
  last : Int
  cwd : ByteArray
  gi : Int
  go : Int
  lev : Int
  talks : Bool
def EnvD.cells (x : EnvD) : List PV := [.sc (.string x.name), x.vars, x.params, x.funcs, x.aliases, x.traps, .sc (.int .i64 x.opts), .sc (.int .i64 x.stat), .sc (.int .i64 x.pid), .sc (.int .i64 x.last), .sc (.string x.cwd), .sc (.int .i64 x.gi), .sc (.int .i64 x.go), .sc (.int .i64 x.lev), .sc (.bool x.talks)]
theorem EnvD.len (x : EnvD) : x.cells.length = 15 := rfl
set_option maxHeartbeats 4000000 in
theorem p_same {an bn ac bc : ByteArray} {av ap af aa at' bv bp bf ba bt' : PV} {ao as' ai al ag ah ae bo bs bi' bl bg bh be : Int} {ak bk : Bool} {qn qv qp qf qa qt qo qs qi ql qc qg qe qk : Bool} (hn : (an.toList == bn.toList) = qn) (hc : (ac.toList == bc.toList) = qc) (ho : (ao == bo) = qo) (hs : (as' == bs) = qs) (hi : (ai == bi') = qi) (hl : (al == bl) = ql) (hg : (ag == bg && ah == bh) = qg) (he : (ae == be) = qe) (hk : (ak == bk) = qk) (cv1 : cellsP av = [av]) (cv2 : cellsP bv = [bv]) (cp1 : cellsP ap = [ap]) (cp2 : cellsP bp = [bp]) (cf1 : cellsP af = [af]) (cf2 : cellsP bf = [bf]) (ca1 : cellsP aa = [aa]) (ca2 : cellsP ba = [ba]) (ct1 : cellsP at' = [at']) (ct2 : cellsP bt' = [bt']) (h101 : ∀ s, pcall Tryz.prog Γ ext 101 [av, bv] s = some (.sc (.bool qv), s)) (h102 : ∀ s, pcall Tryz.prog Γ ext 102 [ap, bp] s = some (.sc (.bool qp), s)) (h103 : ∀ s, pcall Tryz.prog Γ ext 103 [af, bf, .fn 100 [] []] s = some (.sc (.bool qf), s)) (h104 : ∀ s, pcall Tryz.prog Γ ext 104 [aa, ba] s = some (.sc (.bool qa), s)) (h105 : ∀ s, pcall Tryz.prog Γ ext 105 [at', bt'] s = some (.sc (.bool qt), s)) (s : PS) :
    pcall Tryz.prog Γ ext 49 [.agg [.sc (.string an), av, ap, af, aa, at', .sc (.int .i64 ao), .sc (.int .i64 as'), .sc (.int .i64 ai), .sc (.int .i64 al), .sc (.string ac), .sc (.int .i64 ag), .sc (.int .i64 ah), .sc (.int .i64 ae), .sc (.bool ak)], .agg [.sc (.string bn), bv, bp, bf, ba, bt', .sc (.int .i64 bo), .sc (.int .i64 bs), .sc (.int .i64 bi'), .sc (.int .i64 bl), .sc (.string bc), .sc (.int .i64 bg), .sc (.int .i64 bh), .sc (.int .i64 be), .sc (.bool bk)]] s = some (.sc (.bool (qn && (qv && (qp && (qf && (qa && (qt && (qo && (qs && (qi && (ql && (qc && (qg && (qe && (qk))))))))))))))), s) := by
  have hb1 := fun x y a b => bin_beql (P := Tryz.prog) (t := 4) Tryz.underlying4 x y a b
  have hb2 := fun x y a b => bin_bneq (P := Tryz.prog) (t := 4) Tryz.underlying4 x y a b
  have hg1 := fun i j => (opt_cmp ag ah bg bh i j).1
  have hg2 := fun i j => (opt_cmp ag ah bg bh i j).2
  simp only [hg] at hg1 hg2
  refine er_call1w (fn := p49) (r := 4) (by rfl) (by simp [p49]) (by rfl) (by rfl) ?_
  unfold p49
  cases c1 : qn with
  | false =>
    simp -implicitDefEqProofs (disch := omega) only [ZA, Nat.reduceAdd, Nat.reduceEqDiff, ↓reduceIte, Nat.reduceLeDiff, reduceCtorEq, Nat.reduceBEq, Nat.reduceLT, actP, opP, pvOf, ofCells, callP, leaveP, resP, oneRes, frz, frz2, frz1, frzT, hn, hc, ho, hs, hi, hl, he, hk, hg1, hg2, hb1, hb2, bne, ce_agg, cv1, cv2, cp1, cp2, cf1, cf2, ca1, ca2, ct1, ct2, h101, h102, h103, h104, h105, c1, Bool.false_or, Bool.true_or, Bool.or_true, Bool.or_false, Bool.false_and, Bool.true_and, Bool.and_true, Bool.and_false, Bool.not_true, Bool.not_false]
    all_goals exact Nat.le_refl _
  | true =>
    cases c2 : qv with
    | false =>
      simp -implicitDefEqProofs (disch := omega) only [ZA, Nat.reduceAdd, Nat.reduceEqDiff, ↓reduceIte, Nat.reduceLeDiff, reduceCtorEq, Nat.reduceBEq, Nat.reduceLT, actP, opP, pvOf, ofCells, callP, leaveP, resP, oneRes, frz, frz2, frz1, frzT, hn, hc, ho, hs, hi, hl, he, hk, hg1, hg2, hb1, hb2, bne, ce_agg, cv1, cv2, cp1, cp2, cf1, cf2, ca1, ca2, ct1, ct2, h101, h102, h103, h104, h105, c1, c2, Bool.false_or, Bool.true_or, Bool.or_true, Bool.or_false, Bool.false_and, Bool.true_and, Bool.and_true, Bool.and_false, Bool.not_true, Bool.not_false]
      all_goals exact Nat.le_refl _
    | true =>
      cases c3 : qp with
      | false =>
        simp -implicitDefEqProofs (disch := omega) only [ZA, Nat.reduceAdd, Nat.reduceEqDiff, ↓reduceIte, Nat.reduceLeDiff, reduceCtorEq, Nat.reduceBEq, Nat.reduceLT, actP, opP, pvOf, ofCells, callP, leaveP, resP, oneRes, frz, frz2, frz1, frzT, hn, hc, ho, hs, hi, hl, he, hk, hg1, hg2, hb1, hb2, bne, ce_agg, cv1, cv2, cp1, cp2, cf1, cf2, ca1, ca2, ct1, ct2, h101, h102, h103, h104, h105, c1, c2, c3, Bool.false_or, Bool.true_or, Bool.or_true, Bool.or_false, Bool.false_and, Bool.true_and, Bool.and_true, Bool.and_false, Bool.not_true, Bool.not_false]
        all_goals exact Nat.le_refl _
      | true =>
        cases c4 : qf with
        | false =>
          simp -implicitDefEqProofs (disch := omega) only [ZA, Nat.reduceAdd, Nat.reduceEqDiff, ↓reduceIte, Nat.reduceLeDiff, reduceCtorEq, Nat.reduceBEq, Nat.reduceLT, actP, opP, pvOf, ofCells, callP, leaveP, resP, oneRes, frz, frz2, frz1, frzT, hn, hc, ho, hs, hi, hl, he, hk, hg1, hg2, hb1, hb2, bne, ce_agg, cv1, cv2, cp1, cp2, cf1, cf2, ca1, ca2, ct1, ct2, h101, h102, h103, h104, h105, c1, c2, c3, c4, Bool.false_or, Bool.true_or, Bool.or_true, Bool.or_false, Bool.false_and, Bool.true_and, Bool.and_true, Bool.and_false, Bool.not_true, Bool.not_false]
          all_goals exact Nat.le_refl _
        | true =>
          cases c5 : qa with
          | false =>
            simp -implicitDefEqProofs (disch := omega) only [ZA, Nat.reduceAdd, Nat.reduceEqDiff, ↓reduceIte, Nat.reduceLeDiff, reduceCtorEq, Nat.reduceBEq, Nat.reduceLT, actP, opP, pvOf, ofCells, callP, leaveP, resP, oneRes, frz, frz2, frz1, frzT, hn, hc, ho, hs, hi, hl, he, hk, hg1, hg2, hb1, hb2, bne, ce_agg, cv1, cv2, cp1, cp2, cf1, cf2, ca1, ca2, ct1, ct2, h101, h102, h103, h104, h105, c1, c2, c3, c4, c5, Bool.false_or, Bool.true_or, Bool.or_true, Bool.or_false, Bool.false_and, Bool.true_and, Bool.and_true, Bool.and_false, Bool.not_true, Bool.not_false]
            all_goals exact Nat.le_refl _
          | true =>
            cases c6 : qt with
            | false =>
              simp -implicitDefEqProofs (disch := omega) only [ZA, Nat.reduceAdd, Nat.reduceEqDiff, ↓reduceIte, Nat.reduceLeDiff, reduceCtorEq, Nat.reduceBEq, Nat.reduceLT, actP, opP, pvOf, ofCells, callP, leaveP, resP, oneRes, frz, frz2, frz1, frzT, hn, hc, ho, hs, hi, hl, he, hk, hg1, hg2, hb1, hb2, bne, ce_agg, cv1, cv2, cp1, cp2, cf1, cf2, ca1, ca2, ct1, ct2, h101, h102, h103, h104, h105, c1, c2, c3, c4, c5, c6, Bool.false_or, Bool.true_or, Bool.or_true, Bool.or_false, Bool.false_and, Bool.true_and, Bool.and_true, Bool.and_false, Bool.not_true, Bool.not_false]
              all_goals exact Nat.le_refl _
            | true =>
              cases c7 : qo with
              | false =>
                simp -implicitDefEqProofs (disch := omega) only [ZA, Nat.reduceAdd, Nat.reduceEqDiff, ↓reduceIte, Nat.reduceLeDiff, reduceCtorEq, Nat.reduceBEq, Nat.reduceLT, actP, opP, pvOf, ofCells, callP, leaveP, resP, oneRes, frz, frz2, frz1, frzT, hn, hc, ho, hs, hi, hl, he, hk, hg1, hg2, hb1, hb2, bne, ce_agg, cv1, cv2, cp1, cp2, cf1, cf2, ca1, ca2, ct1, ct2, h101, h102, h103, h104, h105, c1, c2, c3, c4, c5, c6, c7, Bool.false_or, Bool.true_or, Bool.or_true, Bool.or_false, Bool.false_and, Bool.true_and, Bool.and_true, Bool.and_false, Bool.not_true, Bool.not_false]
                all_goals exact Nat.le_refl _
              | true =>
                cases c8 : qs with
                | false =>
                  simp -implicitDefEqProofs (disch := omega) only [ZA, Nat.reduceAdd, Nat.reduceEqDiff, ↓reduceIte, Nat.reduceLeDiff, reduceCtorEq, Nat.reduceBEq, Nat.reduceLT, actP, opP, pvOf, ofCells, callP, leaveP, resP, oneRes, frz, frz2, frz1, frzT, hn, hc, ho, hs, hi, hl, he, hk, hg1, hg2, hb1, hb2, bne, ce_agg, cv1, cv2, cp1, cp2, cf1, cf2, ca1, ca2, ct1, ct2, h101, h102, h103, h104, h105, c1, c2, c3, c4, c5, c6, c7, c8, Bool.false_or, Bool.true_or, Bool.or_true, Bool.or_false, Bool.false_and, Bool.true_and, Bool.and_true, Bool.and_false, Bool.not_true, Bool.not_false]
                  all_goals exact Nat.le_refl _
                | true =>
                  cases c9 : qi with
                  | false =>
                    simp -implicitDefEqProofs (disch := omega) only [ZA, Nat.reduceAdd, Nat.reduceEqDiff, ↓reduceIte, Nat.reduceLeDiff, reduceCtorEq, Nat.reduceBEq, Nat.reduceLT, actP, opP, pvOf, ofCells, callP, leaveP, resP, oneRes, frz, frz2, frz1, frzT, hn, hc, ho, hs, hi, hl, he, hk, hg1, hg2, hb1, hb2, bne, ce_agg, cv1, cv2, cp1, cp2, cf1, cf2, ca1, ca2, ct1, ct2, h101, h102, h103, h104, h105, c1, c2, c3, c4, c5, c6, c7, c8, c9, Bool.false_or, Bool.true_or, Bool.or_true, Bool.or_false, Bool.false_and, Bool.true_and, Bool.and_true, Bool.and_false, Bool.not_true, Bool.not_false]
                    all_goals exact Nat.le_refl _
                  | true =>
                    cases c10 : ql with
                    | false =>
                      simp -implicitDefEqProofs (disch := omega) only [ZA, Nat.reduceAdd, Nat.reduceEqDiff, ↓reduceIte, Nat.reduceLeDiff, reduceCtorEq, Nat.reduceBEq, Nat.reduceLT, actP, opP, pvOf, ofCells, callP, leaveP, resP, oneRes, frz, frz2, frz1, frzT, hn, hc, ho, hs, hi, hl, he, hk, hg1, hg2, hb1, hb2, bne, ce_agg, cv1, cv2, cp1, cp2, cf1, cf2, ca1, ca2, ct1, ct2, h101, h102, h103, h104, h105, c1, c2, c3, c4, c5, c6, c7, c8, c9, c10, Bool.false_or, Bool.true_or, Bool.or_true, Bool.or_false, Bool.false_and, Bool.true_and, Bool.and_true, Bool.and_false, Bool.not_true, Bool.not_false]
                      all_goals exact Nat.le_refl _
                    | true =>
                      cases c11 : qc with
                      | false =>
                        simp -implicitDefEqProofs (disch := omega) only [ZA, Nat.reduceAdd, Nat.reduceEqDiff, ↓reduceIte, Nat.reduceLeDiff, reduceCtorEq, Nat.reduceBEq, Nat.reduceLT, actP, opP, pvOf, ofCells, callP, leaveP, resP, oneRes, frz, frz2, frz1, frzT, hn, hc, ho, hs, hi, hl, he, hk, hg1, hg2, hb1, hb2, bne, ce_agg, cv1, cv2, cp1, cp2, cf1, cf2, ca1, ca2, ct1, ct2, h101, h102, h103, h104, h105, c1, c2, c3, c4, c5, c6, c7, c8, c9, c10, c11, Bool.false_or, Bool.true_or, Bool.or_true, Bool.or_false, Bool.false_and, Bool.true_and, Bool.and_true, Bool.and_false, Bool.not_true, Bool.not_false]
                        all_goals exact Nat.le_refl _
                      | true =>
                        cases c12 : qg with
                        | false =>
                          simp -implicitDefEqProofs (disch := omega) only [ZA, Nat.reduceAdd, Nat.reduceEqDiff, ↓reduceIte, Nat.reduceLeDiff, reduceCtorEq, Nat.reduceBEq, Nat.reduceLT, actP, opP, pvOf, ofCells, callP, leaveP, resP, oneRes, frz, frz2, frz1, frzT, hn, hc, ho, hs, hi, hl, he, hk, hg1, hg2, hb1, hb2, bne, ce_agg, cv1, cv2, cp1, cp2, cf1, cf2, ca1, ca2, ct1, ct2, h101, h102, h103, h104, h105, c1, c2, c3, c4, c5, c6, c7, c8, c9, c10, c11, c12, Bool.false_or, Bool.true_or, Bool.or_true, Bool.or_false, Bool.false_and, Bool.true_and, Bool.and_true, Bool.and_false, Bool.not_true, Bool.not_false]
                          all_goals exact Nat.le_refl _
                        | true =>
                          cases c13 : qe with
                          | false =>
                            simp -implicitDefEqProofs (disch := omega) only [ZA, Nat.reduceAdd, Nat.reduceEqDiff, ↓reduceIte, Nat.reduceLeDiff, reduceCtorEq, Nat.reduceBEq, Nat.reduceLT, actP, opP, pvOf, ofCells, callP, leaveP, resP, oneRes, frz, frz2, frz1, frzT, hn, hc, ho, hs, hi, hl, he, hk, hg1, hg2, hb1, hb2, bne, ce_agg, cv1, cv2, cp1, cp2, cf1, cf2, ca1, ca2, ct1, ct2, h101, h102, h103, h104, h105, c1, c2, c3, c4, c5, c6, c7, c8, c9, c10, c11, c12, c13, Bool.false_or, Bool.true_or, Bool.or_true, Bool.or_false, Bool.false_and, Bool.true_and, Bool.and_true, Bool.and_false, Bool.not_true, Bool.not_false]
                            all_goals exact Nat.le_refl _
                          | true =>
                            simp -implicitDefEqProofs (disch := omega) only [ZA, Nat.reduceAdd, Nat.reduceEqDiff, ↓reduceIte, Nat.reduceLeDiff, reduceCtorEq, Nat.reduceBEq, Nat.reduceLT, actP, opP, pvOf, ofCells, callP, leaveP, resP, oneRes, frz, frz2, frz1, frzT, hn, hc, ho, hs, hi, hl, he, hk, hg1, hg2, hb1, hb2, bne, ce_agg, cv1, cv2, cp1, cp2, cf1, cf2, ca1, ca2, ct1, ct2, h101, h102, h103, h104, h105, c1, c2, c3, c4, c5, c6, c7, c8, c9, c10, c11, c12, c13, Bool.false_or, Bool.true_or, Bool.or_true, Bool.or_false, Bool.false_and, Bool.true_and, Bool.and_true, Bool.and_false, Bool.not_true, Bool.not_false]
                            all_goals exact Nat.le_refl _
set_option maxHeartbeats 4000000 in
theorem r_same {an bn ac bc : ByteArray} {av ap af aa at' bv bp bf ba bt' : PV} {ao as' ai al ag ah ae bo bs bi' bl bg bh be : Int} {ak bk : Bool} {qn qv qp qf qa qt qo qs qi ql qc qg qe qk : Bool} (hn : (an.toList == bn.toList) = qn) (hc : (ac.toList == bc.toList) = qc) (ho : (ao == bo) = qo) (hs : (as' == bs) = qs) (hi : (ai == bi') = qi) (hl : (al == bl) = ql) (hg : (ag == bg && ah == bh) = qg) (he : (ae == be) = qe) (hk : (ak == bk) = qk) (cv1 : cellsP av = [av]) (cv2 : cellsP bv = [bv]) (cp1 : cellsP ap = [ap]) (cp2 : cellsP bp = [bp]) (cf1 : cellsP af = [af]) (cf2 : cellsP bf = [bf]) (ca1 : cellsP aa = [aa]) (ca2 : cellsP ba = [ba]) (ct1 : cellsP at' = [at']) (ct2 : cellsP bt' = [bt']) (h42 : ∀ s, pcall Tryz.prog Γ ext 42 [av, bv] s = some (.sc (.bool qv), s)) (h43 : ∀ s, pcall Tryz.prog Γ ext 43 [ap, bp] s = some (.sc (.bool qp), s)) (h82 : ∀ s, pcall Tryz.prog Γ ext 82 [af, bf] s = some (.sc (.bool qf), s)) (h44 : ∀ s, pcall Tryz.prog Γ ext 44 [aa, ba] s = some (.sc (.bool qa), s)) (h83 : ∀ s, pcall Tryz.prog Γ ext 83 [at', bt'] s = some (.sc (.bool qt), s)) (s : PS) :
    pcall Tryz.prog Γ ext 35 [.agg [.sc (.string an), av, ap, af, aa, at', .sc (.int .i64 ao), .sc (.int .i64 as'), .sc (.int .i64 ai), .sc (.int .i64 al), .sc (.string ac), .sc (.int .i64 ag), .sc (.int .i64 ah), .sc (.int .i64 ae), .sc (.bool ak)], .agg [.sc (.string bn), bv, bp, bf, ba, bt', .sc (.int .i64 bo), .sc (.int .i64 bs), .sc (.int .i64 bi'), .sc (.int .i64 bl), .sc (.string bc), .sc (.int .i64 bg), .sc (.int .i64 bh), .sc (.int .i64 be), .sc (.bool bk)]] s = some (.sc (.bool (qn && (qo && (qs && (qi && (ql && (qc && (qg && (qe && (qk && (qv && (qp && (qf && (qa && (qt))))))))))))))), s) := by
  have hb1 := fun x y a b => bin_beql (P := Tryz.prog) (t := 4) Tryz.underlying4 x y a b
  have hb2 := fun x y a b => bin_bneq (P := Tryz.prog) (t := 4) Tryz.underlying4 x y a b
  have hg1 := fun i j => (opt_cmp ag ah bg bh i j).1
  have hg2 := fun i j => (opt_cmp ag ah bg bh i j).2
  simp only [hg] at hg1 hg2
  refine er_call1w (fn := p35) (r := 4) (by rfl) (by simp [p35]) (by rfl) (by rfl) ?_
  unfold p35
  cases c1 : qn with
  | false =>
    simp -implicitDefEqProofs (disch := omega) only [ZA, Nat.reduceAdd, Nat.reduceEqDiff, ↓reduceIte, Nat.reduceLeDiff, reduceCtorEq, Nat.reduceBEq, Nat.reduceLT, actP, opP, pvOf, ofCells, callP, leaveP, resP, oneRes, frz, frz2, frz1, frzT, hn, hc, ho, hs, hi, hl, he, hk, hg1, hg2, hb1, hb2, bne, ce_agg, cv1, cv2, cp1, cp2, cf1, cf2, ca1, ca2, ct1, ct2, h42, h43, h82, h44, h83, c1, Bool.false_or, Bool.true_or, Bool.or_true, Bool.or_false, Bool.false_and, Bool.true_and, Bool.and_true, Bool.and_false, Bool.not_true, Bool.not_false]
    all_goals exact Nat.le_refl _
  | true =>
    cases c2 : qo with
    | false =>
      simp -implicitDefEqProofs (disch := omega) only [ZA, Nat.reduceAdd, Nat.reduceEqDiff, ↓reduceIte, Nat.reduceLeDiff, reduceCtorEq, Nat.reduceBEq, Nat.reduceLT, actP, opP, pvOf, ofCells, callP, leaveP, resP, oneRes, frz, frz2, frz1, frzT, hn, hc, ho, hs, hi, hl, he, hk, hg1, hg2, hb1, hb2, bne, ce_agg, cv1, cv2, cp1, cp2, cf1, cf2, ca1, ca2, ct1, ct2, h42, h43, h82, h44, h83, c1, c2, Bool.false_or, Bool.true_or, Bool.or_true, Bool.or_false, Bool.false_and, Bool.true_and, Bool.and_true, Bool.and_false, Bool.not_true, Bool.not_false]
      all_goals exact Nat.le_refl _
    | true =>
      cases c3 : qs with
      | false =>
        simp -implicitDefEqProofs (disch := omega) only [ZA, Nat.reduceAdd, Nat.reduceEqDiff, ↓reduceIte, Nat.reduceLeDiff, reduceCtorEq, Nat.reduceBEq, Nat.reduceLT, actP, opP, pvOf, ofCells, callP, leaveP, resP, oneRes, frz, frz2, frz1, frzT, hn, hc, ho, hs, hi, hl, he, hk, hg1, hg2, hb1, hb2, bne, ce_agg, cv1, cv2, cp1, cp2, cf1, cf2, ca1, ca2, ct1, ct2, h42, h43, h82, h44, h83, c1, c2, c3, Bool.false_or, Bool.true_or, Bool.or_true, Bool.or_false, Bool.false_and, Bool.true_and, Bool.and_true, Bool.and_false, Bool.not_true, Bool.not_false]
        all_goals exact Nat.le_refl _
      | true =>
        cases c4 : qi with
        | false =>
          simp -implicitDefEqProofs (disch := omega) only [ZA, Nat.reduceAdd, Nat.reduceEqDiff, ↓reduceIte, Nat.reduceLeDiff, reduceCtorEq, Nat.reduceBEq, Nat.reduceLT, actP, opP, pvOf, ofCells, callP, leaveP, resP, oneRes, frz, frz2, frz1, frzT, hn, hc, ho, hs, hi, hl, he, hk, hg1, hg2, hb1, hb2, bne, ce_agg, cv1, cv2, cp1, cp2, cf1, cf2, ca1, ca2, ct1, ct2, h42, h43, h82, h44, h83, c1, c2, c3, c4, Bool.false_or, Bool.true_or, Bool.or_true, Bool.or_false, Bool.false_and, Bool.true_and, Bool.and_true, Bool.and_false, Bool.not_true, Bool.not_false]
          all_goals exact Nat.le_refl _
        | true =>
          cases c5 : ql with
          | false =>
            simp -implicitDefEqProofs (disch := omega) only [ZA, Nat.reduceAdd, Nat.reduceEqDiff, ↓reduceIte, Nat.reduceLeDiff, reduceCtorEq, Nat.reduceBEq, Nat.reduceLT, actP, opP, pvOf, ofCells, callP, leaveP, resP, oneRes, frz, frz2, frz1, frzT, hn, hc, ho, hs, hi, hl, he, hk, hg1, hg2, hb1, hb2, bne, ce_agg, cv1, cv2, cp1, cp2, cf1, cf2, ca1, ca2, ct1, ct2, h42, h43, h82, h44, h83, c1, c2, c3, c4, c5, Bool.false_or, Bool.true_or, Bool.or_true, Bool.or_false, Bool.false_and, Bool.true_and, Bool.and_true, Bool.and_false, Bool.not_true, Bool.not_false]
            all_goals exact Nat.le_refl _
          | true =>
            cases c6 : qc with
            | false =>
              simp -implicitDefEqProofs (disch := omega) only [ZA, Nat.reduceAdd, Nat.reduceEqDiff, ↓reduceIte, Nat.reduceLeDiff, reduceCtorEq, Nat.reduceBEq, Nat.reduceLT, actP, opP, pvOf, ofCells, callP, leaveP, resP, oneRes, frz, frz2, frz1, frzT, hn, hc, ho, hs, hi, hl, he, hk, hg1, hg2, hb1, hb2, bne, ce_agg, cv1, cv2, cp1, cp2, cf1, cf2, ca1, ca2, ct1, ct2, h42, h43, h82, h44, h83, c1, c2, c3, c4, c5, c6, Bool.false_or, Bool.true_or, Bool.or_true, Bool.or_false, Bool.false_and, Bool.true_and, Bool.and_true, Bool.and_false, Bool.not_true, Bool.not_false]
              all_goals exact Nat.le_refl _
            | true =>
              cases c7 : qg with
              | false =>
                simp -implicitDefEqProofs (disch := omega) only [ZA, Nat.reduceAdd, Nat.reduceEqDiff, ↓reduceIte, Nat.reduceLeDiff, reduceCtorEq, Nat.reduceBEq, Nat.reduceLT, actP, opP, pvOf, ofCells, callP, leaveP, resP, oneRes, frz, frz2, frz1, frzT, hn, hc, ho, hs, hi, hl, he, hk, hg1, hg2, hb1, hb2, bne, ce_agg, cv1, cv2, cp1, cp2, cf1, cf2, ca1, ca2, ct1, ct2, h42, h43, h82, h44, h83, c1, c2, c3, c4, c5, c6, c7, Bool.false_or, Bool.true_or, Bool.or_true, Bool.or_false, Bool.false_and, Bool.true_and, Bool.and_true, Bool.and_false, Bool.not_true, Bool.not_false]
                all_goals exact Nat.le_refl _
              | true =>
                cases c8 : qe with
                | false =>
                  simp -implicitDefEqProofs (disch := omega) only [ZA, Nat.reduceAdd, Nat.reduceEqDiff, ↓reduceIte, Nat.reduceLeDiff, reduceCtorEq, Nat.reduceBEq, Nat.reduceLT, actP, opP, pvOf, ofCells, callP, leaveP, resP, oneRes, frz, frz2, frz1, frzT, hn, hc, ho, hs, hi, hl, he, hk, hg1, hg2, hb1, hb2, bne, ce_agg, cv1, cv2, cp1, cp2, cf1, cf2, ca1, ca2, ct1, ct2, h42, h43, h82, h44, h83, c1, c2, c3, c4, c5, c6, c7, c8, Bool.false_or, Bool.true_or, Bool.or_true, Bool.or_false, Bool.false_and, Bool.true_and, Bool.and_true, Bool.and_false, Bool.not_true, Bool.not_false]
                  all_goals exact Nat.le_refl _
                | true =>
                  cases c9 : qk with
                  | false =>
                    simp -implicitDefEqProofs (disch := omega) only [ZA, Nat.reduceAdd, Nat.reduceEqDiff, ↓reduceIte, Nat.reduceLeDiff, reduceCtorEq, Nat.reduceBEq, Nat.reduceLT, actP, opP, pvOf, ofCells, callP, leaveP, resP, oneRes, frz, frz2, frz1, frzT, hn, hc, ho, hs, hi, hl, he, hk, hg1, hg2, hb1, hb2, bne, ce_agg, cv1, cv2, cp1, cp2, cf1, cf2, ca1, ca2, ct1, ct2, h42, h43, h82, h44, h83, c1, c2, c3, c4, c5, c6, c7, c8, c9, Bool.false_or, Bool.true_or, Bool.or_true, Bool.or_false, Bool.false_and, Bool.true_and, Bool.and_true, Bool.and_false, Bool.not_true, Bool.not_false]
                    all_goals exact Nat.le_refl _
                  | true =>
                    cases c10 : qv with
                    | false =>
                      simp -implicitDefEqProofs (disch := omega) only [ZA, Nat.reduceAdd, Nat.reduceEqDiff, ↓reduceIte, Nat.reduceLeDiff, reduceCtorEq, Nat.reduceBEq, Nat.reduceLT, actP, opP, pvOf, ofCells, callP, leaveP, resP, oneRes, frz, frz2, frz1, frzT, hn, hc, ho, hs, hi, hl, he, hk, hg1, hg2, hb1, hb2, bne, ce_agg, cv1, cv2, cp1, cp2, cf1, cf2, ca1, ca2, ct1, ct2, h42, h43, h82, h44, h83, c1, c2, c3, c4, c5, c6, c7, c8, c9, c10, Bool.false_or, Bool.true_or, Bool.or_true, Bool.or_false, Bool.false_and, Bool.true_and, Bool.and_true, Bool.and_false, Bool.not_true, Bool.not_false]
                      all_goals exact Nat.le_refl _
                    | true =>
                      cases c11 : qp with
                      | false =>
                        simp -implicitDefEqProofs (disch := omega) only [ZA, Nat.reduceAdd, Nat.reduceEqDiff, ↓reduceIte, Nat.reduceLeDiff, reduceCtorEq, Nat.reduceBEq, Nat.reduceLT, actP, opP, pvOf, ofCells, callP, leaveP, resP, oneRes, frz, frz2, frz1, frzT, hn, hc, ho, hs, hi, hl, he, hk, hg1, hg2, hb1, hb2, bne, ce_agg, cv1, cv2, cp1, cp2, cf1, cf2, ca1, ca2, ct1, ct2, h42, h43, h82, h44, h83, c1, c2, c3, c4, c5, c6, c7, c8, c9, c10, c11, Bool.false_or, Bool.true_or, Bool.or_true, Bool.or_false, Bool.false_and, Bool.true_and, Bool.and_true, Bool.and_false, Bool.not_true, Bool.not_false]
                        all_goals exact Nat.le_refl _
                      | true =>
                        cases c12 : qf with
                        | false =>
                          simp -implicitDefEqProofs (disch := omega) only [ZA, Nat.reduceAdd, Nat.reduceEqDiff, ↓reduceIte, Nat.reduceLeDiff, reduceCtorEq, Nat.reduceBEq, Nat.reduceLT, actP, opP, pvOf, ofCells, callP, leaveP, resP, oneRes, frz, frz2, frz1, frzT, hn, hc, ho, hs, hi, hl, he, hk, hg1, hg2, hb1, hb2, bne, ce_agg, cv1, cv2, cp1, cp2, cf1, cf2, ca1, ca2, ct1, ct2, h42, h43, h82, h44, h83, c1, c2, c3, c4, c5, c6, c7, c8, c9, c10, c11, c12, Bool.false_or, Bool.true_or, Bool.or_true, Bool.or_false, Bool.false_and, Bool.true_and, Bool.and_true, Bool.and_false, Bool.not_true, Bool.not_false]
                          all_goals exact Nat.le_refl _
                        | true =>
                          cases c13 : qa with
                          | false =>
                            simp -implicitDefEqProofs (disch := omega) only [ZA, Nat.reduceAdd, Nat.reduceEqDiff, ↓reduceIte, Nat.reduceLeDiff, reduceCtorEq, Nat.reduceBEq, Nat.reduceLT, actP, opP, pvOf, ofCells, callP, leaveP, resP, oneRes, frz, frz2, frz1, frzT, hn, hc, ho, hs, hi, hl, he, hk, hg1, hg2, hb1, hb2, bne, ce_agg, cv1, cv2, cp1, cp2, cf1, cf2, ca1, ca2, ct1, ct2, h42, h43, h82, h44, h83, c1, c2, c3, c4, c5, c6, c7, c8, c9, c10, c11, c12, c13, Bool.false_or, Bool.true_or, Bool.or_true, Bool.or_false, Bool.false_and, Bool.true_and, Bool.and_true, Bool.and_false, Bool.not_true, Bool.not_false]
                            all_goals exact Nat.le_refl _
                          | true =>
                            simp -implicitDefEqProofs (disch := omega) only [ZA, Nat.reduceAdd, Nat.reduceEqDiff, ↓reduceIte, Nat.reduceLeDiff, reduceCtorEq, Nat.reduceBEq, Nat.reduceLT, actP, opP, pvOf, ofCells, callP, leaveP, resP, oneRes, frz, frz2, frz1, frzT, hn, hc, ho, hs, hi, hl, he, hk, hg1, hg2, hb1, hb2, bne, ce_agg, cv1, cv2, cp1, cp2, cf1, cf2, ca1, ca2, ct1, ct2, h42, h43, h82, h44, h83, c1, c2, c3, c4, c5, c6, c7, c8, c9, c10, c11, c12, c13, Bool.false_or, Bool.true_or, Bool.or_true, Bool.or_false, Bool.false_and, Bool.true_and, Bool.and_true, Bool.and_false, Bool.not_true, Bool.not_false]
                            all_goals exact Nat.le_refl _
end Go.Proofs.YtflfflfodghgpaaGreatDoor


set_option linter.unusedSimpArgs false
namespace Go.PE
open Go Go.EvL
section
variable {P : Program} {Γ : Nat → Option PFn} {ext : PCallF}
/-- a call that answers with some truth value -/
theorem er_callE {g r : Nat} {fn : PFn} {args : List PV} {s : PS} (hg : Γ g = some fn) (hl : args.length ≤ fn.nt) (hr : fn.res = [.tmp r]) (hk : fn.keep = false) (h : Er (fun f' s' => s.n ≤ s'.w ∧ ∃ b : Bool, f' r = .sc (.bool b)) (pcode P Γ ext fn.body (initP args 0) ⟨s.h, s.n, s.n⟩)) : ∃ b : Bool, pcall P Γ ext g args s = some (.sc (.bool b), s) := by
  obtain ⟨f', s', e, hw, b, hb⟩ := h
  exact ⟨b, er_call1w hg hl hr hk ⟨f', s', e, hw, hb⟩⟩
end
end Go.PE
namespace Go.Proofs.YtflfflfodghgpaaGreatDoor
open Go Go.EvL Go.PE Go.Mir
variable {ext : PCallF}
def shortB (t : List UInt8) : Bool := decide (t.length ≤ 60) || decide (4096 < t.length)
theorem r_short {b : ByteArray} (s : PS) : pcall Tryz.prog Γ ext 72 [.sc (.string b)] s = some (.sc (.bool (shortB b.data.toList)), s) := by
  refine er_call1 (fn := p72) (r := 2) (by rfl) (by simp [p72]) (by rfl) (by rfl) ?_
  unfold p72 shortB
  cases c1 : decide (b.data.toList.length ≤ 60) with
  | true => simp -implicitDefEqProofs (disch := omega) only [ZA, Nat.reduceAdd, Nat.reduceEqDiff, ↓reduceIte, Nat.reduceLeDiff, reduceCtorEq, Nat.reduceBEq, Nat.reduceLT, actP, opP, pvOf, ofCells, callP, leaveP, resP, oneRes, frz, frz2, frz1, frzT, c1, Bool.true_or]
  | false => simp -implicitDefEqProofs (disch := omega) only [ZA, Nat.reduceAdd, Nat.reduceEqDiff, ↓reduceIte, Nat.reduceLeDiff, reduceCtorEq, Nat.reduceBEq, Nat.reduceLT, actP, opP, pvOf, ofCells, callP, leaveP, resP, oneRes, frz, frz2, frz1, frzT, c1, Bool.false_or]
theorem sv_loop {xs : List VarD} (hx : xs.length < 1000000000000) {n0 : Nat} {s : PS} (hn : n0 ≤ s.w) : ∀ (k i : Nat) (f : PFr), i + k = xs.length → f 0 = .lit 99 xs.length (xs.flatMap VarD.cells) → f 3 = .sc (.int .i64 (i : Int)) →
    Er (fun f' s' => n0 ≤ s'.w ∧ ∃ b : Bool, f' 2 = .sc (.bool b)) (LP Tryz.prog Γ ext 0 b89_0 r89_0 f s) := by
  intro k
  induction k with
  | zero =>
    intro i f hk h0 h3
    have e1 : decide (i < xs.length) = false := decide_eq_false (by omega)
    refine LP_case fun L hL => ?_
    simp -implicitDefEqProofs (disch := omega) only [ZA, Nat.reduceAdd, Nat.reduceEqDiff, ↓reduceIte, Nat.reduceLeDiff, reduceCtorEq, Nat.reduceBEq, Nat.reduceLT, actP, opP, pvOf, ofCells, callP, leaveP, resP, oneRes, frz, frz2, frz1, frzT, b89_0, r89_0, h0, h3, e1, lenP]
    exact ⟨hn, _, rfl⟩
  | succ k ih =>
    intro i f hk h0 h3
    have hl : i < xs.length := by omega
    have e1 : decide (i < xs.length) = true := decide_eq_true hl
    have hj : xs[i]? = some xs[i] := List.getElem?_eq_getElem hl
    have hfl := flat_len (c := VarD.cells) (es := 5) (fun _ => rfl) xs
    obtain ⟨rr, hk3⟩ := flat_at (c := VarD.cells) (es := 5) (fun _ => rfl) hj
    have hgo := ih (i + 1)
    generalize xs[i] = x at hk3
    obtain ⟨n, v, a1, a2, a3⟩ := x
    simp only [VarD.cells, List.cons_append, List.nil_append] at hk3
    refine LP_case fun L hL => ?_
    cases c2 : decide (i ≤ 130) with
    | false =>
      simp -implicitDefEqProofs (disch := omega) only [ZA, Nat.reduceAdd, Nat.reduceEqDiff, ↓reduceIte, Nat.reduceLeDiff, reduceCtorEq, Nat.reduceBEq, Nat.reduceLT, actP, opP, pvOf, ofCells, callP, leaveP, resP, oneRes, frz, frz2, frz1, frzT, b89_0, r89_0, h0, h3, e1, c2, hl, lenP]
      exact ⟨hn, _, rfl⟩
    | true =>
    cases c3 : decide (60 < n.data.toList.length) with
    | true =>
      simp -implicitDefEqProofs (disch := omega) only [ZA, Nat.reduceAdd, Nat.reduceEqDiff, ↓reduceIte, Nat.reduceLeDiff, reduceCtorEq, Nat.reduceBEq, Nat.reduceLT, actP, opP, pvOf, ofCells, callP, leaveP, resP, oneRes, frz, frz2, frz1, frzT, b89_0, r89_0, h0, h3, e1, c2, c3, hl, lenP, hfl, hk3, ld_litp]
      exact ⟨hn, _, rfl⟩
    | false =>
    cases c4 : decide (60 < v.data.toList.length) with
    | false =>
      simp -implicitDefEqProofs (disch := omega) only [ZA, Nat.reduceAdd, Nat.reduceEqDiff, ↓reduceIte, Nat.reduceLeDiff, reduceCtorEq, Nat.reduceBEq, Nat.reduceLT, actP, opP, pvOf, ofCells, callP, leaveP, resP, oneRes, frz, frz2, frz1, frzT, b89_0, h0, h3, e1, c2, c3, c4, hl, lenP, hfl, hk3, ld_litp]
      subst hL
      exact hgo _ (by omega) (by simp -implicitDefEqProofs (disch := omega) only [ZA, Nat.reduceAdd, Nat.reduceEqDiff, ↓reduceIte, Nat.reduceLeDiff, reduceCtorEq, Nat.reduceBEq, Nat.reduceLT, actP, opP, pvOf, ofCells, callP, leaveP, resP, oneRes, frz, frz2, frz1, frzT, h0]) (by simp -implicitDefEqProofs (disch := omega) only [ZA, Nat.reduceAdd, Nat.reduceEqDiff, ↓reduceIte, Nat.reduceLeDiff, reduceCtorEq, Nat.reduceBEq, Nat.reduceLT, actP, opP, pvOf, ofCells, callP, leaveP, resP, oneRes, frz, frz2, frz1, frzT])
    | true =>
    cases c5 : decide (v.data.toList.length ≤ 4096) with
    | true =>
      simp -implicitDefEqProofs (disch := omega) only [ZA, Nat.reduceAdd, Nat.reduceEqDiff, ↓reduceIte, Nat.reduceLeDiff, reduceCtorEq, Nat.reduceBEq, Nat.reduceLT, actP, opP, pvOf, ofCells, callP, leaveP, resP, oneRes, frz, frz2, frz1, frzT, b89_0, r89_0, h0, h3, e1, c2, c3, c4, c5, hl, lenP, hfl, hk3, ld_litp]
      exact ⟨hn, _, rfl⟩
    | false =>
      simp -implicitDefEqProofs (disch := omega) only [ZA, Nat.reduceAdd, Nat.reduceEqDiff, ↓reduceIte, Nat.reduceLeDiff, reduceCtorEq, Nat.reduceBEq, Nat.reduceLT, actP, opP, pvOf, ofCells, callP, leaveP, resP, oneRes, frz, frz2, frz1, frzT, b89_0, h0, h3, e1, c2, c3, c4, c5, hl, lenP, hfl, hk3, ld_litp]
      subst hL
      exact hgo _ (by omega) (by simp -implicitDefEqProofs (disch := omega) only [ZA, Nat.reduceAdd, Nat.reduceEqDiff, ↓reduceIte, Nat.reduceLeDiff, reduceCtorEq, Nat.reduceBEq, Nat.reduceLT, actP, opP, pvOf, ofCells, callP, leaveP, resP, oneRes, frz, frz2, frz1, frzT, h0]) (by simp -implicitDefEqProofs (disch := omega) only [ZA, Nat.reduceAdd, Nat.reduceEqDiff, ↓reduceIte, Nat.reduceLeDiff, reduceCtorEq, Nat.reduceBEq, Nat.reduceLT, actP, opP, pvOf, ofCells, callP, leaveP, resP, oneRes, frz, frz2, frz1, frzT])
theorem r_smallV {y : Option (List VarD)} (hx : (y.getD []).length < 1000000000000) (s : PS) : ∃ b : Bool, pcall Tryz.prog Γ ext 89 [slP 99 VarD.cells y] s = some (.sc (.bool b), s) := by
  refine er_callE (fn := p89) (r := 2) (by rfl) (by simp [p89]) (by rfl) (by rfl) ?_
  unfold p89
  cases y with
  | none =>
    have z0 : decide ((0 : Int) < 0) = false := rfl
    simp -implicitDefEqProofs (disch := omega) only [ZA, Nat.reduceAdd, Nat.reduceEqDiff, ↓reduceIte, Nat.reduceLeDiff, reduceCtorEq, Nat.reduceBEq, Nat.reduceLT, actP, opP, pvOf, ofCells, callP, leaveP, resP, oneRes, frz, frz2, frz1, frzT, slP]
    refine LP_case fun L hL => ?_
    simp -implicitDefEqProofs (disch := omega) only [ZA, Nat.reduceAdd, Nat.reduceEqDiff, ↓reduceIte, Nat.reduceLeDiff, reduceCtorEq, Nat.reduceBEq, Nat.reduceLT, actP, opP, pvOf, ofCells, callP, leaveP, resP, oneRes, frz, frz2, frz1, frzT, b89_0, r89_0, lenP, z0]
    all_goals first | exact ⟨Nat.le_refl _, _, rfl⟩ | exact ⟨_, rfl⟩
  | some xs =>
    simp -implicitDefEqProofs (disch := omega) only [ZA, Nat.reduceAdd, Nat.reduceEqDiff, ↓reduceIte, Nat.reduceLeDiff, reduceCtorEq, Nat.reduceBEq, Nat.reduceLT, actP, opP, pvOf, ofCells, callP, leaveP, resP, oneRes, frz, frz2, frz1, frzT, slP]
    exact sv_loop (xs := xs) hx (n0 := s.n) (by simp -implicitDefEqProofs (disch := omega) only [ZA, Nat.reduceAdd, Nat.reduceEqDiff, ↓reduceIte, Nat.reduceLeDiff, reduceCtorEq, Nat.reduceBEq, Nat.reduceLT, actP, opP, pvOf, ofCells, callP, leaveP, resP, oneRes, frz, frz2, frz1, frzT] <;> exact Nat.le_refl _) xs.length 0 _ (Nat.zero_add _) (by simp -implicitDefEqProofs (disch := omega) only [ZA, Nat.reduceAdd, Nat.reduceEqDiff, ↓reduceIte, Nat.reduceLeDiff, reduceCtorEq, Nat.reduceBEq, Nat.reduceLT, actP, opP, pvOf, ofCells, callP, leaveP, resP, oneRes, frz, frz2, frz1, frzT, slP]) (by simp -implicitDefEqProofs (disch := omega) only [ZA, Nat.reduceAdd, Nat.reduceEqDiff, ↓reduceIte, Nat.reduceLeDiff, reduceCtorEq, Nat.reduceBEq, Nat.reduceLT, actP, opP, pvOf, ofCells, callP, leaveP, resP, oneRes, frz, frz2, frz1, frzT] <;> rfl)
theorem br_loop {xs : List ByteArray} (hx : xs.length < 1000000000000) {n0 : Nat} {s : PS} (hn : n0 ≤ s.w) : ∀ (k i : Nat) (f : PFr), i + k = xs.length → f 0 = .lit 9 xs.length (xs.flatMap strC) → f 3 = .sc (.int .i64 (i : Int)) →
    Er (fun f' s' => n0 ≤ s'.w ∧ ∃ b : Bool, f' 2 = .sc (.bool b)) (LP Tryz.prog Γ ext 0 b30_0 r30_0 f s) := by
  intro k
  induction k with
  | zero =>
    intro i f hk h0 h3
    have e1 : decide (i < xs.length) = false := decide_eq_false (by omega)
    refine LP_case fun L hL => ?_
    simp -implicitDefEqProofs (disch := omega) only [ZA, Nat.reduceAdd, Nat.reduceEqDiff, ↓reduceIte, Nat.reduceLeDiff, reduceCtorEq, Nat.reduceBEq, Nat.reduceLT, actP, opP, pvOf, ofCells, callP, leaveP, resP, oneRes, frz, frz2, frz1, frzT, b30_0, r30_0, h0, h3, e1, lenP]
    exact ⟨hn, _, rfl⟩
  | succ k ih =>
    intro i f hk h0 h3
    have hl : i < xs.length := by omega
    have e1 : decide (i < xs.length) = true := decide_eq_true hl
    have hj : xs[i]? = some xs[i] := List.getElem?_eq_getElem hl
    have hfl := flat_len (c := strC) (es := 1) (fun _ => rfl) xs
    obtain ⟨rr, hk3⟩ := flat_at (c := strC) (es := 1) (fun _ => rfl) hj
    have hgo := ih (i + 1)
    generalize xs[i] = x at hk3
    simp only [strC, List.cons_append, List.nil_append, Nat.mul_one] at hk3 hfl
    refine LP_case fun L hL => ?_
    cases c2 : decide (i ≤ 514) with
    | false =>
      simp -implicitDefEqProofs (disch := omega) only [ZA, Nat.reduceAdd, Nat.reduceEqDiff, ↓reduceIte, Nat.reduceLeDiff, reduceCtorEq, Nat.reduceBEq, Nat.reduceLT, actP, opP, pvOf, ofCells, callP, leaveP, resP, oneRes, frz, frz2, frz1, frzT, b30_0, r30_0, h0, h3, e1, c2, hl, lenP]
      exact ⟨hn, _, rfl⟩
    | true =>
    cases c3 : shortB x.data.toList with
    | false =>
      simp -implicitDefEqProofs (disch := omega) only [ZA, Nat.reduceAdd, Nat.reduceEqDiff, ↓reduceIte, Nat.reduceLeDiff, reduceCtorEq, Nat.reduceBEq, Nat.reduceLT, actP, opP, pvOf, ofCells, callP, leaveP, resP, oneRes, frz, frz2, frz1, frzT, b30_0, r30_0, h0, h3, e1, c2, c3, hl, lenP, hfl, hk3, Nat.mul_one, ld_litp, r_short]
      exact ⟨hn, _, rfl⟩
    | true =>
      simp -implicitDefEqProofs (disch := omega) only [ZA, Nat.reduceAdd, Nat.reduceEqDiff, ↓reduceIte, Nat.reduceLeDiff, reduceCtorEq, Nat.reduceBEq, Nat.reduceLT, actP, opP, pvOf, ofCells, callP, leaveP, resP, oneRes, frz, frz2, frz1, frzT, b30_0, h0, h3, e1, c2, c3, hl, lenP, hfl, hk3, Nat.mul_one, ld_litp, r_short]
      subst hL
      exact hgo _ (by omega) (by simp -implicitDefEqProofs (disch := omega) only [ZA, Nat.reduceAdd, Nat.reduceEqDiff, ↓reduceIte, Nat.reduceLeDiff, reduceCtorEq, Nat.reduceBEq, Nat.reduceLT, actP, opP, pvOf, ofCells, callP, leaveP, resP, oneRes, frz, frz2, frz1, frzT, h0]) (by simp -implicitDefEqProofs (disch := omega) only [ZA, Nat.reduceAdd, Nat.reduceEqDiff, ↓reduceIte, Nat.reduceLeDiff, reduceCtorEq, Nat.reduceBEq, Nat.reduceLT, actP, opP, pvOf, ofCells, callP, leaveP, resP, oneRes, frz, frz2, frz1, frzT])
theorem r_brief {y : Option (List ByteArray)} (hx : (y.getD []).length < 1000000000000) (s : PS) : ∃ b : Bool, pcall Tryz.prog Γ ext 30 [slP 9 strC y] s = some (.sc (.bool b), s) := by
  refine er_callE (fn := p30) (r := 2) (by rfl) (by simp [p30]) (by rfl) (by rfl) ?_
  unfold p30
  cases y with
  | none =>
    have z0 : decide ((0 : Int) < 0) = false := rfl
    simp -implicitDefEqProofs (disch := omega) only [ZA, Nat.reduceAdd, Nat.reduceEqDiff, ↓reduceIte, Nat.reduceLeDiff, reduceCtorEq, Nat.reduceBEq, Nat.reduceLT, actP, opP, pvOf, ofCells, callP, leaveP, resP, oneRes, frz, frz2, frz1, frzT, slP]
    refine LP_case fun L hL => ?_
    simp -implicitDefEqProofs (disch := omega) only [ZA, Nat.reduceAdd, Nat.reduceEqDiff, ↓reduceIte, Nat.reduceLeDiff, reduceCtorEq, Nat.reduceBEq, Nat.reduceLT, actP, opP, pvOf, ofCells, callP, leaveP, resP, oneRes, frz, frz2, frz1, frzT, b30_0, r30_0, lenP, z0]
    all_goals first | exact ⟨Nat.le_refl _, _, rfl⟩ | exact ⟨_, rfl⟩
  | some xs =>
    simp -implicitDefEqProofs (disch := omega) only [ZA, Nat.reduceAdd, Nat.reduceEqDiff, ↓reduceIte, Nat.reduceLeDiff, reduceCtorEq, Nat.reduceBEq, Nat.reduceLT, actP, opP, pvOf, ofCells, callP, leaveP, resP, oneRes, frz, frz2, frz1, frzT, slP]
    exact br_loop (xs := xs) hx (n0 := s.n) (by simp -implicitDefEqProofs (disch := omega) only [ZA, Nat.reduceAdd, Nat.reduceEqDiff, ↓reduceIte, Nat.reduceLeDiff, reduceCtorEq, Nat.reduceBEq, Nat.reduceLT, actP, opP, pvOf, ofCells, callP, leaveP, resP, oneRes, frz, frz2, frz1, frzT] <;> exact Nat.le_refl _) xs.length 0 _ (Nat.zero_add _) (by simp -implicitDefEqProofs (disch := omega) only [ZA, Nat.reduceAdd, Nat.reduceEqDiff, ↓reduceIte, Nat.reduceLeDiff, reduceCtorEq, Nat.reduceBEq, Nat.reduceLT, actP, opP, pvOf, ofCells, callP, leaveP, resP, oneRes, frz, frz2, frz1, frzT, slP]) (by simp -implicitDefEqProofs (disch := omega) only [ZA, Nat.reduceAdd, Nat.reduceEqDiff, ↓reduceIte, Nat.reduceLeDiff, reduceCtorEq, Nat.reduceBEq, Nat.reduceLT, actP, opP, pvOf, ofCells, callP, leaveP, resP, oneRes, frz, frz2, frz1, frzT] <;> rfl)
end Go.Proofs.YtflfflfodghgpaaGreatDoor


set_option linter.unusedSimpArgs false
namespace Go.Proofs.YtflfflfodghgpaaGreatDoor
open Go Go.EvL Go.PE Go.Mir
variable {ext : PCallF}
theorem cells_sl {α : Type} {e : Nat} {c : α → List PV} (y : Option (List α)) : cellsP (slP e c y) = [slP e c y] := by cases y <;> rfl
end Go.Proofs.YtflfflfodghgpaaGreatDoor


set_option linter.unusedSimpArgs false
namespace Go.Proofs.YtflfflfodghgpaaGreatDoor
open Go Go.EvL Go.PE Go.Mir
variable {ext : PCallF}
theorem al_loop {x : EnvD} {la : List AliasD} (hx : la.length < 1000000000000) {b n0 : Nat} {s : PS} (hn : n0 ≤ s.w) (hb : s.h b = ⟨x.cells, 0, 56⟩) (ha : x.aliases = slP 123 AliasD.cells (some la)) {z : Int} : ∀ (k i : Nat) (f : PFr), i + k = la.length → f 1 = .ptr b 0 15 → f 3 = .sc (.int .i64 z) → f 5 = .sc (.int .i64 (i : Int)) →
    Er (fun f' s' => n0 ≤ s'.w ∧ ∃ b : Bool, f' 2 = .sc (.bool b)) (LP Tryz.prog Γ ext 2 b37_1 r37_0 f s) := by
  obtain ⟨nm, vs, ps, fs, als, ts, o, st, pi, la', cw, gi, go, le, tk⟩ := x
  simp only at ha
  simp only [EnvD.cells] at hb
  subst ha
  intro k
  induction k with
  | zero =>
    intro i f hk h1 h3 h5
    have e1 : decide (i < la.length) = false := decide_eq_false (by omega)
    refine LP_case fun L hL => ?_
    simp -implicitDefEqProofs (disch := omega) only [ZA, Nat.reduceAdd, Nat.reduceEqDiff, ↓reduceIte, Nat.reduceLeDiff, reduceCtorEq, Nat.reduceBEq, Nat.reduceLT, actP, opP, pvOf, ofCells, callP, leaveP, resP, oneRes, frz, frz2, frz1, frzT, b37_1, r37_0, h1, h3, h5, hb, slP, e1, lenP]
    exact ⟨hn, _, rfl⟩
  | succ k ih =>
    intro i f hk h1 h3 h5
    have hl : i < la.length := by omega
    have e1 : decide (i < la.length) = true := decide_eq_true hl
    have hj : la[i]? = some la[i] := List.getElem?_eq_getElem hl
    have hfl := flat_len (c := AliasD.cells) (es := 2) (fun _ => rfl) la
    obtain ⟨rr, hk3⟩ := flat_at (c := AliasD.cells) (es := 2) (fun _ => rfl) hj
    have hgo := ih (i + 1)
    generalize la[i] = y at hk3
    obtain ⟨n, v⟩ := y
    simp only [AliasD.cells, List.cons_append, List.nil_append] at hk3
    refine LP_case fun L hL => ?_
    cases c3 : shortB v.data.toList with
    | false =>
      simp -implicitDefEqProofs (disch := omega) only [ZA, Nat.reduceAdd, Nat.reduceEqDiff, ↓reduceIte, Nat.reduceLeDiff, reduceCtorEq, Nat.reduceBEq, Nat.reduceLT, actP, opP, pvOf, ofCells, callP, leaveP, resP, oneRes, frz, frz2, frz1, frzT, b37_1, r37_0, h1, h3, h5, hb, slP, e1, c3, hl, lenP, hfl, hk3, ld_litp, r_short]
      exact ⟨hn, _, rfl⟩
    | true =>
      simp -implicitDefEqProofs (disch := omega) only [ZA, Nat.reduceAdd, Nat.reduceEqDiff, ↓reduceIte, Nat.reduceLeDiff, reduceCtorEq, Nat.reduceBEq, Nat.reduceLT, actP, opP, pvOf, ofCells, callP, leaveP, resP, oneRes, frz, frz2, frz1, frzT, b37_1, h1, h3, h5, hb, slP, e1, c3, hl, lenP, hfl, hk3, ld_litp, r_short]
      subst hL
      exact hgo _ (by omega) (by simp -implicitDefEqProofs (disch := omega) only [ZA, Nat.reduceAdd, Nat.reduceEqDiff, ↓reduceIte, Nat.reduceLeDiff, reduceCtorEq, Nat.reduceBEq, Nat.reduceLT, actP, opP, pvOf, ofCells, callP, leaveP, resP, oneRes, frz, frz2, frz1, frzT, h1]) (by simp -implicitDefEqProofs (disch := omega) only [ZA, Nat.reduceAdd, Nat.reduceEqDiff, ↓reduceIte, Nat.reduceLeDiff, reduceCtorEq, Nat.reduceBEq, Nat.reduceLT, actP, opP, pvOf, ofCells, callP, leaveP, resP, oneRes, frz, frz2, frz1, frzT, h3]) (by simp -implicitDefEqProofs (disch := omega) only [ZA, Nat.reduceAdd, Nat.reduceEqDiff, ↓reduceIte, Nat.reduceLeDiff, reduceCtorEq, Nat.reduceBEq, Nat.reduceLT, actP, opP, pvOf, ofCells, callP, leaveP, resP, oneRes, frz, frz2, frz1, frzT])
theorem al_rest {x : EnvD} {la : Option (List AliasD)} (hx : (la.getD []).length < 1000000000000) {b n0 : Nat} {s : PS} (hn : n0 ≤ s.w) (hb : s.h b = ⟨x.cells, 0, 56⟩) (ha : x.aliases = slP 123 AliasD.cells la) {z : Int} (f : PFr) (h1 : f 1 = .ptr b 0 15) (h3 : f 3 = .sc (.int .i64 z)) :
    Er (fun f' s' => n0 ≤ s'.w ∧ ∃ b : Bool, f' 2 = .sc (.bool b)) (pcode Tryz.prog Γ ext r37_1 f s) := by
  cases la with
  | some l =>
    have key := fun f a b c => al_loop (ext := ext) hx hn hb ha (z := z) l.length 0 f (Nat.zero_add _) a b c
    unfold r37_1
    simp -implicitDefEqProofs (disch := omega) only [ZA, Nat.reduceAdd, Nat.reduceEqDiff, ↓reduceIte, Nat.reduceLeDiff, reduceCtorEq, Nat.reduceBEq, Nat.reduceLT, actP, opP, pvOf, ofCells, callP, leaveP, resP, oneRes, frz, frz2, frz1, frzT]
    exact key _ (by simp -implicitDefEqProofs (disch := omega) only [ZA, Nat.reduceAdd, Nat.reduceEqDiff, ↓reduceIte, Nat.reduceLeDiff, reduceCtorEq, Nat.reduceBEq, Nat.reduceLT, actP, opP, pvOf, ofCells, callP, leaveP, resP, oneRes, frz, frz2, frz1, frzT, h1]) (by simp -implicitDefEqProofs (disch := omega) only [ZA, Nat.reduceAdd, Nat.reduceEqDiff, ↓reduceIte, Nat.reduceLeDiff, reduceCtorEq, Nat.reduceBEq, Nat.reduceLT, actP, opP, pvOf, ofCells, callP, leaveP, resP, oneRes, frz, frz2, frz1, frzT, h3]) (by simp -implicitDefEqProofs (disch := omega) only [ZA, Nat.reduceAdd, Nat.reduceEqDiff, ↓reduceIte, Nat.reduceLeDiff, reduceCtorEq, Nat.reduceBEq, Nat.reduceLT, actP, opP, pvOf, ofCells, callP, leaveP, resP, oneRes, frz, frz2, frz1, frzT] <;> rfl)
  | none =>
    have z0 : decide ((0 : Int) < 0) = false := rfl
    obtain ⟨nm, vs, ps, fs, als, ts, o, st, pi, la', cw, gi, go, le, tk⟩ := x
    simp only [slP] at ha
    simp only [EnvD.cells] at hb
    subst ha
    unfold r37_1
    simp -implicitDefEqProofs (disch := omega) only [ZA, Nat.reduceAdd, Nat.reduceEqDiff, ↓reduceIte, Nat.reduceLeDiff, reduceCtorEq, Nat.reduceBEq, Nat.reduceLT, actP, opP, pvOf, ofCells, callP, leaveP, resP, oneRes, frz, frz2, frz1, frzT, h1]
    refine LP_case fun L hL => ?_
    simp -implicitDefEqProofs (disch := omega) only [ZA, Nat.reduceAdd, Nat.reduceEqDiff, ↓reduceIte, Nat.reduceLeDiff, reduceCtorEq, Nat.reduceBEq, Nat.reduceLT, actP, opP, pvOf, ofCells, callP, leaveP, resP, oneRes, frz, frz2, frz1, frzT, b37_1, r37_0, h1, h3, hb, lenP, z0]
    exact ⟨hn, _, rfl⟩
theorem fn_loop {x : EnvD} {lf : List FuncD} (hx : lf.length < 1000000000000) {b n0 : Nat} {s : PS} (hn : n0 ≤ s.w) (hb : s.h b = ⟨x.cells, 0, 56⟩) (hf : x.funcs = slP 121 FuncD.cells (some lf)) (hw : ∀ y ∈ lf, ∃ z : Int, pcall Tryz.prog Γ ext 15 [.agg y.body.cells] s = some (.sc (.int .i64 z), s))
    (hR : ∀ f z, f 1 = .ptr b 0 15 → f 3 = .sc (.int .i64 z) → Er (fun f' s' => n0 ≤ s'.w ∧ ∃ b : Bool, f' 2 = .sc (.bool b)) (pcode Tryz.prog Γ ext r37_1 f s)) : ∀ (k i : Nat) (z : Int) (f : PFr), i + k = lf.length → f 1 = .ptr b 0 15 → f 3 = .sc (.int .i64 z) → f 4 = .sc (.int .i64 (i : Int)) →
    Er (fun f' s' => n0 ≤ s'.w ∧ ∃ b : Bool, f' 2 = .sc (.bool b)) (LP Tryz.prog Γ ext 0 b37_0 r37_1 f s) := by
  obtain ⟨nm, vs, ps, fs, als, ts, o, st, pi, la', cw, gi, go, le, tk⟩ := x
  simp only at hf
  simp only [EnvD.cells] at hb
  subst hf
  intro k
  induction k with
  | zero =>
    intro i z f hk h1 h3 h4
    have e1 : decide (i < lf.length) = false := decide_eq_false (by omega)
    have hgo := hR
    refine LP_case fun L hL => ?_
    simp -implicitDefEqProofs (disch := omega) only [ZA, Nat.reduceAdd, Nat.reduceEqDiff, ↓reduceIte, Nat.reduceLeDiff, reduceCtorEq, Nat.reduceBEq, Nat.reduceLT, actP, opP, pvOf, ofCells, callP, leaveP, resP, oneRes, frz, frz2, frz1, frzT, b37_0, h1, h3, h4, hb, slP, e1, lenP]
    exact hgo _ z (by simp -implicitDefEqProofs (disch := omega) only [ZA, Nat.reduceAdd, Nat.reduceEqDiff, ↓reduceIte, Nat.reduceLeDiff, reduceCtorEq, Nat.reduceBEq, Nat.reduceLT, actP, opP, pvOf, ofCells, callP, leaveP, resP, oneRes, frz, frz2, frz1, frzT, h1]) (by simp -implicitDefEqProofs (disch := omega) only [ZA, Nat.reduceAdd, Nat.reduceEqDiff, ↓reduceIte, Nat.reduceLeDiff, reduceCtorEq, Nat.reduceBEq, Nat.reduceLT, actP, opP, pvOf, ofCells, callP, leaveP, resP, oneRes, frz, frz2, frz1, frzT, h3])
  | succ k ih =>
    intro i z f hk h1 h3 h4
    have hl : i < lf.length := by omega
    have e1 : decide (i < lf.length) = true := decide_eq_true hl
    have hj : lf[i]? = some lf[i] := List.getElem?_eq_getElem hl
    have hfl := flat_len FuncD.len lf
    obtain ⟨rr, hk3⟩ := flat_at FuncD.len hj
    obtain ⟨z', hz⟩ := hw _ (List.getElem_mem hl)
    have hgo := ih (i + 1)
    have hgo2 := hR
    generalize lf[i] = y at hk3 hz
    obtain ⟨n, ⟨k1, p, nm', al, aa, ws, rs, v, is⟩⟩ := y
    simp only [FuncD.cells, NodeD.cells, List.cons_append, List.nil_append] at hk3 hz
    refine LP_case fun L hL => ?_
    cases c2 : decide (z ≤ 2000) with
    | false =>
      simp -implicitDefEqProofs (disch := omega) only [ZA, Nat.reduceAdd, Nat.reduceEqDiff, ↓reduceIte, Nat.reduceLeDiff, reduceCtorEq, Nat.reduceBEq, Nat.reduceLT, actP, opP, pvOf, ofCells, callP, leaveP, resP, oneRes, frz, frz2, frz1, frzT, b37_0, h1, h3, h4, hb, slP, e1, c2, lenP]
      exact hgo2 _ z (by simp -implicitDefEqProofs (disch := omega) only [ZA, Nat.reduceAdd, Nat.reduceEqDiff, ↓reduceIte, Nat.reduceLeDiff, reduceCtorEq, Nat.reduceBEq, Nat.reduceLT, actP, opP, pvOf, ofCells, callP, leaveP, resP, oneRes, frz, frz2, frz1, frzT, h1]) (by simp -implicitDefEqProofs (disch := omega) only [ZA, Nat.reduceAdd, Nat.reduceEqDiff, ↓reduceIte, Nat.reduceLeDiff, reduceCtorEq, Nat.reduceBEq, Nat.reduceLT, actP, opP, pvOf, ofCells, callP, leaveP, resP, oneRes, frz, frz2, frz1, frzT, h3])
    | true =>
      simp -implicitDefEqProofs (disch := omega) only [ZA, Nat.reduceAdd, Nat.reduceEqDiff, ↓reduceIte, Nat.reduceLeDiff, reduceCtorEq, Nat.reduceBEq, Nat.reduceLT, actP, opP, pvOf, ofCells, callP, leaveP, resP, oneRes, frz, frz2, frz1, frzT, b37_0, h1, h3, h4, hb, slP, e1, c2, hl, lenP, hfl, hk3, ld_litp, hz]
      subst hL
      exact hgo _ _ (by omega) (by simp -implicitDefEqProofs (disch := omega) only [ZA, Nat.reduceAdd, Nat.reduceEqDiff, ↓reduceIte, Nat.reduceLeDiff, reduceCtorEq, Nat.reduceBEq, Nat.reduceLT, actP, opP, pvOf, ofCells, callP, leaveP, resP, oneRes, frz, frz2, frz1, frzT, h1]) (by simp -implicitDefEqProofs (disch := omega) only [ZA, Nat.reduceAdd, Nat.reduceEqDiff, ↓reduceIte, Nat.reduceLeDiff, reduceCtorEq, Nat.reduceBEq, Nat.reduceLT, actP, opP, pvOf, ofCells, callP, leaveP, resP, oneRes, frz, frz2, frz1, frzT] <;> rfl) (by simp -implicitDefEqProofs (disch := omega) only [ZA, Nat.reduceAdd, Nat.reduceEqDiff, ↓reduceIte, Nat.reduceLeDiff, reduceCtorEq, Nat.reduceBEq, Nat.reduceLT, actP, opP, pvOf, ofCells, callP, leaveP, resP, oneRes, frz, frz2, frz1, frzT])
/-- what is known of an environment that came in -/
structure EnvAt (D d : Nat) (x : EnvD) (lv : Option (List VarD)) (lp : Option (List ByteArray)) (lf : Option (List FuncD)) (la : Option (List AliasD)) (lt : Option (List TrapD)) : Prop where
  v : x.vars = slP 99 VarD.cells lv
  p : x.params = slP 9 strC lp
  f : x.funcs = slP 121 FuncD.cells lf
  a : x.aliases = slP 123 AliasD.cells la
  t : x.traps = slP 101 TrapD.cells lt
  nv : (lv.getD []).length ≤ 16777216
  np : (lp.getD []).length ≤ 16777216
  nf : (lf.getD []).length ≤ 16777216
  na : (la.getD []).length ≤ 16777216
  nt : (lt.getD []).length ≤ 16777216
  node : ∀ y ∈ lf.getD [], NodeAt D d y.body ∧ bulks y.body.cells ≤ 16777216
  name : x.name.data.toList.length ≤ 16777216
  cwd : x.cwd.data.toList.length ≤ 16777216
theorem r_small {D d : Nat} {x : EnvD} {lv : Option (List VarD)} {lp : Option (List ByteArray)} {lf : Option (List FuncD)} {la : Option (List AliasD)} {lt : Option (List TrapD)} (h : EnvAt D d x lv lp lf la lt) (s : PS) : ∃ b : Bool, pcall Tryz.prog Γ ext 37 [.agg x.cells] s = some (.sc (.bool b), s) := by
  obtain ⟨bv, hv⟩ := Classical.axiomOfChoice fun s => r_smallV (ext := ext) (y := lv) (by have := h.nv; omega) s
  obtain ⟨bp, hp⟩ := Classical.axiomOfChoice fun s => r_brief (ext := ext) (y := lp) (by have := h.np; omega) s
  have hw := fun s (y : FuncD) (hy : y ∈ lf.getD []) => weight_ok (ext := ext) d y.body (h.node y hy).1 (h.node y hy).2 s
  have h1 := slP_len (e := 121) (c := FuncD.cells) lf
  have h2 := slP_len (e := 123) (c := AliasD.cells) la
  have h3 := slP_len (e := 101) (c := TrapD.cells) lt
  have c1 := cells_sl (e := 99) (c := VarD.cells) lv
  have c2 := cells_sl (e := 9) (c := strC) lp
  have c3 := cells_sl (e := 121) (c := FuncD.cells) lf
  have c4 := cells_sl (e := 123) (c := AliasD.cells) la
  have c5 := cells_sl (e := 101) (c := TrapD.cells) lt
  have hR := fun (b n0 : Nat) (s : PS) (hn : n0 ≤ s.w) (hb : s.h b = _) z f a c => al_rest (ext := ext) (la := la) (by have := h.na; omega) hn hb h.a (z := z) f a c
  have hL := fun l (e : x.funcs = slP 121 FuncD.cells (some l)) hl (b n0 : Nat) (s : PS) (hn : n0 ≤ s.w) (hb : s.h b = _) hw hR => fn_loop (ext := ext) (x := x) (lf := l) hl hn hb e hw hR
  have hnode := h.node
  have hlf := h.nf
  have hhf := h.f
  have hhv := h.v
  have hhp := h.p
  have hha := h.a
  have hht := h.t
  clear h
  refine er_callE (fn := p37) (r := 2) (by rfl) (by simp [p37]) (by rfl) (by rfl) ?_
  unfold p37
  obtain ⟨nm, vs, ps, fs, als, ts, o, st, pi, la', cw, gi, go, le, tk⟩ := x
  simp only at hhf hhv hhp hha hht
  rw [← hhv] at hv c1
  rw [← hhp] at hp c2
  rw [← hhf] at h1 c3
  rw [← hha] at h2 c4
  rw [← hht] at h3 c5
  simp only [EnvD.cells] at hR hL ⊢
  generalize hs1 : ((⟨s.h, s.n, s.n⟩ : PS).new ⟨[.sc (.string nm), vs, ps, fs, als, ts, .sc (.int .i64 o), .sc (.int .i64 st), .sc (.int .i64 pi), .sc (.int .i64 la'), .sc (.string cw), .sc (.int .i64 gi), .sc (.int .i64 go), .sc (.int .i64 le), .sc (.bool tk)], 0, 56⟩) = s1
  have q1 : s1.h s.n = ⟨[.sc (.string nm), vs, ps, fs, als, ts, .sc (.int .i64 o), .sc (.int .i64 st), .sc (.int .i64 pi), .sc (.int .i64 la'), .sc (.string cw), .sc (.int .i64 gi), .sc (.int .i64 go), .sc (.int .i64 le), .sc (.bool tk)], 0, 56⟩ := by rw [← hs1]; simp only [PS.new, if_true]
  have q2 : s1.w = s.n := by rw [← hs1]; rfl
  have hw1 : s.n ≤ s1.w := by rw [q2]; exact Nat.le_refl _
  cases d1 : bv s1 with
  | false =>
    have hv1 := hv s1
    rw [d1] at hv1
    simp -implicitDefEqProofs (disch := omega) only [ZA, Nat.reduceAdd, Nat.reduceEqDiff, ↓reduceIte, Nat.reduceLeDiff, reduceCtorEq, Nat.reduceBEq, Nat.reduceLT, actP, opP, pvOf, ofCells, callP, leaveP, resP, oneRes, frz, frz2, frz1, frzT, hs1, q1, c1, hv1]
    exact ⟨hw1, _, rfl⟩
  | true =>
  have hv1 := hv s1
  rw [d1] at hv1
  cases d2 : bp s1 with
  | false =>
    have hp1 := hp s1
    rw [d2] at hp1
    simp -implicitDefEqProofs (disch := omega) only [ZA, Nat.reduceAdd, Nat.reduceEqDiff, ↓reduceIte, Nat.reduceLeDiff, reduceCtorEq, Nat.reduceBEq, Nat.reduceLT, actP, opP, pvOf, ofCells, callP, leaveP, resP, oneRes, frz, frz2, frz1, frzT, hs1, q1, c1, hv1, c2, hp1]
    exact ⟨hw1, _, rfl⟩
  | true =>
  have hp1 := hp s1
  rw [d2] at hp1
  cases d3 : shortB nm.data.toList with
  | false => simp -implicitDefEqProofs (disch := omega) only [ZA, Nat.reduceAdd, Nat.reduceEqDiff, ↓reduceIte, Nat.reduceLeDiff, reduceCtorEq, Nat.reduceBEq, Nat.reduceLT, actP, opP, pvOf, ofCells, callP, leaveP, resP, oneRes, frz, frz2, frz1, frzT, hs1, q1, c1, hv1, c2, hp1, r_short, d3]; exact ⟨hw1, _, rfl⟩
  | true =>
  cases d4 : decide (66 < (lf.getD []).length) with
  | true => simp -implicitDefEqProofs (disch := omega) only [ZA, Nat.reduceAdd, Nat.reduceEqDiff, ↓reduceIte, Nat.reduceLeDiff, reduceCtorEq, Nat.reduceBEq, Nat.reduceLT, actP, opP, pvOf, ofCells, callP, leaveP, resP, oneRes, frz, frz2, frz1, frzT, hs1, q1, c1, hv1, c2, hp1, r_short, d3, c3, h1, d4]; exact ⟨hw1, _, rfl⟩
  | false =>
  cases d5 : decide (66 < (la.getD []).length) with
  | true => simp -implicitDefEqProofs (disch := omega) only [ZA, Nat.reduceAdd, Nat.reduceEqDiff, ↓reduceIte, Nat.reduceLeDiff, reduceCtorEq, Nat.reduceBEq, Nat.reduceLT, actP, opP, pvOf, ofCells, callP, leaveP, resP, oneRes, frz, frz2, frz1, frzT, hs1, q1, c1, hv1, c2, hp1, r_short, d3, c3, h1, d4, c4, h2, d5]; exact ⟨hw1, _, rfl⟩
  | false =>
  cases d6 : decide (25 < (lt.getD []).length) with
  | true => simp -implicitDefEqProofs (disch := omega) only [ZA, Nat.reduceAdd, Nat.reduceEqDiff, ↓reduceIte, Nat.reduceLeDiff, reduceCtorEq, Nat.reduceBEq, Nat.reduceLT, actP, opP, pvOf, ofCells, callP, leaveP, resP, oneRes, frz, frz2, frz1, frzT, hs1, q1, c1, hv1, c2, hp1, r_short, d3, c3, h1, d4, c4, h2, d5, c5, h3, d6]; exact ⟨hw1, _, rfl⟩
  | false =>
  cases d7 : decide (300 < cw.data.toList.length) with
  | true => simp -implicitDefEqProofs (disch := omega) only [ZA, Nat.reduceAdd, Nat.reduceEqDiff, ↓reduceIte, Nat.reduceLeDiff, reduceCtorEq, Nat.reduceBEq, Nat.reduceLT, actP, opP, pvOf, ofCells, callP, leaveP, resP, oneRes, frz, frz2, frz1, frzT, hs1, q1, c1, hv1, c2, hp1, r_short, d3, c3, h1, d4, c4, h2, d5, c5, h3, d6, d7]; exact ⟨hw1, _, rfl⟩
  | false =>
    have hR1 := fun z f a c => hR s.n s.n s1 hw1 q1 z f a c
    cases lf with
    | none =>
      have z0 : decide ((0 : Int) < 0) = false := rfl
      simp only [slP] at hhf
      subst hhf
      simp -implicitDefEqProofs (disch := omega) only [ZA, Nat.reduceAdd, Nat.reduceEqDiff, ↓reduceIte, Nat.reduceLeDiff, reduceCtorEq, Nat.reduceBEq, Nat.reduceLT, actP, opP, pvOf, ofCells, callP, leaveP, resP, oneRes, frz, frz2, frz1, frzT, hs1, q1, c1, hv1, c2, hp1, r_short, d3, c3, h1, d4, c4, h2, d5, c5, h3, d6, d7]
      refine LP_case fun L hL => ?_
      simp -implicitDefEqProofs (disch := omega) only [ZA, Nat.reduceAdd, Nat.reduceEqDiff, ↓reduceIte, Nat.reduceLeDiff, reduceCtorEq, Nat.reduceBEq, Nat.reduceLT, actP, opP, pvOf, ofCells, callP, leaveP, resP, oneRes, frz, frz2, frz1, frzT, b37_0, q1, lenP, z0]
      exact hR1 0 _ (by simp -implicitDefEqProofs (disch := omega) only [ZA, Nat.reduceAdd, Nat.reduceEqDiff, ↓reduceIte, Nat.reduceLeDiff, reduceCtorEq, Nat.reduceBEq, Nat.reduceLT, actP, opP, pvOf, ofCells, callP, leaveP, resP, oneRes, frz, frz2, frz1, frzT]) (by simp -implicitDefEqProofs (disch := omega) only [ZA, Nat.reduceAdd, Nat.reduceEqDiff, ↓reduceIte, Nat.reduceLeDiff, reduceCtorEq, Nat.reduceBEq, Nat.reduceLT, actP, opP, pvOf, ofCells, callP, leaveP, resP, oneRes, frz, frz2, frz1, frzT])
    | some l =>
      have hL1 := hL l hhf (by have : l.length ≤ 16777216 := hlf; omega) s.n s.n s1 hw1 q1 (fun y hy => hw s1 y hy) (fun f z a c => hR1 z f a c) l.length 0 0
      simp -implicitDefEqProofs (disch := omega) only [ZA, Nat.reduceAdd, Nat.reduceEqDiff, ↓reduceIte, Nat.reduceLeDiff, reduceCtorEq, Nat.reduceBEq, Nat.reduceLT, actP, opP, pvOf, ofCells, callP, leaveP, resP, oneRes, frz, frz2, frz1, frzT, hs1, q1, c1, hv1, c2, hp1, r_short, d3, c3, h1, d4, c4, h2, d5, c5, h3, d6, d7]
      exact hL1 _ (Nat.zero_add _) (by simp -implicitDefEqProofs (disch := omega) only [ZA, Nat.reduceAdd, Nat.reduceEqDiff, ↓reduceIte, Nat.reduceLeDiff, reduceCtorEq, Nat.reduceBEq, Nat.reduceLT, actP, opP, pvOf, ofCells, callP, leaveP, resP, oneRes, frz, frz2, frz1, frzT]) (by simp -implicitDefEqProofs (disch := omega) only [ZA, Nat.reduceAdd, Nat.reduceEqDiff, ↓reduceIte, Nat.reduceLeDiff, reduceCtorEq, Nat.reduceBEq, Nat.reduceLT, actP, opP, pvOf, ofCells, callP, leaveP, resP, oneRes, frz, frz2, frz1, frzT]) (by simp -implicitDefEqProofs (disch := omega) only [ZA, Nat.reduceAdd, Nat.reduceEqDiff, ↓reduceIte, Nat.reduceLeDiff, reduceCtorEq, Nat.reduceBEq, Nat.reduceLT, actP, opP, pvOf, ofCells, callP, leaveP, resP, oneRes, frz, frz2, frz1, frzT] <;> rfl)
end Go.Proofs.YtflfflfodghgpaaGreatDoor


namespace Go.Mir
mutual
def eqPt : Part → Part → Bool
  | .mk k t o c ps, .mk k' t' o' c' qs => (k == k' && (t == t' && (o == o' && c == c'))) && eqLs ps qs
def eqLs : List Part → List Part → Bool
  | [], [] => true
  | p :: ps, q :: qs => eqPt p q && eqLs ps qs
  | [], _ :: _ => false
  | _ :: _, [] => false
end
def kidsPt : Part → List Part
  | .mk _ _ _ _ ps => ps
theorem eqLs_len : ∀ {l m : List Part}, l.length ≠ m.length → eqLs l m = false
  | [], [], h => absurd rfl h
  | [], _ :: _, _ => by rw [eqLs]
  | _ :: _, [], _ => by rw [eqLs]
  | p :: l, q :: m, h => by
    rw [eqLs, eqLs_len (fun e => h (by rw [List.length_cons, List.length_cons, e])), Bool.and_false]
end Go.Mir
namespace Go.Proofs.YtflfflfodghgpaaGreatDoor
open Go Go.EvL Go.PE Go.Mir
variable {ext : PCallF}
theorem PartD.inj (x y : PartD) (h : x.cells = y.cells) : x = y := by
  obtain ⟨a, b, c, d, e⟩ := x
  obtain ⟨a', b', c', d', e'⟩ := y
  simp only [PartD.cells] at h
  injection h with h1 h
  injection h with h2 h
  injection h with h3 h
  injection h with h4 h
  injection h with h5 h
  cases h1; cases h2; cases h3; cases h4; cases h5
  rfl
theorem allB_eqLs {R : Nat → Bool} : ∀ (l m : List Part) (i0 : Nat), l.length = m.length → (∀ i p q, l[i]? = some p → m[i]? = some q → R (i0 + i) = eqPt p q) → allB R i0 l.length = eqLs l m
  | [], [], i0, _, _ => by rw [eqLs]; rfl
  | [], _ :: _, _, h, _ => by cases h
  | _ :: _, [], _, h, _ => by cases h
  | p :: l, q :: m, i0, h, hr => by
    rw [eqLs, ← hr 0 p q rfl rfl, ← allB_eqLs l m (i0 + 1) (by simpa using h) fun i p q h1 h2 => by
      rw [← hr (i + 1) p q (by simpa using h1) (by simpa using h2)]
      congr 1
      omega]
    rfl
theorem EnD.at : ∀ {l : List Part} {xs : List PartD} {i : Nat} {x : PartD}, EnD l xs → xs[i]? = some x → ∃ p, l[i]? = some p ∧ EnP p x
  | [], _, _, _, h, hx => by rw [h.nil] at hx; simp at hx
  | p :: l, _, i, x, h, hx => by
    obtain ⟨y, xs', rfl, h1, h2⟩ := h.cons
    cases i with
    | zero => injection hx with hx; subst hx; exact ⟨p, rfl, h1⟩
    | succ i => exact EnD.at (i := i) h2 (by simpa using hx)
theorem EnP.kids {p : Part} {x : PartD} (h : EnP p x) : EnL (kidsPt p) x.parts := by
  cases p with
  | mk k t o c ps =>
    rw [EnP] at h
    obtain ⟨_, _, _, _, y, h1, h2⟩ := h
    exact ⟨y, h1, h2⟩
theorem eqB_eq {p q : Part} {x y : PartD} (h : EnP p x) (k : EnP q y) : (x.eqB y && eqLs (kidsPt p) (kidsPt q)) = eqPt p q := by
  cases p with
  | mk k1 t1 o1 c1 ps =>
    cases q with
    | mk k2 t2 o2 c2 qs =>
      rw [EnP] at h k
      obtain ⟨rfl, h2, rfl, rfl, _⟩ := h
      obtain ⟨rfl, k2, rfl, rfl, _⟩ := k
      rw [eqPt, PartD.eqB, h2, k2, ByteArray.toList_eq, ByteArray.toList_eq]
      rfl
theorem parts_eq : ∀ (d : Nat) (a b : PV) (l m : List Part), PartsAt d a → PartsAt d b → EnL l a → EnL m b → (∀ s, pcall Tryz.prog Γ ext 186 [a, b] s = some (.sc (.bool (eqLs l m)), s)) ∧ ∀ s, pcall Tryz.prog Γ ext 185 [a, b] s = some (.sc (.bool (eqLs l m)), s) := by
  intro d
  induction d with
  | zero => intro a b l m h; cases h
  | succ d ih =>
    rintro a b L M ⟨l, rfl, hl, hl'⟩ ⟨m, rfl, hm, hm'⟩ ⟨l2, e1, hL⟩ ⟨m2, e2, hM⟩
    obtain rfl := slP_inj PartD.inj PartD.len e1
    obtain rfl := slP_inj PartD.inj PartD.len e2
    have hr : ∀ (i : Nat) (x y : PartD) (p q : Part), (l.getD [])[i]? = some x → (m.getD [])[i]? = some y → L[i]? = some p → M[i]? = some q → (∀ s, pcall Tryz.prog Γ ext 186 [x.parts, y.parts] s = some (.sc (.bool (eqLs (kidsPt p) (kidsPt q))), s)) ∧ ∀ s, pcall Tryz.prog Γ ext 185 [x.parts, y.parts] s = some (.sc (.bool (eqLs (kidsPt p) (kidsPt q))), s) := by
      intro i x y p q h1 h2 h3 h4
      obtain ⟨p', g1, g2⟩ := hL.at h1
      obtain ⟨q', g3, g4⟩ := hM.at h2
      rw [h3] at g1
      rw [h4] at g3
      injection g1 with g1
      injection g3 with g3
      subst g1
      subst g3
      exact ih _ _ _ _ (hl' x (List.mem_of_getElem? h1)) (hm' y (List.mem_of_getElem? h2)) g2.kids g4.kids
    have hln := hL.length
    have hmn := hM.length
    have hR : ∃ r : Nat → Bool, ∀ i p q, L[i]? = some p → M[i]? = some q → r i = eqLs (kidsPt p) (kidsPt q) := ⟨fun i => match L[i]?, M[i]? with
      | some p, some q => eqLs (kidsPt p) (kidsPt q)
      | _, _ => true, fun i p q h1 h2 => by simp only [h1, h2]⟩
    obtain ⟨r, hrr⟩ := hR
    have hat : ∀ {i : Nat} {x : PartD}, (l.getD [])[i]? = some x → ∃ p, L[i]? = some p ∧ EnP p x := fun h => hL.at h
    have hbt : ∀ {i : Nat} {y : PartD}, (m.getD [])[i]? = some y → ∃ q, M[i]? = some q ∧ EnP q y := fun h => hM.at h
    have hfin : ((l.getD []).length == (m.getD []).length && allB (fun i => (match (l.getD [])[i]?, (m.getD [])[i]? with | some x, some y => x.eqB y | _, _ => true) && r i) 0 (l.getD []).length) = eqLs L M := by
      rw [hln, hmn]
      cases hc : L.length == M.length with
      | false => rw [Bool.false_and, eqLs_len (ne_of_beq_false hc)]
      | true =>
        rw [Bool.true_and]
        refine allB_eqLs L M 0 (eq_of_beq hc) fun i p q h1 h2 => ?_
        have i1 := (List.getElem?_eq_some_iff.1 h1).1
        have i2 := (List.getElem?_eq_some_iff.1 h2).1
        obtain ⟨p', g1, g2⟩ := hat (i := i) (List.getElem?_eq_getElem (by omega))
        obtain ⟨q', g3, g4⟩ := hbt (i := i) (List.getElem?_eq_getElem (by omega))
        rw [h1] at g1
        rw [h2] at g3
        injection g1 with g1
        injection g3 with g3
        subst g1
        subst g3
        simp only [Nat.zero_add, List.getElem?_eq_getElem (show i < (l.getD []).length by omega), List.getElem?_eq_getElem (show i < (m.getD []).length by omega)]
        rw [hrr i p q h1 h2]
        exact eqB_eq g2 g4
    have hpq : ∀ (i : Nat) (x y : PartD), (l.getD [])[i]? = some x → (m.getD [])[i]? = some y → (∀ s, pcall Tryz.prog Γ ext 186 [x.parts, y.parts] s = some (.sc (.bool (r i)), s)) ∧ ∀ s, pcall Tryz.prog Γ ext 185 [x.parts, y.parts] s = some (.sc (.bool (r i)), s) := fun i x y h1 h2 => by
      obtain ⟨p, g1, _⟩ := hat h1
      obtain ⟨q, g2, _⟩ := hbt h2
      rw [hrr i p q g1 g2]
      exact hr i x y p q h1 h2 g1 g2
    rw [← hfin]
    refine ⟨fun s => ?_, fun s => ?_⟩
    · have h132 := eq_func (P := Tryz.prog) (ext := ext) (e := 90) (t := 90) PartD.len (by rfl) g132 (l := l) (m := m) (fun x hx => hx.elim (fun h => PartD.ones (hl' x h)) (fun h => PartD.ones (hm' x h))) (g := 249) hl (r := fun i => (match (l.getD [])[i]?, (m.getD [])[i]? with | some x, some y => x.eqB y | _, _ => true) && r i) (fun i x y h1 h2 s => by
        simp only [h1, h2]
        exact f133 x y s (r i) (hpq i x y h1 h2).1)
      rw [pcall_u (fn := p186) (by rfl) _ _ (by simp [p186])]
      simp -implicitDefEqProofs only [p186, pcode_seq, pcode_r, pcode_ret, pops_u, pops_nil, runK_some, actP, opP, initP, Nat.zero_add, Option.map_some, Option.bind_some, pval_tmp, pval_const, pval_func, set_at, Nat.reduceEqDiff, ↓reduceIte, pvOf, seq_n, regE_some, Nat.one_ne_zero, Nat.le_refl, callP, leaveP, resP, oneRes, frz, frz2, frz1, List.map_cons, List.map_nil, List.nil_append, List.append_nil, endK_r, Bool.false_eq_true, reduceCtorEq, h132]
    · refine ref_func8 hl (G := 185) (nt := 61) (inner := inner87) (by rw [← is87]; rfl) (by omega) (fun i x y h1 h2 f s hin => ?_) s
      have h := in87 (ext := ext) x y (hl' x (List.mem_of_getElem? h1)).one (hm' y (List.mem_of_getElem? h2)).one (r i) (hpq i x y h1 h2).2 h1 h2 f s hin
      simp only [h1, h2]
      exact h
end Go.Proofs.YtflfflfodghgpaaGreatDoor


namespace Go.Mir
mutual
theorem eqPt_comm : ∀ p q : Part, eqPt p q = eqPt q p
  | .mk k t o c ps, .mk k' t' o' c' qs => by
    rw [eqPt, eqPt, eqLs_comm ps qs, BEq.comm (a := k), BEq.comm (a := t), BEq.comm (a := o), BEq.comm (a := c)]
theorem eqLs_comm : ∀ l m : List Part, eqLs l m = eqLs m l
  | [], [] => rfl
  | [], _ :: _ => by rw [eqLs, eqLs]
  | _ :: _, [] => by rw [eqLs, eqLs]
  | p :: l, q :: m => by rw [eqLs, eqLs, eqPt_comm p q, eqLs_comm l m]
end
end Go.Mir
namespace Go.PE
open Go Go.EvL
section
variable {P : Program} {Γ : Nat → Option PFn} {ext : PCallF}
/-- two_same, in both orders -/
theorem two_sym {α : Type} {e t es sl : Nat} {z : Array Value} {c : α → List PV} (hc : ∀ x, (c x).length = es) (hz : (z.toList.map PV.sc).length = es) {G H nt g : Nat} (hG : Γ G = some (eqF t es z sl)) {inner : PCode} (hH : Γ H = some (refF6 nt inner)) (hnt : 2 ≤ nt) {l m : Option (List α)} (ho : ∀ x, x ∈ l.getD [] ∨ x ∈ m.getD [] → (c x).all oneP = true) (hbig : (l.getD []).length < 4611686018427387904) (hbig2 : (m.getD []).length < 4611686018427387904)
    (hel : ∀ x ∈ l.getD [], ∀ y ∈ m.getD [], ∃ r, ((∀ s, pcall P Γ ext g [.agg (c x), .agg (c y)] s = some (.sc (.bool r), s)) ∧ InnerOK P Γ ext e c inner x y r) ∧ (∀ s, pcall P Γ ext g [.agg (c y), .agg (c x)] s = some (.sc (.bool r), s)) ∧ InnerOK P Γ ext e c inner y x r) :
    ∃ r, ((∀ s, pcall P Γ ext G [slP e c l, slP e c m, .fn g [] []] s = some (.sc (.bool r), s)) ∧ ∀ s, pcall P Γ ext H [slP e c l, slP e c m] s = some (.sc (.bool r), s)) ∧ (∀ s, pcall P Γ ext G [slP e c m, slP e c l, .fn g [] []] s = some (.sc (.bool r), s)) ∧ ∀ s, pcall P Γ ext H [slP e c m, slP e c l] s = some (.sc (.bool r), s) := by
  have key : ∀ i : Nat, ∃ r : Bool, ∀ x y : α, (l.getD [])[i]? = some x → (m.getD [])[i]? = some y → ((∀ s, pcall P Γ ext g [.agg (c x), .agg (c y)] s = some (.sc (.bool r), s)) ∧ InnerOK P Γ ext e c inner x y r) ∧ (∀ s, pcall P Γ ext g [.agg (c y), .agg (c x)] s = some (.sc (.bool r), s)) ∧ InnerOK P Γ ext e c inner y x r := by
    intro i
    cases hx : (l.getD [])[i]? with
    | none => exact ⟨true, fun x y h => by cases h⟩
    | some x =>
      cases hy : (m.getD [])[i]? with
      | none => exact ⟨true, fun x y _ h => by cases h⟩
      | some y =>
        obtain ⟨r, hr⟩ := hel x (List.mem_of_getElem? hx) y (List.mem_of_getElem? hy)
        exact ⟨r, fun x' y' h1 h2 => by injection h1 with h1; injection h2 with h2; subst h1; subst h2; exact hr⟩
  obtain ⟨r, hr⟩ := Classical.axiomOfChoice key
  have e0 : ((m.getD []).length == (l.getD []).length && allB r 0 (m.getD []).length) = ((l.getD []).length == (m.getD []).length && allB r 0 (l.getD []).length) := by
    cases h : (l.getD []).length == (m.getD []).length with
    | true => rw [← eq_of_beq h, beq_self_eq_true]
    | false => rw [BEq.comm, h, Bool.false_and, Bool.false_and]
  refine ⟨(l.getD []).length == (m.getD []).length && allB r 0 (l.getD []).length, ⟨fun s => ?_, fun s => ?_⟩, fun s => ?_, fun s => ?_⟩
  · exact eq_func hc hz hG ho hbig (fun i x y h1 h2 => (hr i x y h1 h2).1.1) s
  · exact ref_func6 hbig hH hnt (fun i x y h1 h2 f s hin => (hr i x y h1 h2).1.2 l m i h1 h2 f s hin) s
  · rw [← e0]
    exact eq_func hc hz hG (fun x hx => ho x hx.symm) hbig2 (fun i x y h1 h2 => (hr i y x h2 h1).2.1) s
  · rw [← e0]
    exact ref_func6 hbig2 hH hnt (fun i x y h1 h2 f s hin => (hr i y x h2 h1).2.2 m l i h1 h2 f s hin) s
end
end Go.PE
namespace Go.Proofs.YtflfflfodghgpaaGreatDoor
open Go Go.EvL Go.PE Go.Mir
variable {ext : PCallF}
def Two (ext : PCallF) (g h : Nat) (fa : List PV) (a b : PV) (r : Bool) : Prop := ((∀ s, pcall Tryz.prog Γ ext g (a :: b :: fa) s = some (.sc (.bool r), s)) ∧ ∀ s, pcall Tryz.prog Γ ext h [a, b] s = some (.sc (.bool r), s)) ∧ (∀ s, pcall Tryz.prog Γ ext g (b :: a :: fa) s = some (.sc (.bool r), s)) ∧ ∀ s, pcall Tryz.prog Γ ext h [b, a] s = some (.sc (.bool r), s)
theorem parts_sym {d : Nat} {a b : PV} (ha : PartsAt d a) (hb : PartsAt d b) : ∃ r, ((∀ s, pcall Tryz.prog Γ ext 186 [a, b] s = some (.sc (.bool r), s)) ∧ ∀ s, pcall Tryz.prog Γ ext 185 [a, b] s = some (.sc (.bool r), s)) ∧ (∀ s, pcall Tryz.prog Γ ext 186 [b, a] s = some (.sc (.bool r), s)) ∧ ∀ s, pcall Tryz.prog Γ ext 185 [b, a] s = some (.sc (.bool r), s) := by
  obtain ⟨l, hl⟩ := ha.read
  obtain ⟨m, hm⟩ := hb.read
  refine ⟨eqLs l m, parts_eq d a b l m ha hb hl hm, ?_⟩
  rw [eqLs_comm]
  exact parts_eq d b a m l hb ha hm hl
theorem words_sym {d : Nat} {a b : PV} (ha : WordsAt d a) (hb : WordsAt d b) : ∃ r, ((∀ s, pcall Tryz.prog Γ ext 123 [a, b, .fn 122 [] []] s = some (.sc (.bool r), s)) ∧ ∀ s, pcall Tryz.prog Γ ext 116 [a, b] s = some (.sc (.bool r), s)) ∧ (∀ s, pcall Tryz.prog Γ ext 123 [b, a, .fn 122 [] []] s = some (.sc (.bool r), s)) ∧ ∀ s, pcall Tryz.prog Γ ext 116 [b, a] s = some (.sc (.bool r), s) := by
  obtain ⟨l, rfl, hl, hl'⟩ := ha
  obtain ⟨m, rfl, hm, hm'⟩ := hb
  refine two_sym WordD.len (by rfl) g48 g55 (by omega) (fun x hx => ?_) hl hm (fun x hx y hy => ?_)
  · have : PartsAt d x.parts := hx.elim (hl' x) (hm' x)
    simp only [WordD.cells, List.all_cons, List.all_nil, this.one, Bool.and_true]; rfl
  · obtain ⟨r, ⟨h1, h2⟩, h3, h4⟩ := parts_sym (ext := ext) (hl' x hx) (hm' y hy)
    exact ⟨r, ⟨fun s => f47 x y r h1 s, in55 x y r h2⟩, fun s => f47 y x r h3 s, in55 y x r h4⟩
theorem assigns_sym {d : Nat} {a b : PV} (ha : AssignsAt d a) (hb : AssignsAt d b) : ∃ r, ((∀ s, pcall Tryz.prog Γ ext 120 [a, b, .fn 121 [] []] s = some (.sc (.bool r), s)) ∧ ∀ s, pcall Tryz.prog Γ ext 115 [a, b] s = some (.sc (.bool r), s)) ∧ (∀ s, pcall Tryz.prog Γ ext 120 [b, a, .fn 121 [] []] s = some (.sc (.bool r), s)) ∧ ∀ s, pcall Tryz.prog Γ ext 115 [b, a] s = some (.sc (.bool r), s) := by
  obtain ⟨l, rfl, hl, hl'⟩ := ha
  obtain ⟨m, rfl, hm, hm'⟩ := hb
  refine two_sym AssignD.len (by rfl) g45 g54 (by omega) (fun x hx => ?_) hl hm (fun x hx y hy => ?_)
  · have : PartsAt d x.parts := hx.elim (hl' x) (hm' x)
    simp only [AssignD.cells, List.all_cons, List.all_nil, this.one, Bool.and_true]; rfl
  · obtain ⟨r, ⟨h1, h2⟩, h3, h4⟩ := parts_sym (ext := ext) (hl' x hx) (hm' y hy)
    have e1 := fun s => f46 y x r h3 s
    have e2 := in54 y x r h4
    rw [BEq.comm (a := y.name.toList)] at e2
    simp only [BEq.comm (a := y.name.toList)] at e1
    exact ⟨_, ⟨fun s => f46 x y r h1 s, in54 x y r h2⟩, e1, e2⟩
theorem redirs_sym {d : Nat} {a b : PV} (ha : RedirsAt d a) (hb : RedirsAt d b) : ∃ r, ((∀ s, pcall Tryz.prog Γ ext 124 [a, b, .fn 125 [] []] s = some (.sc (.bool r), s)) ∧ ∀ s, pcall Tryz.prog Γ ext 117 [a, b] s = some (.sc (.bool r), s)) ∧ (∀ s, pcall Tryz.prog Γ ext 124 [b, a, .fn 125 [] []] s = some (.sc (.bool r), s)) ∧ ∀ s, pcall Tryz.prog Γ ext 117 [b, a] s = some (.sc (.bool r), s) := by
  obtain ⟨l, rfl, hl, hl'⟩ := ha
  obtain ⟨m, rfl, hm, hm'⟩ := hb
  refine two_sym RedirD.len (by rfl) g49 g56 (by omega) (fun x hx => ?_) hl hm (fun x hx y hy => ?_)
  · have : PartsAt d x.parts := hx.elim (hl' x) (hm' x)
    simp only [RedirD.cells, List.all_cons, List.all_nil, this.one, Bool.and_true]; rfl
  · obtain ⟨r, ⟨h1, h2⟩, h3, h4⟩ := parts_sym (ext := ext) (hl' x hx) (hm' y hy)
    have eb : y.eqB x r = x.eqB y r := by unfold RedirD.eqB; rw [BEq.comm (a := y.fd), BEq.comm (a := y.op)]
    have e1 := fun s => f50 y x r h3 s
    have e2 := in56 y x r h4
    simp only [eb] at e1 e2
    exact ⟨_, ⟨fun s => f50 x y r h1 s, in56 x y r h2⟩, e1, e2⟩
def NS (ext : PCallF) (x y : NodeD) : Prop := ∃ r, ((∀ s, pcall Tryz.prog Γ ext 60 [.agg x.cells, .agg y.cells] s = some (.sc (.bool r), s)) ∧ ∀ s, pcall Tryz.prog Γ ext 56 [.agg x.cells, .agg y.cells] s = some (.sc (.bool r), s)) ∧ (∀ s, pcall Tryz.prog Γ ext 60 [.agg y.cells, .agg x.cells] s = some (.sc (.bool r), s)) ∧ ∀ s, pcall Tryz.prog Γ ext 56 [.agg y.cells, .agg x.cells] s = some (.sc (.bool r), s)
theorem kids_sym {D d : Nat} (ih : ∀ x y, NodeAt D d x → NodeAt D d y → NS ext x y)
    {a b : PV} (ha : RowAt 28 NodeD.cells (NodeAt D d) a) (hb : RowAt 28 NodeD.cells (NodeAt D d) b) : ∃ r, ((∀ s, pcall Tryz.prog Γ ext 126 [a, b, .fn 60 [] []] s = some (.sc (.bool r), s)) ∧ ∀ s, pcall Tryz.prog Γ ext 118 [a, b] s = some (.sc (.bool r), s)) ∧ (∀ s, pcall Tryz.prog Γ ext 126 [b, a, .fn 60 [] []] s = some (.sc (.bool r), s)) ∧ ∀ s, pcall Tryz.prog Γ ext 118 [b, a] s = some (.sc (.bool r), s) := by
  obtain ⟨l, rfl, hl, hl'⟩ := ha
  obtain ⟨m, rfl, hm, hm'⟩ := hb
  refine two_sym NodeD.len (by rfl) g51 g57 (by omega) (fun x hx => ?_) hl hm (fun x hx y hy => ?_)
  · exact (hx.elim (hl' x) (hm' x)).ones
  · obtain ⟨r, ⟨h1, h2⟩, h3, h4⟩ := ih x y (hl' x hx) (hm' y hy)
    exact ⟨r, ⟨h1, in57 x y r h2⟩, h3, in57 y x r h4⟩
theorem eqN_comm (x y : NodeD) : eqN y x = eqN x y := by
  unfold eqN
  rw [BEq.comm (a := y.kind), BEq.comm (a := y.name.toList), BEq.comm (a := y.all)]
theorem node_sym {D : Nat} : ∀ (d : Nat) (x y : NodeD), NodeAt D d x → NodeAt D d y → NS ext x y := by
  intro d
  induction d with
  | zero => intro x y h; cases h
  | succ d ih =>
    rintro x y ⟨x1, x2, x3, x4, x5⟩ ⟨y1, y2, y3, y4, y5⟩
    obtain ⟨a, ⟨a1, a2⟩, a3, a4⟩ := assigns_sym (ext := ext) x1 y1
    obtain ⟨w, ⟨w1, w2⟩, w3, w4⟩ := words_sym (ext := ext) x2 y2
    obtain ⟨q, ⟨q1, q2⟩, q3, q4⟩ := redirs_sym (ext := ext) x3 y3
    obtain ⟨k, ⟨k1, k2⟩, k3, k4⟩ := kids_sym ih x4 y4
    obtain ⟨i, ⟨i1, i2⟩, i3, i4⟩ : ∃ r, ((∀ s, pcall Tryz.prog Γ ext 127 [x.items, y.items, .fn 128 [] []] s = some (.sc (.bool r), s)) ∧ ∀ s, pcall Tryz.prog Γ ext 119 [x.items, y.items] s = some (.sc (.bool r), s)) ∧ (∀ s, pcall Tryz.prog Γ ext 127 [y.items, x.items, .fn 128 [] []] s = some (.sc (.bool r), s)) ∧ ∀ s, pcall Tryz.prog Γ ext 119 [y.items, x.items] s = some (.sc (.bool r), s) := by
      obtain ⟨l, el, hl, hl'⟩ := x5
      obtain ⟨m, em, hm, hm'⟩ := y5
      rw [el, em]
      refine two_sym ItemD.len (by rfl) g52 g58 (by omega) (fun z hz => ?_) hl hm (fun z hz v hv => ?_)
      · have h := hz.elim (hl' z) (hm' z)
        have w1 : oneP z.pats = true := RowAt.one h.1
        simp only [ItemD.cells, List.all_cons, List.all_nil, w1, h.2.one, Bool.and_true]
      · obtain ⟨r1, ⟨b1, b2⟩, b3, b4⟩ := words_sym (ext := ext) (hl' z hz).1 (hm' v hv).1
        obtain ⟨r2, ⟨d1, d2⟩, d3, d4⟩ := kids_sym ih (hl' z hz).2 (hm' v hv).2
        exact ⟨_, ⟨fun s => f53 z v r1 r2 b1 d1 s, in58 z v r1 r2 b2 d2⟩, fun s => f53 v z r1 r2 b3 d3 s, in58 v z r1 r2 b4 d4⟩
    have e1 := fun s => f20 y x a w q k i a3 w3 q3 k3 i3 s
    have e2 := fun s => f21 y x a w q k i a4 w4 q4 k4 i4 s
    simp only [eqN_comm] at e1 e2
    exact ⟨_, ⟨fun s => f20 x y a w q k i a1 w1 q1 k1 i1 s, fun s => f21 x y a w q k i a2 w2 q2 k2 i2 s⟩, e1, e2⟩
end Go.Proofs.YtflfflfodghgpaaGreatDoor


set_option linter.unusedSimpArgs false
namespace Go.Proofs.YtflfflfodghgpaaGreatDoor
open Go Go.EvL Go.PE Go.Mir
section
variable {ext : PCallF}
theorem allQ_comm {α : Type} {q : α → α → Bool} : ∀ {l m : List α}, (∀ x ∈ l, ∀ y ∈ m, q y x = q x y) → allQ q m l = allQ q l m
  | [], [], _ => rfl
  | [], _ :: _, _ => rfl
  | _ :: _, [], _ => rfl
  | x :: l, y :: m, h => by
    rw [allQ, allQ, h x (List.mem_cons_self ..) y (List.mem_cons_self ..), allQ_comm fun a ha b hb => h a (List.mem_cons_of_mem _ ha) b (List.mem_cons_of_mem _ hb)]
theorem allQ_self {α : Type} {q : α → α → Bool} : ∀ {l : List α}, (∀ x ∈ l, q x x = true) → allQ q l l = true
  | [], _ => rfl
  | x :: l, h => by rw [allQ, h x (List.mem_cons_self ..), allQ_self fun a ha => h a (List.mem_cons_of_mem _ ha), Bool.and_self]
theorem strQ_comm (a b : ByteArray) : strQ b a = strQ a b := by unfold strQ; rw [BEq.comm]
theorem strQ_self (a : ByteArray) : strQ a a = true := by unfold strQ; rw [beq_self_eq_true]
theorem varQ_comm (x y : VarD) : varQ y x = varQ x y := by
  unfold varQ
  rw [strQ_comm, strQ_comm x.value, BEq.comm (a := y.set), BEq.comm (a := y.exp), BEq.comm (a := y.ro)]
theorem aliasQ_comm (x y : AliasD) : aliasQ y x = aliasQ x y := by
  unfold aliasQ
  rw [strQ_comm, strQ_comm x.value]
theorem trapQ_comm (x y : TrapD) : trapQ y x = trapQ x y := by
  unfold trapQ
  rw [strQ_comm, BEq.comm (a := y.sig)]
theorem funQ_comm {D d : Nat} {x y : FuncD} (hx : NodeAt D d x.body) (hy : NodeAt D d y.body) : funQ ext y x = funQ ext x y := by
  unfold funQ
  obtain ⟨r, ⟨_, h2⟩, _, h4⟩ := node_sym (ext := ext) d x.body y.body hx hy
  rw [strQ_comm, show sameN ext x.body y.body = r from sayB_bool h2, show sameN ext y.body x.body = r from sayB_bool h4]
theorem funQ_self {D d : Nat} {x : FuncD} (hx : NodeAt D d x.body) : funQ ext x x = true := by
  unfold funQ
  have h := node_refl (ext := ext) d x.body hx
  obtain ⟨h1, _⟩ := same_n (ext := ext) hx hx
  have e := (h aPS).symm.trans (h1 aPS)
  injection e with e
  injection e with e
  injection e with e
  injection e with e
  rw [← e, strQ_self]
  rfl
theorem and_to (n v p f a t o s i l c g e k : Bool) : (n && (o && (s && (i && (l && (c && (g && (e && (k && (v && (p && (f && (a && t))))))))))))) = (n && (v && (p && (f && (a && (t && (o && (s && (i && (l && (c && (g && (e && k))))))))))))) := by
  cases n <;> cases v <;> cases p <;> cases f <;> cases a <;> cases t <;> simp
theorem env_one {D d : Nat} {x y : EnvD} {lv lv' : Option (List VarD)} {lp lp' : Option (List ByteArray)} {lf lf' : Option (List FuncD)} {la la' : Option (List AliasD)} {lt lt' : Option (List TrapD)} (h : EnvAt D d x lv lp lf la lt) (k : EnvAt D d y lv' lp' lf' la' lt') :
    ∃ Q : Bool, Q = (strQ x.name y.name && (allQ varQ (lv.getD []) (lv'.getD []) && (allQ strQ (lp.getD []) (lp'.getD []) && (allQ (funQ ext) (lf.getD []) (lf'.getD []) && (allQ aliasQ (la.getD []) (la'.getD []) && (allQ trapQ (lt.getD []) (lt'.getD []) && (x.opts == y.opts && (x.stat == y.stat && (x.pid == y.pid && (x.last == y.last && (strQ x.cwd y.cwd && ((x.gi == y.gi && x.go == y.go) && (x.lev == y.lev && x.talks == y.talks))))))))))))) ∧
      (∀ s, pcall Tryz.prog Γ ext 49 [.agg x.cells, .agg y.cells] s = some (.sc (.bool Q), s)) ∧ ∀ s, pcall Tryz.prog Γ ext 35 [.agg x.cells, .agg y.cells] s = some (.sc (.bool Q), s) := by
  have g1 := k.nv
  have g2 := k.np
  have g3 := k.nf
  have g4 := k.na
  have g5 := k.nt
  have v1 := fun s => eql_ok (ext := ext) g101 (la := lv) (lb := lv') (var_el _ _) (by have := h.nv; omega) (by omega) s
  have v2 := fun s => rfl_ok (ext := ext) g42 (la := lv) (lb := lv') (var_el _ _) (by have := h.nv; omega) (by omega) s
  have p1 := fun s => eql_ok (ext := ext) g102 (la := lp) (lb := lp') (str_el _ _) (by have := h.np; omega) (by omega) s
  have p2 := fun s => rfl_ok (ext := ext) g43 (la := lp) (lb := lp') (str_el _ _) (by have := h.np; omega) (by omega) s
  have a1 := fun s => eql_ok (ext := ext) g104 (la := la) (lb := la') (alias_el _ _) (by have := h.na; omega) (by omega) s
  have a2 := fun s => rfl_ok (ext := ext) g44 (la := la) (lb := la') (alias_el _ _) (by have := h.na; omega) (by omega) s
  have t1 := fun s => eql_ok (ext := ext) g105 (la := lt) (lb := lt') (trap_el _ _) (by have := h.nt; omega) (by omega) s
  have t2 := fun s => rfl_ok (ext := ext) g83 (la := lt) (lb := lt') (trap_el _ _) (by have := h.nt; omega) (by omega) s
  have f1 := fun s => p_funcs (ext := ext) (la := lf) (lb := lf') (fun z hz => (h.node z hz).1) (fun z hz => (k.node z hz).1) (by have := h.nf; omega) s
  have f2 := fun s => r_funcs (ext := ext) (la := lf) (lb := lf') (fun z hz => (h.node z hz).1) (fun z hz => (k.node z hz).1) (by have := h.nf; omega) (by omega) s
  have cv1 := cells_sl (e := 99) (c := VarD.cells) lv
  have cv2 := cells_sl (e := 99) (c := VarD.cells) lv'
  have cp1 := cells_sl (e := 9) (c := strC) lp
  have cp2 := cells_sl (e := 9) (c := strC) lp'
  have cf1 := cells_sl (e := 121) (c := FuncD.cells) lf
  have cf2 := cells_sl (e := 121) (c := FuncD.cells) lf'
  have ca1 := cells_sl (e := 123) (c := AliasD.cells) la
  have ca2 := cells_sl (e := 123) (c := AliasD.cells) la'
  have ct1 := cells_sl (e := 101) (c := TrapD.cells) lt
  have ct2 := cells_sl (e := 101) (c := TrapD.cells) lt'
  rw [← h.v] at v1 v2 cv1
  rw [← k.v] at v1 v2 cv2
  rw [← h.p] at p1 p2 cp1
  rw [← k.p] at p1 p2 cp2
  rw [← h.f] at f1 f2 cf1
  rw [← k.f] at f1 f2 cf2
  rw [← h.a] at a1 a2 ca1
  rw [← k.a] at a1 a2 ca2
  rw [← h.t] at t1 t2 ct1
  rw [← k.t] at t1 t2 ct2
  refine ⟨_, rfl, fun s => ?_, fun s => ?_⟩
  · exact p_same (ext := ext) rfl rfl rfl rfl rfl rfl rfl rfl rfl cv1 cv2 cp1 cp2 cf1 cf2 ca1 ca2 ct1 ct2 v1 p1 f1 a1 t1 s
  · rw [← and_to]
    exact r_same (ext := ext) rfl rfl rfl rfl rfl rfl rfl rfl rfl cv1 cv2 cp1 cp2 cf1 cf2 ca1 ca2 ct1 ct2 v2 p2 f2 a2 t2 s
theorem env_two {D d : Nat} {x y : EnvD} {lv lv' : Option (List VarD)} {lp lp' : Option (List ByteArray)} {lf lf' : Option (List FuncD)} {la la' : Option (List AliasD)} {lt lt' : Option (List TrapD)} (h : EnvAt D d x lv lp lf la lt) (k : EnvAt D d y lv' lp' lf' la' lt') :
    ∃ Q : Bool, (∀ s, pcall Tryz.prog Γ ext 49 [.agg x.cells, .agg y.cells] s = some (.sc (.bool Q), s)) ∧ (∀ s, pcall Tryz.prog Γ ext 35 [.agg x.cells, .agg y.cells] s = some (.sc (.bool Q), s)) ∧ (∀ s, pcall Tryz.prog Γ ext 49 [.agg y.cells, .agg x.cells] s = some (.sc (.bool Q), s)) ∧ ∀ s, pcall Tryz.prog Γ ext 49 [.agg x.cells, .agg x.cells] s = some (.sc (.bool true), s) := by
  obtain ⟨Q, e, h1, h2⟩ := env_one (ext := ext) h k
  obtain ⟨Q2, e2, h3, _⟩ := env_one (ext := ext) k h
  obtain ⟨Q3, e3, h4, _⟩ := env_one (ext := ext) h h
  have q1 : Q2 = Q := by
    rw [e, e2, strQ_comm x.name, strQ_comm x.cwd, allQ_comm fun a _ b _ => varQ_comm a b, allQ_comm fun a _ b _ => strQ_comm a b, allQ_comm fun a _ b _ => aliasQ_comm a b, allQ_comm fun a _ b _ => trapQ_comm a b, allQ_comm fun a ha b hb => funQ_comm (h.node a ha).1 (k.node b hb).1,
      BEq.comm (a := y.opts), BEq.comm (a := y.stat), BEq.comm (a := y.pid), BEq.comm (a := y.last), BEq.comm (a := y.gi), BEq.comm (a := y.go), BEq.comm (a := y.lev), BEq.comm (a := y.talks)]
  have q3 : Q3 = true := by
    rw [e3, strQ_self, strQ_self, allQ_self (q := varQ) (fun a _ => by unfold varQ; simp [strQ_self]), allQ_self (q := strQ) (fun a _ => strQ_self a), allQ_self (q := aliasQ) (fun a _ => by unfold aliasQ; simp [strQ_self]), allQ_self (q := trapQ) (fun a _ => by unfold trapQ; simp [strQ_self]), allQ_self (q := funQ ext) fun a ha => funQ_self (h.node a ha).1]
    simp
  subst q1
  subst q3
  exact ⟨_, h1, h2, h3, h4⟩
end
theorem h32 (s : PS) : pcall Tryz.prog Γ (extA 32) 32 [] s = some (.sc (.bool true), s) := by
  rw [pcall_ext (by rfl)]
  rfl
theorem pu49 : puOf Γ 49 = true := (rfl)
theorem pu35 : puOf Γ 35 = true := (rfl)
theorem pu32 : puOf Γ 32 = true := (rfl)
theorem env_law {D d : Nat} {x y : EnvD} {lv lv' : Option (List VarD)} {lp lp' : Option (List ByteArray)} {lf lf' : Option (List FuncD)} {la la' : Option (List AliasD)} {lt lt' : Option (List TrapD)} (h : EnvAt D d x lv lp lf la lt) (k : EnvAt D d y lv' lp' lf' la' lt') (s : PS) :
    pcall Tryz.prog Γ (extA 32) 12 [.agg x.cells, .agg y.cells] s = some (.sc (.bool true), s) := by
  obtain ⟨bx, hbx⟩ := Classical.axiomOfChoice fun s => r_small (ext := extA 32) h s
  obtain ⟨by', hby⟩ := Classical.axiomOfChoice fun s => r_small (ext := extA 32) k s
  obtain ⟨Q, e1, e2, e3, e4⟩ := env_two (ext := extA 32) h k
  have hw := h32
  have hb1 := fun x y a b => bin_beql (P := Tryz.prog) (t := 4) Tryz.underlying4 x y a b
  refine er_call1w (fn := p12) (r := 4) (by rfl) (by simp [p12]) (by rfl) (by rfl) ?_
  unfold p12
  simp only [EnvD.cells] at hbx hby e1 e2 e3 e4 ⊢
  generalize hs1 : ((⟨s.h, s.n, s.n⟩ : PS).new ⟨[.sc (.string x.name), x.vars, x.params, x.funcs, x.aliases, x.traps, .sc (.int .i64 x.opts), .sc (.int .i64 x.stat), .sc (.int .i64 x.pid), .sc (.int .i64 x.last), .sc (.string x.cwd), .sc (.int .i64 x.gi), .sc (.int .i64 x.go), .sc (.int .i64 x.lev), .sc (.bool x.talks)], 0, 56⟩) = s1
  have n1 : s1.n = s.n + 1 := by rw [← hs1]; rfl
  generalize hs2 : (s1.new ⟨[.sc (.string y.name), y.vars, y.params, y.funcs, y.aliases, y.traps, .sc (.int .i64 y.opts), .sc (.int .i64 y.stat), .sc (.int .i64 y.pid), .sc (.int .i64 y.last), .sc (.string y.cwd), .sc (.int .i64 y.gi), .sc (.int .i64 y.go), .sc (.int .i64 y.lev), .sc (.bool y.talks)], 0, 56⟩) = s2
  have q1 : s2.h s.n = ⟨[.sc (.string x.name), x.vars, x.params, x.funcs, x.aliases, x.traps, .sc (.int .i64 x.opts), .sc (.int .i64 x.stat), .sc (.int .i64 x.pid), .sc (.int .i64 x.last), .sc (.string x.cwd), .sc (.int .i64 x.gi), .sc (.int .i64 x.go), .sc (.int .i64 x.lev), .sc (.bool x.talks)], 0, 56⟩ := by
    rw [← hs2]
    show (if s.n = s1.n then _ else s1.h s.n) = _
    rw [if_neg (by omega), ← hs1]
    exact if_pos rfl
  have q2 : s2.h (s.n + 1) = ⟨[.sc (.string y.name), y.vars, y.params, y.funcs, y.aliases, y.traps, .sc (.int .i64 y.opts), .sc (.int .i64 y.stat), .sc (.int .i64 y.pid), .sc (.int .i64 y.last), .sc (.string y.cwd), .sc (.int .i64 y.gi), .sc (.int .i64 y.go), .sc (.int .i64 y.lev), .sc (.bool y.talks)], 0, 56⟩ := by
    rw [← hs2, ← n1]
    exact if_pos rfl
  have q3 : s.n ≤ s2.w := by
    rw [← hs2]
    show s.n ≤ s1.w
    rw [← hs1]
    exact Nat.le_refl _
  cases d1 : bx s2 with
  | false =>
    have a1 := hbx s2
    rw [d1] at a1
    simp -implicitDefEqProofs (disch := omega) only [ZA, Nat.reduceAdd, Nat.reduceEqDiff, ↓reduceIte, Nat.reduceLeDiff, reduceCtorEq, Nat.reduceBEq, Nat.reduceLT, actP, opP, pvOf, ofCells, callP, leaveP, resP, oneRes, frz, frz2, frz1, frzT, hs1, n1, hs2, q1, q2, a1, hw, Bool.not_false]
    exact q3
  | true =>
    have a1 := hbx s2
    rw [d1] at a1
    cases d2 : by' s2 with
    | false =>
      have a2 := hby s2
      rw [d2] at a2
      simp -implicitDefEqProofs (disch := omega) only [ZA, Nat.reduceAdd, Nat.reduceEqDiff, ↓reduceIte, Nat.reduceLeDiff, reduceCtorEq, Nat.reduceBEq, Nat.reduceLT, actP, opP, pvOf, ofCells, callP, leaveP, resP, oneRes, frz, frz2, frz1, frzT, hs1, n1, hs2, q1, q2, a1, a2, hw, Bool.not_false, Bool.not_true]
      exact q3
    | true =>
      have a2 := hby s2
      rw [d2] at a2
      have hQ : (Q == Q) = true := beq_self_eq_true Q
      simp -implicitDefEqProofs (disch := first | omega | (unfold OkAll OkPair; simp <;> omega)) only [ZA, Nat.reduceAdd, Nat.reduceEqDiff, ↓reduceIte, Nat.reduceLeDiff, reduceCtorEq, Nat.reduceBEq, Nat.reduceLT, actP, opP, pvOf, ofCells, callP, leaveP, resP, oneRes, frz, frz2, frz1, frzT, ZD, effO, effA, pureI, hs1, n1, hs2, q1, q2, a1, a2, hw, e1, e2, e3, e4, hb1, hQ, pu49, pu35, pu32, okPair_rd, Bool.not_true]
      exact q3
end Go.Proofs.YtflfflfodghgpaaGreatDoor


namespace Go.Proofs.YtflfflfodghgpaaGreatDoor
open Go Go.EvL Go.PE Go.Mir
theorem flds14 {P : Program} {n : Nat} {f1 f2 f3 f4 f5 f6 f7 f8 f9 f10 f11 f12 f13 f14 : Field} {ls : List (List PV)} (h : Flds P n [f1, f2, f3, f4, f5, f6, f7, f8, f9, f10, f11, f12, f13, f14] ls) : ∃ a1 a2 a3 a4 a5 a6 a7 a8 a9 a10 a11 a12 a13 a14, ls = [a1, a2, a3, a4, a5, a6, a7, a8, a9, a10, a11, a12, a13, a14] ∧ OfT P n f1.type a1 ∧ OfT P n f2.type a2 ∧ OfT P n f3.type a3 ∧ OfT P n f4.type a4 ∧ OfT P n f5.type a5 ∧ OfT P n f6.type a6 ∧ OfT P n f7.type a7 ∧ OfT P n f8.type a8 ∧ OfT P n f9.type a9 ∧ OfT P n f10.type a10 ∧ OfT P n f11.type a11 ∧ OfT P n f12.type a12 ∧ OfT P n f13.type a13 ∧ OfT P n f14.type a14 := by
  match ls, h with
  | [a1, a2, a3, a4, a5, a6, a7, a8, a9, a10, a11, a12, a13, a14], ⟨h1, h2, h3, h4, h5, h6, h7, h8, h9, h10, h11, h12, h13, h14, _⟩ => exact ⟨a1, a2, a3, a4, a5, a6, a7, a8, a9, a10, a11, a12, a13, a14, rfl, h1, h2, h3, h4, h5, h6, h7, h8, h9, h10, h11, h12, h13, h14⟩
theorem len_le {α : Type} {e N : Nat} {c : α → List PV} (hc : ∀ d, 1 ≤ (c d).length) {l : Option (List α)} {p : PV} (h : p = slP e c l) (hb : bulks [p] ≤ N) : (l.getD []).length ≤ N := by
  subst h
  have h1 := len_slP (e := e) hc l
  rw [bulks_cons, bulks_nil] at hb
  omega
theorem str_le {N : Nat} {a : ByteArray} (hb : bulks [.sc (.string a)] ≤ N) : a.data.toList.length ≤ N := by
  rw [bulks_cons, bulks_nil] at hb
  have : PV.bulk (.sc (.string a)) = a.data.toList.length + 1 := by simp [PV.bulk, scB]
  omega
theorem EnvAt.mono {D d d' : Nat} {x : EnvD} {lv : Option (List VarD)} {lp : Option (List ByteArray)} {lf : Option (List FuncD)} {la : Option (List AliasD)} {lt : Option (List TrapD)} (h : EnvAt D d x lv lp lf la lt) (hd : d ≤ d') : EnvAt D d' x lv lp lf la lt :=
  ⟨h.v, h.p, h.f, h.a, h.t, h.nv, h.np, h.nf, h.na, h.nt, fun y hy => ⟨(h.node y hy).1.mono hd, (h.node y hy).2⟩, h.name, h.cwd⟩
theorem env_of {D n : Nat} {ps : List PV} (hD : n ≤ D) (h : OfT Tryz.prog n 56 ps) (hb : bulks ps ≤ 16777216) : ∃ (x : EnvD) (lv : Option (List VarD)) (lp : Option (List ByteArray)) (lf : Option (List FuncD)) (la : Option (List AliasD)) (lt : Option (List TrapD)), ps = x.cells ∧ EnvAt D n x lv lp lf la lt := by
  obtain ⟨k, ls, hk, rfl, hf⟩ := of_struct Tryz.underlying56 h
  clear h
  obtain ⟨a1, a2, a3, a4, a5, a6, a7, a8, a9, a10, a11, a12, a13, a14, rfl, f1, f2, f3, f4, f5, f6, f7, f8, f9, f10, f11, f12, f13, f14⟩ := flds14 hf
  have hN : 16777216 < 4611686018427387904 := by decide
  have hsub : ∀ {x : List PV}, x ∈ [a1, a2, a3, a4, a5, a6, a7, a8, a9, a10, a11, a12, a13, a14] → bulks x ≤ 16777216 := fun hx => Nat.le_trans (bulks_flatten hx) hb
  have b1 := hsub (x := a1) (by simp)
  have b2 := hsub (x := a2) (by simp)
  have b3 := hsub (x := a3) (by simp)
  have b4 := hsub (x := a4) (by simp)
  have b5 := hsub (x := a5) (by simp)
  have b6 := hsub (x := a6) (by simp)
  have b11 := hsub (x := a11) (by simp)
  obtain ⟨z1, rfl, _⟩ := of_string Tryz.underlying9 f1
  obtain ⟨p2, l2, rfl, g2, _, _⟩ := of_sl (c := VarD.cells) (Q := fun _ => True) Tryz.underlying49 f2 (fun d => by simp [VarD.cells]) b2 hN (fun m x hm hx hbx => by
    obtain ⟨k', ls, rfl, rfl, hf⟩ := of_struct Tryz.underlying99 hx
    obtain ⟨a, b, c, d, e, rfl, e1, e2, e3, e4, e5⟩ := flds5 hf
    obtain ⟨y1, rfl, _⟩ := of_string Tryz.underlying9 e1
    obtain ⟨y2, rfl, _⟩ := of_string Tryz.underlying9 e2
    obtain ⟨y3, rfl⟩ := of_bool Tryz.underlying4 e3
    obtain ⟨y4, rfl⟩ := of_bool Tryz.underlying4 e4
    obtain ⟨y5, rfl⟩ := of_bool Tryz.underlying4 e5
    exact ⟨⟨y1, y2, y3, y4, y5⟩, rfl, trivial⟩)
  obtain ⟨p3, l3, rfl, g3, _, _⟩ := of_sl (c := strC) (Q := fun _ => True) Tryz.underlying47 f3 (fun d => by simp [strC]) b3 hN (fun m x hm hx hbx => by
    obtain ⟨y1, rfl, _⟩ := of_string Tryz.underlying9 hx
    exact ⟨y1, rfl, trivial⟩)
  obtain ⟨p4, l4, rfl, g4, _, q4⟩ := of_sl (c := FuncD.cells) (Q := fun y => NodeAt D n y.body ∧ bulks y.body.cells ≤ 16777216) Tryz.underlying50 f4 (fun d => by simp [FuncD.cells]) b4 hN (fun m x hm hx hbx => by
    obtain ⟨k', ls, rfl, rfl, hf⟩ := of_struct Tryz.underlying121 hx
    obtain ⟨a, b, rfl, e1, e2⟩ := flds2 hf
    obtain ⟨y1, rfl, _⟩ := of_string Tryz.underlying9 e1
    have hbb : bulks b ≤ 16777216 := Nat.le_trans (bulks_flatten (by simp)) hbx
    obtain ⟨y2, rfl, hy⟩ := node_of hN (D := D) k' (by omega) b e2 hbb
    exact ⟨⟨y1, y2⟩, by simp [FuncD.cells], hy.mono (by omega), hbb⟩)
  obtain ⟨p5, l5, rfl, g5, _, _⟩ := of_sl (c := AliasD.cells) (Q := fun _ => True) Tryz.underlying51 f5 (fun d => by simp [AliasD.cells]) b5 hN (fun m x hm hx hbx => by
    obtain ⟨k', ls, rfl, rfl, hf⟩ := of_struct Tryz.underlying123 hx
    obtain ⟨a, b, rfl, e1, e2⟩ := flds2 hf
    obtain ⟨y1, rfl, _⟩ := of_string Tryz.underlying9 e1
    obtain ⟨y2, rfl, _⟩ := of_string Tryz.underlying9 e2
    exact ⟨⟨y1, y2⟩, rfl, trivial⟩)
  obtain ⟨p6, l6, rfl, g6, _, _⟩ := of_sl (c := TrapD.cells) (Q := fun _ => True) Tryz.underlying52 f6 (fun d => by simp [TrapD.cells]) b6 hN (fun m x hm hx hbx => by
    obtain ⟨k', ls, rfl, rfl, hf⟩ := of_struct Tryz.underlying101 hx
    obtain ⟨a, b, rfl, e1, e2⟩ := flds2 hf
    obtain ⟨y1, rfl, _⟩ := of_int Tryz.underlying3 e1
    obtain ⟨y2, rfl, _⟩ := of_string Tryz.underlying9 e2
    exact ⟨⟨y1, y2⟩, rfl, trivial⟩)
  obtain ⟨z7, rfl, _⟩ := of_int Tryz.underlying3 f7
  obtain ⟨z8, rfl, _⟩ := of_int Tryz.underlying3 f8
  obtain ⟨z9, rfl, _⟩ := of_int Tryz.underlying3 f9
  obtain ⟨z10, rfl, _⟩ := of_int Tryz.underlying3 f10
  obtain ⟨z11, rfl, _⟩ := of_string Tryz.underlying9 f11
  obtain ⟨k2, ls2, _, rfl, hf2⟩ := of_struct Tryz.underlying54 f12
  obtain ⟨c1, c2, rfl, e1, e2⟩ := flds2 hf2
  obtain ⟨y1, rfl, _⟩ := of_int Tryz.underlying3 e1
  obtain ⟨y2, rfl, _⟩ := of_int Tryz.underlying3 e2
  obtain ⟨z13, rfl, _⟩ := of_int Tryz.underlying3 f13
  obtain ⟨z14, rfl⟩ := of_bool Tryz.underlying4 f14
  refine ⟨⟨z1, p2, p3, p4, p5, p6, z7, z8, z9, z10, z11, y1, y2, z13, z14⟩, l2, l3, l4, l5, l6, rfl, ⟨g2, g3, g4, g5, g6, len_le (fun d => by simp [VarD.cells]) g2 b2, len_le (fun d => by simp [strC]) g3 b3, len_le (fun d => by simp [FuncD.cells]) g4 b4, len_le (fun d => by simp [AliasD.cells]) g5 b5, len_le (fun d => by simp [TrapD.cells]) g6 b6, q4, str_le b1, str_le b11⟩⟩
end Go.Proofs.YtflfflfodghgpaaGreatDoor
