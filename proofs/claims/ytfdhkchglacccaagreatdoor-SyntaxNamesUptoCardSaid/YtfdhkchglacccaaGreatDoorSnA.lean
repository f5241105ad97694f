/- Syntax trees, and the names that a program assigns and uses, in plain Lean. No statement is proved here. -/
import Derived.Sort.Walk0
import Derived.Below
import Derived.Laws.AppendOwn
import Derived.Laws.OwnMore
set_option linter.all false
namespace Go.Mir
/-! layer 7 in plain Lean: what the constructs of a text are -/
def bt (l : List UInt8) (i : Nat) : Nat := (l.getD i 0).toNat
def isLetter (c : Nat) : Bool := decide (97 ≤ c) && decide (c ≤ 122) || decide (65 ≤ c) && decide (c ≤ 90)
def isDigit (c : Nat) : Bool := decide (48 ≤ c) && decide (c ≤ 57)
def isBlank (c : Nat) : Bool := c == 9 || c == 32
def isOpByte (c : Nat) : Bool := c == 38 || c == 124 || c == 59 || c == 40 || c == 41 || c == 60 || c == 62
def isWord (c : Nat) : Bool := isLetter c || isDigit c || c == 95
def isSpecial (c : Nat) : Bool := isDigit c || c == 64 || c == 42 || c == 35 || c == 63 || c == 45 || c == 36 || c == 33
def isExp (l : List UInt8) (a : Nat) : Bool := decide (a + 1 < l.length) && bt l a == 36 && (isWord (bt l (a + 1)) || isSpecial (bt l (a + 1)) || bt l (a + 1) == 123 || bt l (a + 1) == 40)
def joined (l : List UInt8) (i : Nat) : Bool := decide (i + 1 < l.length) && bt l i == 92 && bt l (i + 1) == 10
/-- where a run of bytes isEnd -/
def run (q : Nat → Bool) (l : List UInt8) (i : Nat) : Nat := i + ((l.drop i).takeWhile fun c => q c.toNat).length
def nmEnd (l : List UInt8) (i : Nat) : Nat := run isWord l i
def toByte (l : List UInt8) (c i : Nat) : Nat := run (fun x => x != c) l i
theorem drop_at {l : List UInt8} {i : Nat} (h : i < l.length) : l.drop i = l[i] :: l.drop (i + 1) := List.drop_eq_getElem_cons h
theorem bt_get {l : List UInt8} {i : Nat} (h : i < l.length) : bt l i = (l[i]).toNat := by
  unfold bt; rw [List.getD_eq_getElem?_getD, List.getElem?_eq_getElem h]; rfl
theorem bt_lt (l : List UInt8) (i : Nat) : bt l i < 256 := by unfold bt; exact UInt8.toNat_lt _
theorem run_end {q : Nat → Bool} {l : List UInt8} {i : Nat} (h : l.length ≤ i) : run q l i = i := by
  unfold run; rw [List.drop_eq_nil_of_le h]; rfl
theorem run_on {q : Nat → Bool} {l : List UInt8} {i : Nat} (h : i < l.length) (hq : q (bt l i) = true) : run q l i = run q l (i + 1) := by
  unfold run
  rw [drop_at h, List.takeWhile_cons, if_pos (by rw [← bt_get h]; exact hq), List.length_cons]
  omega
theorem run_off {q : Nat → Bool} {l : List UInt8} {i : Nat} (h : i < l.length) (hq : q (bt l i) = false) : run q l i = i := by
  unfold run
  rw [drop_at h, List.takeWhile_cons, if_neg (by rw [← bt_get h, hq]; simp)]
  rfl
theorem run_ge (q : Nat → Bool) (l : List UInt8) (i : Nat) : i ≤ run q l i := Nat.le_add_right _ _
theorem run_le {q : Nat → Bool} {l : List UInt8} {i : Nat} (h : i ≤ l.length) : run q l i ≤ l.length := by
  unfold run
  have h1 := List.Sublist.length_le (List.takeWhile_sublist (fun c : UInt8 => q c.toNat) (l := l.drop i))
  rw [List.length_drop] at h1
  omega
theorem run_at {q : Nat → Bool} {l : List UInt8} : ∀ (k i : Nat), i + k = l.length → run q l i < l.length → q (bt l (run q l i)) = false := by
  intro k
  induction k with
  | zero => intro i h h2; have := run_ge q l i; omega
  | succ k ih =>
    intro i h h2
    have hi : i < l.length := by omega
    cases hq : q (bt l i) with
    | true => rw [run_on hi hq] at h2 ⊢; exact ih (i + 1) (by omega) h2
    | false => rw [run_off hi hq]; exact hq
/-- what is read: a construct, or what is left of one from an offset on -/
inductive Tag where
  | pass (a p : Nat)
  | exp (a p : Nat)
  | bq (i a : Nat)
  | dbl (i a : Nat)
  | brc (i a p : Nat)
  | cmd (i a o : Nat) (b : Bool)
  | ari (i a o : Nat)
def open2 (c o : Nat) : Nat := if c = 40 then o + 1 else if c = 41 then o - 1 else o
def isBreak (c : Nat) : Bool := isBlank c || c == 10 || isOpByte c
inductive Lx (l : List UInt8) : Tag → Nat → Nat → Prop where
  | p_esc0 {a p} (h : bt l a = 92) (h2 : a + 1 = l.length) : Lx l (.pass a p) a 7
  | p_esc {a p} (h : bt l a = 92) (h2 : a + 1 < l.length) : Lx l (.pass a p) (a + 2) 0
  | p_bq {a p r e} (hl : a < l.length) (h : bt l a = 96) (k : Lx l (.bq (a + 1) a) r e) : Lx l (.pass a p) r e
  | p_exp {a p r e} (h : isExp l a = true) (k : Lx l (.exp a p) r e) : Lx l (.pass a p) r e
  | p_sq {a} (hl : a < l.length) (h : bt l a = 39) (h2 : toByte l 39 (a + 1) < l.length) : Lx l (.pass a 0) (toByte l 39 (a + 1) + 1) 0
  | p_sq0 {a} (hl : a < l.length) (h : bt l a = 39) (h2 : toByte l 39 (a + 1) = l.length) : Lx l (.pass a 0) a 7
  | p_dq {a r e} (hl : a < l.length) (h : bt l a = 34) (k : Lx l (.dbl (a + 1) a) r e) : Lx l (.pass a 0) r e
  | p_one {a p} (hl : a < l.length) (h1 : bt l a ≠ 92) (h2 : bt l a ≠ 96) (h3 : isExp l a = false) (h4 : p = 0 → bt l a ≠ 39 ∧ bt l a ≠ 34) : Lx l (.pass a p) (a + 1) 0
  | e_brc {a p r e} (h : bt l (a + 1) = 123) (k : Lx l (.brc (a + 2) a p) r e) : Lx l (.exp a p) r e
  | e_ari {a p r e} (h : bt l (a + 1) = 40) (h2 : a + 2 < l.length) (h3 : bt l (a + 2) = 40) (k : Lx l (.ari (a + 3) a 0) r e) : Lx l (.exp a p) r e
  | e_cmd {a p r e} (h : bt l (a + 1) = 40) (h2 : a + 2 < l.length → bt l (a + 2) ≠ 40) (k : Lx l (.cmd (a + 2) a 1 true) r e) : Lx l (.exp a p) r e
  | e_sp {a p} (h : isSpecial (bt l (a + 1)) = true) : Lx l (.exp a p) (a + 2) 0
  | e_nm {a p} (h : bt l (a + 1) ≠ 123) (h2 : bt l (a + 1) ≠ 40) (h3 : isSpecial (bt l (a + 1)) = false) : Lx l (.exp a p) (nmEnd l (a + 1)) 0
  | b_end {a} : Lx l (.bq l.length a) a 7
  | b_q {i a} (hl : i < l.length) (h : bt l i = 96) : Lx l (.bq i a) (i + 1) 0
  | b_esc0 {i a} (h : bt l i = 92) (h2 : i + 1 = l.length) : Lx l (.bq i a) i 7
  | b_esc {i a r e} (h : bt l i = 92) (h2 : i + 1 < l.length) (k : Lx l (.bq (i + 2) a) r e) : Lx l (.bq i a) r e
  | b_one {i a r e} (hl : i < l.length) (h : bt l i ≠ 96) (h2 : bt l i ≠ 92) (k : Lx l (.bq (i + 1) a) r e) : Lx l (.bq i a) r e
  | d_end {a} : Lx l (.dbl l.length a) a 7
  | d_q {i a} (hl : i < l.length) (h : bt l i = 34) : Lx l (.dbl i a) (i + 1) 0
  | d_err {i a r e} (hl : i < l.length) (h : bt l i ≠ 34) (k : Lx l (.pass i 1) r e) (he : e ≠ 0) : Lx l (.dbl i a) r e
  | d_on {i a j r e} (hl : i < l.length) (h : bt l i ≠ 34) (k : Lx l (.pass i 1) j 0) (k2 : Lx l (.dbl j a) r e) : Lx l (.dbl i a) r e
  | r_end {a p} : Lx l (.brc l.length a p) a 7
  | r_q {i a p} (hl : i < l.length) (h : bt l i = 125) : Lx l (.brc i a p) (i + 1) 0
  | r_bad {i a} (hl : i < l.length) (h : bt l i = 34) : Lx l (.brc i a 1) i 6
  | r_err {i a p r e} (hl : i < l.length) (h : bt l i ≠ 125) (h2 : p = 1 → bt l i ≠ 34) (k : Lx l (.pass i p) r e) (he : e ≠ 0) : Lx l (.brc i a p) r e
  | r_on {i a p j r e} (hl : i < l.length) (h : bt l i ≠ 125) (h2 : p = 1 → bt l i ≠ 34) (k : Lx l (.pass i p) j 0) (k2 : Lx l (.brc j a p) r e) : Lx l (.brc i a p) r e
  | c_end {a o b} : Lx l (.cmd l.length a o b) a 7
  | c_cmt {i a o r e} (hl : i < l.length) (h : bt l i = 35) (k : Lx l (.cmd (toByte l 10 i) a o true) r e) : Lx l (.cmd i a o true) r e
  | c_join {i a o b r e} (h : joined l i = true) (k : Lx l (.cmd (i + 2) a o b) r e) : Lx l (.cmd i a o b) r e
  | c_q {i a b} (hl : i < l.length) (h : bt l i = 41) : Lx l (.cmd i a 1 b) (i + 1) 0
  | c_err {i a o b r e} (hl : i < l.length) (h : b = true → bt l i ≠ 35) (h2 : joined l i = false) (h3 : bt l i = 41 → o ≠ 1) (k : Lx l (.pass i 0) r e) (he : e ≠ 0) : Lx l (.cmd i a o b) r e
  | c_on {i a o b j r e} (hl : i < l.length) (h : b = true → bt l i ≠ 35) (h2 : joined l i = false) (h3 : bt l i = 41 → o ≠ 1) (k : Lx l (.pass i 0) j 0) (k2 : Lx l (.cmd j a (open2 (bt l i) o) (isBreak (bt l i))) r e) : Lx l (.cmd i a o b) r e
  | a_end {a o} : Lx l (.ari l.length a o) a 7
  | a_q0 {i a} (h : bt l i = 41) (h2 : i + 1 = l.length) : Lx l (.ari i a 0) a 7
  | a_q {i a} (h : bt l i = 41) (h2 : i + 1 < l.length) (h3 : bt l (i + 1) = 41) : Lx l (.ari i a 0) (i + 2) 0
  | a_bad {i a} (h : bt l i = 41) (h2 : i + 1 < l.length) (h3 : bt l (i + 1) ≠ 41) : Lx l (.ari i a 0) i 6
  | a_err {i a o r e} (hl : i < l.length) (h : bt l i = 41 → o ≠ 0) (k : Lx l (.pass i 2) r e) (he : e ≠ 0) : Lx l (.ari i a o) r e
  | a_on {i a o j r e} (hl : i < l.length) (h : bt l i = 41 → o ≠ 0) (k : Lx l (.pass i 2) j 0) (k2 : Lx l (.ari j a (open2 (bt l i) o)) r e) : Lx l (.ari i a o) r e
/-- where a reading isBreak, and what its end is bounded by -/
def Tag.at : Tag → Nat
  | .pass a _ | .exp a _ => a
  | .bq i _ | .dbl i _ | .brc i _ _ | .cmd i _ _ _ | .ari i _ _ => i
theorem isExp_lt {l : List UInt8} {a : Nat} (h : isExp l a = true) : a + 1 < l.length := by
  unfold isExp at h; simp at h; exact h.1.1
theorem isExp_d {l : List UInt8} {a : Nat} (h : isExp l a = true) : bt l a = 36 := by
  unfold isExp at h; simp at h; exact h.1.2
theorem joined_lt {l : List UInt8} {a : Nat} (h : joined l a = true) : a + 1 < l.length := by
  unfold joined at h; simp at h; exact h.1.1
theorem joined_d {l : List UInt8} {a : Nat} (h : joined l a = true) : bt l a = 92 ∧ bt l (a + 1) = 10 := by
  unfold joined at h; simp at h; exact ⟨h.1.2, h.2⟩
end Go.Mir
namespace Go.Mir
theorem nmEnd_gt {l : List UInt8} {a : Nat} (h : isExp l a = true) (h1 : bt l (a + 1) ≠ 123) (h2 : bt l (a + 1) ≠ 40) (h3 : isSpecial (bt l (a + 1)) = false) : a + 2 ≤ nmEnd l (a + 1) := by
  have hl := isExp_lt h
  unfold isExp at h
  simp [h3, h1, h2] at h
  unfold nmEnd
  rw [run_on hl h.2]
  exact run_ge _ _ _
def Tag.ok (l : List UInt8) : Tag → Prop
  | .pass a _ => a < l.length
  | .exp a _ => isExp l a = true
  | .bq i a | .dbl i a | .brc i a _ | .cmd i a _ _ | .ari i a _ => i ≤ l.length ∧ a < l.length
def Tag.size (l : List UInt8) : Tag → Nat
  | .pass a _ => 3 * (l.length - a) + 1
  | .exp a _ => 3 * (l.length - a)
  | .bq i _ | .dbl i _ | .brc i _ _ | .cmd i _ _ _ | .ari i _ _ => 3 * (l.length - i) + 2
/-- where a reading isEnd -/
theorem Lx.bound {l : List UInt8} {t : Tag} {r e : Nat} (h : Lx l t r e) : t.ok l → r ≤ l.length ∧ (e = 0 → t.at < r) := by
  induction h with
  | p_esc0 h h2 => intro ok; exact ⟨by omega, by omega⟩
  | p_esc h h2 => intro ok; exact ⟨by omega, fun _ => by simp only [Tag.at]; omega⟩
  | p_bq hl h k ih => intro ok; have := ih ⟨by omega, hl⟩; exact ⟨this.1, fun h => by have := this.2 h; simp only [Tag.at] at this ⊢; omega⟩
  | p_exp h k ih => intro ok; exact ih h
  | @p_sq a hl h h2 => intro ok; have := run_ge (fun x => x != 39) l (a + 1); exact ⟨by omega, fun _ => by simp only [Tag.at]; unfold toByte; exact Nat.lt_succ_of_le (Nat.le_trans (Nat.le_succ _) this)⟩
  | p_sq0 hl h h2 => intro ok; exact ⟨by omega, by omega⟩
  | p_dq hl h k ih => intro ok; have := ih ⟨by omega, hl⟩; exact ⟨this.1, fun h => by have := this.2 h; simp only [Tag.at] at this ⊢; omega⟩
  | p_one hl _ _ _ _ => intro ok; exact ⟨by omega, fun _ => by simp only [Tag.at]; omega⟩
  | e_brc h k ih => intro ok; have hl := isExp_lt ok; have := ih ⟨by omega, by omega⟩; exact ⟨this.1, fun h => by have := this.2 h; simp only [Tag.at] at this ⊢; omega⟩
  | e_ari h h2 h3 k ih => intro ok; have hl := isExp_lt ok; have := ih ⟨by omega, by omega⟩; exact ⟨this.1, fun h => by have := this.2 h; simp only [Tag.at] at this ⊢; omega⟩
  | e_cmd h h2 k ih => intro ok; have hl := isExp_lt ok; have := ih ⟨by omega, by omega⟩; exact ⟨this.1, fun h => by have := this.2 h; simp only [Tag.at] at this ⊢; omega⟩
  | e_sp h => intro ok; have hl := isExp_lt ok; exact ⟨by omega, fun _ => by simp only [Tag.at]; omega⟩
  | e_nm h h2 h3 => intro ok; have hl := isExp_lt ok; have := nmEnd_gt ok h h2 h3; exact ⟨run_le (by omega), fun _ => by simp only [Tag.at]; omega⟩
  | b_end => intro ok; exact ⟨by have := ok.2; omega, by omega⟩
  | b_q hl h => intro ok; exact ⟨by omega, fun _ => by simp only [Tag.at]; omega⟩
  | b_esc0 h h2 => intro ok; exact ⟨by omega, by omega⟩
  | b_esc h h2 k ih => intro ok; have := ih ⟨by omega, ok.2⟩; exact ⟨this.1, fun h => by have := this.2 h; simp only [Tag.at] at this ⊢; omega⟩
  | b_one hl h h2 k ih => intro ok; have := ih ⟨by omega, ok.2⟩; exact ⟨this.1, fun h => by have := this.2 h; simp only [Tag.at] at this ⊢; omega⟩
  | d_end => intro ok; exact ⟨by have := ok.2; omega, by omega⟩
  | d_q hl h => intro ok; exact ⟨by omega, fun _ => by simp only [Tag.at]; omega⟩
  | d_err hl h k he ih => intro ok; exact ⟨(ih hl).1, fun h => absurd h he⟩
  | d_on hl h k k2 ih ih2 => intro ok; have h1 := ih hl; have h3 := h1.2 rfl; have := ih2 ⟨h1.1, ok.2⟩; exact ⟨this.1, fun h => by have := this.2 h; simp only [Tag.at] at this h3 ⊢; omega⟩
  | r_end => intro ok; exact ⟨by have := ok.2; omega, by omega⟩
  | r_q hl h => intro ok; exact ⟨by omega, fun _ => by simp only [Tag.at]; omega⟩
  | r_bad hl h => intro ok; exact ⟨by omega, by omega⟩
  | r_err hl h h2 k he ih => intro ok; exact ⟨(ih hl).1, fun h => absurd h he⟩
  | r_on hl h h2 k k2 ih ih2 => intro ok; have h1 := ih hl; have h3 := h1.2 rfl; have := ih2 ⟨h1.1, ok.2⟩; exact ⟨this.1, fun h => by have := this.2 h; simp only [Tag.at] at this h3 ⊢; omega⟩
  | c_end => intro ok; exact ⟨by have := ok.2; omega, by omega⟩
  | @c_cmt i a o r e hl h k ih => intro ok; have h1 := run_ge (fun x => x != 10) l i; have := ih ⟨run_le (by omega), ok.2⟩; exact ⟨this.1, fun h => by have := this.2 h; simp only [Tag.at, toByte] at this ⊢; omega⟩
  | c_join h k ih => intro ok; have hl := joined_lt h; have := ih ⟨by omega, ok.2⟩; exact ⟨this.1, fun h => by have := this.2 h; simp only [Tag.at] at this ⊢; omega⟩
  | c_q hl h => intro ok; exact ⟨by omega, fun _ => by simp only [Tag.at]; omega⟩
  | c_err hl h h2 h3 k he ih => intro ok; exact ⟨(ih hl).1, fun h => absurd h he⟩
  | c_on hl h h2 h3 k k2 ih ih2 => intro ok; have h1 := ih hl; have h3 := h1.2 rfl; have := ih2 ⟨h1.1, ok.2⟩; exact ⟨this.1, fun h => by have := this.2 h; simp only [Tag.at] at this h3 ⊢; omega⟩
  | a_end => intro ok; exact ⟨by have := ok.2; omega, by omega⟩
  | a_q0 h h2 => intro ok; exact ⟨by have := ok.2; omega, by omega⟩
  | a_q h h2 h3 => intro ok; exact ⟨by omega, fun _ => by simp only [Tag.at]; omega⟩
  | a_bad h h2 h3 => intro ok; exact ⟨by omega, by omega⟩
  | a_err hl h k he ih => intro ok; exact ⟨(ih hl).1, fun h => absurd h he⟩
  | a_on hl h k k2 ih ih2 => intro ok; have h1 := ih hl; have h3 := h1.2 rfl; have := ih2 ⟨h1.1, ok.2⟩; exact ⟨this.1, fun h => by have := this.2 h; simp only [Tag.at] at this h3 ⊢; omega⟩
/-- every reading isEnd -/
theorem Lx.total (l : List UInt8) : ∀ (m : Nat) (t : Tag), t.size l < m → t.ok l → ∃ r e, Lx l t r e := by
  intro m
  induction m with
  | zero => intro t h; omega
  | succ m ih =>
    intro t hm ok
    cases t with
    | pass a p =>
      simp only [Tag.size, Tag.ok] at hm ok
      by_cases h1 : bt l a = 92
      · by_cases h2 : a + 1 = l.length
        · exact ⟨_, _, .p_esc0 h1 h2⟩
        · exact ⟨_, _, .p_esc h1 (by omega)⟩
      by_cases h2 : bt l a = 96
      · obtain ⟨r, e, k⟩ := ih (.bq (a + 1) a) (by simp only [Tag.size]; omega) ⟨by omega, ok⟩
        exact ⟨r, e, .p_bq ok h2 k⟩
      cases h3 : isExp l a with
      | true =>
        obtain ⟨r, e, k⟩ := ih (.exp a p) (by simp only [Tag.size]; omega) h3
        exact ⟨r, e, .p_exp h3 k⟩
      | false =>
        by_cases hp : p = 0
        · subst hp
          by_cases h4 : bt l a = 39
          · have := run_le (q := fun x => x != 39) (l := l) (i := a + 1) (by omega)
            by_cases h5 : toByte l 39 (a + 1) = l.length
            · exact ⟨_, _, .p_sq0 ok h4 h5⟩
            · exact ⟨_, _, .p_sq ok h4 (by unfold toByte at h5 ⊢; omega)⟩
          by_cases h5 : bt l a = 34
          · obtain ⟨r, e, k⟩ := ih (.dbl (a + 1) a) (by simp only [Tag.size]; omega) ⟨by omega, ok⟩
            exact ⟨r, e, .p_dq ok h5 k⟩
          · exact ⟨_, _, .p_one ok h1 h2 h3 fun _ => ⟨h4, h5⟩⟩
        · exact ⟨_, _, .p_one ok h1 h2 h3 fun h => absurd h hp⟩
    | exp a p =>
      simp only [Tag.size, Tag.ok] at hm ok
      have hl := isExp_lt ok
      by_cases h1 : bt l (a + 1) = 123
      · obtain ⟨r, e, k⟩ := ih (.brc (a + 2) a p) (by simp only [Tag.size]; omega) ⟨by omega, by omega⟩
        exact ⟨r, e, .e_brc h1 k⟩
      by_cases h2 : bt l (a + 1) = 40
      · by_cases h3 : a + 2 < l.length ∧ bt l (a + 2) = 40
        · obtain ⟨r, e, k⟩ := ih (.ari (a + 3) a 0) (by simp only [Tag.size]; omega) ⟨by omega, by omega⟩
          exact ⟨r, e, .e_ari h2 h3.1 h3.2 k⟩
        · obtain ⟨r, e, k⟩ := ih (.cmd (a + 2) a 1 true) (by simp only [Tag.size]; omega) ⟨by omega, by omega⟩
          exact ⟨r, e, .e_cmd h2 (fun h h' => h3 ⟨h, h'⟩) k⟩
      cases h3 : isSpecial (bt l (a + 1)) with
      | true => exact ⟨_, _, .e_sp h3⟩
      | false => exact ⟨_, _, .e_nm h1 h2 h3⟩
    | bq i a =>
      simp only [Tag.size, Tag.ok] at hm ok
      by_cases hi : i = l.length
      · subst hi; exact ⟨_, _, .b_end⟩
      by_cases h1 : bt l i = 96
      · exact ⟨_, _, .b_q (by omega) h1⟩
      by_cases h2 : bt l i = 92
      · by_cases h3 : i + 1 = l.length
        · exact ⟨_, _, .b_esc0 h2 h3⟩
        · obtain ⟨r, e, k⟩ := ih (.bq (i + 2) a) (by simp only [Tag.size]; omega) ⟨by omega, ok.2⟩
          exact ⟨r, e, .b_esc h2 (by omega) k⟩
      · obtain ⟨r, e, k⟩ := ih (.bq (i + 1) a) (by simp only [Tag.size]; omega) ⟨by omega, ok.2⟩
        exact ⟨r, e, .b_one (by omega) h1 h2 k⟩
    | dbl i a =>
      simp only [Tag.size, Tag.ok] at hm ok
      by_cases hi : i = l.length
      · subst hi; exact ⟨_, _, .d_end⟩
      have hl : i < l.length := by omega
      by_cases h1 : bt l i = 34
      · exact ⟨_, _, .d_q hl h1⟩
      obtain ⟨j, e, k⟩ := ih (.pass i 1) (by simp only [Tag.size]; omega) hl
      by_cases he : e = 0
      · subst he
        have hb := k.bound hl
        have hj := hb.2 rfl
        simp only [Tag.at] at hj
        obtain ⟨r, e, k2⟩ := ih (.dbl j a) (by simp only [Tag.size]; omega) ⟨hb.1, ok.2⟩
        exact ⟨r, e, .d_on hl h1 k k2⟩
      · exact ⟨_, _, .d_err hl h1 k he⟩
    | brc i a p =>
      simp only [Tag.size, Tag.ok] at hm ok
      by_cases hi : i = l.length
      · subst hi; exact ⟨_, _, .r_end⟩
      have hl : i < l.length := by omega
      by_cases h1 : bt l i = 125
      · exact ⟨_, _, .r_q hl h1⟩
      by_cases h2 : p = 1 ∧ bt l i = 34
      · obtain ⟨rfl, h2⟩ := h2
        exact ⟨_, _, .r_bad hl h2⟩
      obtain ⟨j, e, k⟩ := ih (.pass i p) (by simp only [Tag.size]; omega) hl
      by_cases he : e = 0
      · subst he
        have hb := k.bound hl
        have hj := hb.2 rfl
        simp only [Tag.at] at hj
        obtain ⟨r, e, k2⟩ := ih (.brc j a p) (by simp only [Tag.size]; omega) ⟨hb.1, ok.2⟩
        exact ⟨r, e, .r_on hl h1 (fun h h' => h2 ⟨h, h'⟩) k k2⟩
      · exact ⟨_, _, .r_err hl h1 (fun h h' => h2 ⟨h, h'⟩) k he⟩
    | cmd i a o b =>
      simp only [Tag.size, Tag.ok] at hm ok
      by_cases hi : i = l.length
      · subst hi; exact ⟨_, _, .c_end⟩
      have hl : i < l.length := by omega
      by_cases h1 : b = true ∧ bt l i = 35
      · obtain ⟨rfl, h1⟩ := h1
        have hq : (fun x => x != 10) (bt l i) = true := by rw [h1]; rfl
        have e1 : toByte l 10 i = toByte l 10 (i + 1) := run_on hl hq
        have g1 := run_ge (fun x => x != 10) l (i + 1)
        have g2 := run_le (q := fun x => x != 10) (l := l) (i := i) (by omega)
        have g1' : i + 1 ≤ toByte l 10 i := by rw [e1]; exact g1
        have g2' : toByte l 10 i ≤ l.length := g2
        obtain ⟨r, e, k⟩ := ih (.cmd (toByte l 10 i) a o true) (by simp only [Tag.size]; omega) ⟨g2', ok.2⟩
        exact ⟨r, e, .c_cmt hl h1 k⟩
      cases h2 : joined l i with
      | true =>
        have := joined_lt h2
        obtain ⟨r, e, k⟩ := ih (.cmd (i + 2) a o b) (by simp only [Tag.size]; omega) ⟨by omega, ok.2⟩
        exact ⟨r, e, .c_join h2 k⟩
      | false =>
        by_cases h3 : bt l i = 41 ∧ o = 1
        · obtain ⟨h3, rfl⟩ := h3
          exact ⟨_, _, .c_q hl h3⟩
        obtain ⟨j, e, k⟩ := ih (.pass i 0) (by simp only [Tag.size]; omega) hl
        by_cases he : e = 0
        · subst he
          have hb := k.bound hl
          have hj := hb.2 rfl
          simp only [Tag.at] at hj
          obtain ⟨r, e, k2⟩ := ih (.cmd j a (open2 (bt l i) o) (isBreak (bt l i))) (by simp only [Tag.size]; omega) ⟨hb.1, ok.2⟩
          exact ⟨r, e, .c_on hl (fun h h' => h1 ⟨h, h'⟩) h2 (fun h h' => h3 ⟨h, h'⟩) k k2⟩
        · exact ⟨_, _, .c_err hl (fun h h' => h1 ⟨h, h'⟩) h2 (fun h h' => h3 ⟨h, h'⟩) k he⟩
    | ari i a o =>
      simp only [Tag.size, Tag.ok] at hm ok
      by_cases hi : i = l.length
      · subst hi; exact ⟨_, _, .a_end⟩
      have hl : i < l.length := by omega
      by_cases h1 : bt l i = 41 ∧ o = 0
      · obtain ⟨h1, rfl⟩ := h1
        by_cases h2 : i + 1 = l.length
        · exact ⟨_, _, .a_q0 h1 h2⟩
        by_cases h3 : bt l (i + 1) = 41
        · exact ⟨_, _, .a_q h1 (by omega) h3⟩
        · exact ⟨_, _, .a_bad h1 (by omega) h3⟩
      obtain ⟨j, e, k⟩ := ih (.pass i 2) (by simp only [Tag.size]; omega) hl
      by_cases he : e = 0
      · subst he
        have hb := k.bound hl
        have hj := hb.2 rfl
        simp only [Tag.at] at hj
        obtain ⟨r, e, k2⟩ := ih (.ari j a (open2 (bt l i) o)) (by simp only [Tag.size]; omega) ⟨hb.1, ok.2⟩
        exact ⟨r, e, .a_on hl (fun h h' => h1 ⟨h, h'⟩) k k2⟩
      · exact ⟨_, _, .a_err hl (fun h h' => h1 ⟨h, h'⟩) k he⟩
end Go.Mir

namespace Go.Mir
/-! names, in plain Lean -/
def nameB (t : List UInt8) : Bool := !t.isEmpty && decide (t.length ≤ 32) && !isDigit (bt t 0) && t.all fun c => isWord c.toNat
def cutN (t : List UInt8) : List UInt8 × List UInt8 × Bool := if toByte t 61 0 < t.length then (t.take (toByte t 61 0), t.drop (toByte t 61 0 + 1), true) else (t, [], false)
end Go.Mir

/-! syntax trees, in plain Lean: each slice with the header under which it lies in memory -/
namespace Go.Syn
open Go
/-- the header of a slice: where it lies, its capacity -/
abbrev Hd := Option Addr × Nat
inductive PartT where
  | mk (kind : Int) (text : List UInt8) (op : Int) (colon : Bool) (h : Hd) (parts : List PartT)
namespace PartT
def kind : PartT → Int | mk k _ _ _ _ _ => k
def text : PartT → List UInt8 | mk _ t _ _ _ _ => t
def op : PartT → Int | mk _ _ o _ _ _ => o
def colon : PartT → Bool | mk _ _ _ c _ _ => c
def h : PartT → Hd | mk _ _ _ _ h _ => h
def parts : PartT → List PartT | mk _ _ _ _ _ l => l
end PartT
structure WordT where
  pos : Int
  h : Hd
  parts : List PartT
structure AssignT where
  pos : Int
  name : List UInt8
  w : WordT
structure RedirT where
  pos : Int
  fd : Int
  op : Int
  w : WordT
/-- a branch of a case command, but for its body -/
structure ItemH where
  ph : Hd
  pats : List WordT
  bh : Hd
inductive NodeT where
  | mk (kind pos : Int) (name : List UInt8) (all : Bool) (ah : Hd) (assigns : List AssignT) (wh : Hd) (words : List WordT) (rh : Hd) (redirs : List RedirT) (kh : Hd) (kids : List NodeT) (ih : Hd) (items : List (ItemH × List NodeT))
namespace NodeT
def kind : NodeT → Int | mk k _ _ _ _ _ _ _ _ _ _ _ _ _ => k
def pos : NodeT → Int | mk _ p _ _ _ _ _ _ _ _ _ _ _ _ => p
def name : NodeT → List UInt8 | mk _ _ n _ _ _ _ _ _ _ _ _ _ _ => n
def all : NodeT → Bool | mk _ _ _ a _ _ _ _ _ _ _ _ _ _ => a
def ah : NodeT → Hd | mk _ _ _ _ h _ _ _ _ _ _ _ _ _ => h
def assigns : NodeT → List AssignT | mk _ _ _ _ _ l _ _ _ _ _ _ _ _ => l
def wh : NodeT → Hd | mk _ _ _ _ _ _ h _ _ _ _ _ _ _ => h
def words : NodeT → List WordT | mk _ _ _ _ _ _ _ l _ _ _ _ _ _ => l
def rh : NodeT → Hd | mk _ _ _ _ _ _ _ _ h _ _ _ _ _ => h
def redirs : NodeT → List RedirT | mk _ _ _ _ _ _ _ _ _ l _ _ _ _ => l
def kh : NodeT → Hd | mk _ _ _ _ _ _ _ _ _ _ h _ _ _ => h
def kids : NodeT → List NodeT | mk _ _ _ _ _ _ _ _ _ _ _ l _ _ => l
def ih : NodeT → Hd | mk _ _ _ _ _ _ _ _ _ _ _ _ h _ => h
def items : NodeT → List (ItemH × List NodeT) | mk _ _ _ _ _ _ _ _ _ _ _ _ _ l => l
end NodeT
def slV (h : Hd) (n : Nat) : Value := .slice h.1 n h.2
def encP (p : PartT) : List Value := [.int .i64 p.kind, .string ⟨p.text.toArray⟩, .int .i64 p.op, .bool p.colon, slV p.h p.parts.length]
def encW (w : WordT) : List Value := [.int .i64 w.pos, slV w.h w.parts.length]
def encA (a : AssignT) : List Value := [.int .i64 a.pos, .string ⟨a.name.toArray⟩, .int .i64 a.w.pos, slV a.w.h a.w.parts.length]
def encR (r : RedirT) : List Value := [.int .i64 r.pos, .int .i64 r.fd, .int .i64 r.op, .int .i64 r.w.pos, slV r.w.h r.w.parts.length]
def encI (i : ItemH × List NodeT) : List Value := [slV i.1.ph i.1.pats.length, slV i.1.bh i.2.length]
def encN (n : NodeT) : List Value := [.int .i64 n.kind, .int .i64 n.pos, .string ⟨n.name.toArray⟩, .bool n.all, slV n.ah n.assigns.length, slV n.wh n.words.length, slV n.rh n.redirs.length, slV n.kh n.kids.length, slV n.ih n.items.length]
/-- a slice of structs of k cells each, read as a list -/
def RdS {α : Type} (k : Nat) (enc : α → List Value) (w : World) (ao : Option Addr) (l : List α) : Prop := ∀ i x, l[i]? = some x → ∃ b o, ao = some ⟨b, o, none⟩ ∧ b < w.heap.size ∧ ∀ j u, (enc x)[j]? = some u → w.cell? ⟨b, o + i * k + j, none⟩ = some u
/-- parts that lie in a world, with all that is nested in them -/
inductive DeepP (w : World) : Hd → List PartT → Prop where
  | mk (h : Hd) (l : List PartT) (h1 : RdS 5 encP w h.1 l) (h2 : ∀ p ∈ l, DeepP w p.h p.parts) : DeepP w h l
structure DeepW (w : World) (h : Hd) (l : List WordT) : Prop where
  rd : RdS 2 encW w h.1 l
  sub : ∀ x ∈ l, DeepP w x.h x.parts
structure DeepA (w : World) (h : Hd) (l : List AssignT) : Prop where
  rd : RdS 4 encA w h.1 l
  sub : ∀ x ∈ l, DeepP w x.w.h x.w.parts
structure DeepR (w : World) (h : Hd) (l : List RedirT) : Prop where
  rd : RdS 5 encR w h.1 l
  sub : ∀ x ∈ l, DeepP w x.w.h x.w.parts
/-- what lies behind a node -/
inductive DeepN (w : World) : NodeT → Prop where
  | mk (n : NodeT) (ha : DeepA w n.ah n.assigns) (hw : DeepW w n.wh n.words) (hr : DeepR w n.rh n.redirs) (hk : RdS 9 encN w n.kh.1 n.kids) (hks : ∀ k ∈ n.kids, DeepN w k)
      (hi : RdS 2 encI w n.ih.1 n.items) (hip : ∀ i ∈ n.items, DeepW w i.1.ph i.1.pats) (hib : ∀ i ∈ n.items, RdS 9 encN w i.1.bh.1 i.2) (his : ∀ i ∈ n.items, ∀ k ∈ i.2, DeepN w k) (hc : n.kids.length ≤ n.kh.2 ∧ n.words.length ≤ n.wh.2) : DeepN w n
end Go.Syn

/-! the names that a program assigns and uses, in plain Lean -/
namespace Go.Syn
open Go Go.Mir
def kidsT (n : NodeT) : List NodeT := n.kids ++ n.items.flatMap (·.2)
def wordsT (n : NodeT) : List WordT := n.assigns.map (·.w) ++ n.words ++ n.redirs.map (·.w) ++ n.items.flatMap (·.1.pats)
theorem kid_lt {n k : NodeT} (h : k ∈ kidsT n) : SizeOf.sizeOf k < SizeOf.sizeOf n := by
  obtain ⟨kind, pos, name, all, ah, assigns, wh, words, rh, redirs, kh, kids, ih, items⟩ := n
  simp only [kidsT, NodeT.kids, NodeT.items, List.mem_append, List.mem_flatMap] at h
  rcases h with h | ⟨i, hi, h⟩
  · have := List.sizeOf_lt_of_mem h
    simp only [NodeT.mk.sizeOf_spec]; omega
  · have h1 := List.sizeOf_lt_of_mem h
    have h2 := List.sizeOf_lt_of_mem hi
    obtain ⟨a, b⟩ := i
    simp only [NodeT.mk.sizeOf_spec, Prod.mk.sizeOf_spec] at h1 h2 ⊢; omega
theorem part_lt {p : PartT} {q : PartT} (h : q ∈ p.parts) : SizeOf.sizeOf q < SizeOf.sizeOf p := by
  obtain ⟨kind, text, op, colon, hd, parts⟩ := p
  have := List.sizeOf_lt_of_mem (show q ∈ parts from h)
  simp only [PartT.mk.sizeOf_spec]; omega
/-- all nodes of a node, in preorder -/
def walkF : Nat → NodeT → List NodeT
  | 0, _ => []
  | f + 1, n => n :: (kidsT n).flatMap (walkF f)
/-- the texts that lie directly in an arithmetic expansion, cut at what is no word -/
def runsF : Nat → List UInt8 → List (List UInt8)
  | 0, _ => []
  | f + 1, t =>
    let u := t.dropWhile fun c => !isWord c.toNat
    if u = [] then [] else u.takeWhile (fun c => isWord c.toNat) :: runsF f (u.dropWhile fun c => isWord c.toNat)
def runsT (t : List UInt8) : List (List UInt8) := runsF (t.length + 1) t
def calcN (p : PartT) : List (List UInt8) := p.parts.flatMap fun q => if q.kind = 1 then (runsT q.text).filter nameB else []
def setsB (p : PartT) : Bool := p.parts.any fun q => decide (q.kind = 1) && q.text.contains 61
/-- what the parts of a word assign -/
def asgF : Nat → List PartT → List (List UInt8)
  | 0, _ => []
  | f + 1, l => l.flatMap fun p => (if p.kind = 4 ∧ p.op = 2 ∧ nameB p.text = true then [p.text] else []) ++ ((if p.kind = 6 ∧ setsB p = true then calcN p else []) ++ asgF f p.parts)
/-- the parameters that the parts of a word name -/
def parF : Nat → List PartT → List (List UInt8)
  | 0, _ => []
  | f + 1, l => l.flatMap fun p => (if p.kind = 4 then [p.text] else []) ++ parF f p.parts
/-- the names in the arithmetic expansions of a word -/
def ariF : Nat → List PartT → List (List UInt8)
  | 0, _ => []
  | f + 1, l => l.flatMap fun p => (if p.kind = 6 then calcN p else []) ++ ariF f p.parts
/-- both, as the reference meets them -/
def useF : Nat → List PartT → List (List UInt8)
  | 0, _ => []
  | f + 1, l => l.flatMap fun p => (if p.kind = 4 then [p.text] else []) ++ ((if p.kind = 6 then calcN p else []) ++ useF f p.parts)
theorem use_mem (x : List UInt8) : ∀ (f : Nat) (l : List PartT), x ∈ useF f l ↔ x ∈ parF f l ++ ariF f l
  | 0, l => by simp [useF, parF, ariF]
  | f + 1, l => by
    simp only [useF, parF, ariF, List.mem_append, List.mem_flatMap]
    constructor
    · rintro ⟨p, hp, h⟩
      rcases h with h | h | h
      · exact .inl ⟨p, hp, .inl h⟩
      · exact .inr ⟨p, hp, .inl h⟩
      · rcases List.mem_append.1 ((use_mem x f p.parts).1 h) with h | h
        · exact .inl ⟨p, hp, .inr h⟩
        · exact .inr ⟨p, hp, .inr h⟩
    · rintro (⟨p, hp, h⟩ | ⟨p, hp, h⟩)
      · rcases h with h | h
        · exact ⟨p, hp, .inl h⟩
        · exact ⟨p, hp, .inr (.inr ((use_mem x f p.parts).2 (List.mem_append.2 (.inl h))))⟩
      · rcases h with h | h
        · exact ⟨p, hp, .inr (.inl h)⟩
        · exact ⟨p, hp, .inr (.inr ((use_mem x f p.parts).2 (List.mem_append.2 (.inr h))))⟩
/-- a word that is one plain text -/
def litT (w : WordT) : Option (List UInt8) := match w.parts with
  | [p] => if p.kind = 1 then some p.text else none
  | _ => none
/-- the literal value of parts -/
def litP : List PartT → Option (List UInt8)
  | [] => some []
  | p :: l =>
    if p.kind = 1 ∨ p.kind = 2 then (litP l).map (p.text ++ ·)
    else if p.kind = 3 then (if p.parts.all (fun q => decide (q.kind = 1)) = true then (litP l).map (p.parts.flatMap (·.text) ++ ·) else none)
    else none
def cutE (t : List UInt8) : List UInt8 := t.takeWhile fun c => c != 61
def takesL (s : List UInt8) : Bool := s == [101, 120, 112, 111, 114, 116] || s == [103, 101, 116, 111, 112, 116, 115] || s == [114, 101, 97, 100] || s == [114, 101, 97, 100, 111, 110, 108, 121] || s == [117, 110, 115, 101, 116]
def operT (n : NodeT) : List (List UInt8) := match n.words with
  | [] => []
  | w :: r => if (litT w).any takesL = true then r.flatMap fun x => match litP x.parts with
      | some v => if nameB (cutE v) = true then [cutE v] else []
      | none => [] else []
def asgN (f : Nat) (n : NodeT) : List (List UInt8) :=
  n.assigns.map (·.name) ++ ((if n.kind = 13 then [n.name] else []) ++ ((wordsT n).flatMap (fun w => asgF f w.parts) ++ (if n.kind = 1 then operT n else [])))
def useN (f : Nat) (n : NodeT) : List (List UInt8) := (wordsT n).flatMap fun w => useF f w.parts
/-- a sorted list without repeats -/
def addS (x : List UInt8) : List (List UInt8) → List (List UInt8)
  | [] => [x]
  | y :: l => if x < y then x :: y :: l else if x = y then y :: l else y :: addS x l
def setS (l : List (List UInt8)) : List (List UInt8) := l.foldl (fun a x => addS x a) []
theorem addS_mem (x z : List UInt8) : ∀ l, z ∈ addS x l ↔ z = x ∨ z ∈ l
  | [] => by simp [addS]
  | y :: l => by
    unfold addS
    split
    · simp
    · split
      · rename_i h; subst h; simp
      · simp only [List.mem_cons, addS_mem x z l]
        constructor
        · rintro (h | h | h)
          · exact .inr (.inl h)
          · exact .inl h
          · exact .inr (.inr h)
        · rintro (h | h | h)
          · exact .inr (.inl h)
          · exact .inl h
          · exact .inr (.inr h)
theorem addS_sorted (x : List UInt8) : ∀ l : List (List UInt8), l.Pairwise (· < ·) → (addS x l).Pairwise (· < ·)
  | [], _ => List.pairwise_singleton _ _
  | y :: l, h => by
    obtain ⟨h1, h2⟩ := List.pairwise_cons.1 h
    unfold addS
    split
    · rename_i hlt
      refine List.pairwise_cons.2 ⟨fun z hz => ?_, h⟩
      rcases List.mem_cons.1 hz with rfl | hz
      · exact hlt
      · exact List.lt_trans hlt (h1 z hz)
    · split
      · exact h
      · rename_i hn hne
        refine List.pairwise_cons.2 ⟨fun z hz => ?_, addS_sorted x l h2⟩
        rcases (addS_mem x z l).1 hz with rfl | hz
        · rcases List.le_iff_lt_or_eq.1 (List.not_lt.1 hn) with h | h
          · exact h
          · exact absurd h.symm hne
        · exact h1 z hz
theorem foldS (l : List (List UInt8)) : ∀ a : List (List UInt8), a.Pairwise (· < ·) → (l.foldl (fun a x => addS x a) a).Pairwise (· < ·) ∧ ∀ z, z ∈ l.foldl (fun a x => addS x a) a ↔ z ∈ a ∨ z ∈ l := by
  induction l with
  | nil => exact fun a h => ⟨h, fun z => by simp⟩
  | cons x l ih =>
    intro a h
    obtain ⟨h1, h2⟩ := ih (addS x a) (addS_sorted x a h)
    refine ⟨h1, fun z => ?_⟩
    rw [List.foldl_cons, h2, addS_mem, List.mem_cons]
    constructor
    · rintro ((h | h) | h)
      · exact .inr (.inl h)
      · exact .inl h
      · exact .inr (.inr h)
    · rintro (h | h | h)
      · exact .inl (.inr h)
      · exact .inl (.inl h)
      · exact .inr h
/-- two sorted lists without repeats that hold the same are one -/
theorem sorted_one {a b : List (List UInt8)} (ha : a.Pairwise (· < ·)) (hb : b.Pairwise (· < ·)) (h : ∀ z, z ∈ a ↔ z ∈ b) : a = b := by
  have ne : ∀ x y : List UInt8, x < y → x ≠ y := fun x y h e => List.lt_irrefl x (e ▸ h)
  have na : a.Nodup := List.Pairwise.imp (ne _ _) ha
  have nb : b.Nodup := List.Pairwise.imp (ne _ _) hb
  refine List.Perm.eq_of_pairwise (le := fun x y : List UInt8 => x ≤ y) (fun x y _ _ h1 h2 => List.le_antisymm h1 h2) (ha.imp List.le_of_lt) (hb.imp List.le_of_lt) ((List.perm_ext_iff_of_nodup na nb).2 h)
theorem setS_ext {a b : List (List UInt8)} (h : ∀ z, z ∈ a ↔ z ∈ b) : setS a = setS b := by
  obtain ⟨a1, a2⟩ := foldS a [] List.Pairwise.nil
  obtain ⟨b1, b2⟩ := foldS b [] List.Pairwise.nil
  exact sorted_one (a := setS a) (b := setS b) a1 b1 fun z => by unfold setS; rw [a2, b2, h]
end Go.Syn

/-! the runs of name bytes from an offset on -/
namespace Go.Syn
open Go Go.Mir
theorem runsF_fuel : ∀ (f : Nat) (t : List UInt8), t.length < f → runsF f t = runsT t := by
  have key : ∀ (f g : Nat) (t : List UInt8), t.length < f → t.length < g → runsF f t = runsF g t := by
    intro f
    induction f with
    | zero => intro g t h; omega
    | succ f ih =>
      intro g t hf hg
      cases g with
      | zero => omega
      | succ g =>
        simp only [runsF]
        split
        · rfl
        · rename_i hne
          have h1 : ((t.dropWhile fun c => !isWord c.toNat).dropWhile fun c => isWord c.toNat).length < t.length := by
            obtain ⟨c, u, hu⟩ := List.exists_cons_of_ne_nil hne
            have hl : (t.dropWhile fun c => !isWord c.toNat).length ≤ t.length := (List.dropWhile_suffix _).length_le
            have hw : isWord c.toNat = true := by
              have := List.head_dropWhile_not (p := fun c : UInt8 => !isWord c.toNat) (l := t) hne
              simp only [hu, List.head_cons] at this
              simpa using this
            rw [hu] at hl ⊢
            rw [List.dropWhile_cons, if_pos hw]
            have := (List.dropWhile_suffix (l := u) fun c : UInt8 => isWord c.toNat).length_le
            rw [List.length_cons] at hl
            omega
          rw [ih g _ (by omega) (by omega)]
  intro f t h
  exact key f (t.length + 1) t h (by omega)
theorem runsF_step (f : Nat) (t : List UInt8) : runsF (f + 1) t = if (t.dropWhile fun c => !isWord c.toNat) = [] then [] else (t.dropWhile fun c => !isWord c.toNat).takeWhile (fun c => isWord c.toNat) :: runsF f ((t.dropWhile fun c => !isWord c.toNat).dropWhile fun c => isWord c.toNat) := rfl
theorem runs_nil : runsT [] = [] := rfl
theorem runs_off {c : UInt8} {t : List UInt8} (h : isWord c.toNat = false) : runsT (c :: t) = runsT t := by
  have h1 : runsT (c :: t) = runsF (t.length + 1 + 1) (c :: t) := rfl
  rw [h1]
  have h2 : runsF (t.length + 1 + 1) t = runsT t := runsF_fuel _ _ (by omega)
  rw [← h2]
  have h0 : (c :: t).dropWhile (fun c => !isWord c.toNat) = t.dropWhile (fun c => !isWord c.toNat) := by rw [List.dropWhile_cons, if_pos (by rw [h]; rfl)]
  rw [runsF_step (t.length + 1) (c :: t), runsF_step (t.length + 1) t, h0]
theorem runs_on {c : UInt8} {t : List UInt8} (h : isWord c.toNat = true) : runsT (c :: t) = (c :: t).takeWhile (fun c => isWord c.toNat) :: runsT ((c :: t).dropWhile fun c => isWord c.toNat) := by
  have h1 : runsT (c :: t) = runsF (t.length + 1 + 1) (c :: t) := rfl
  have h0 : (c :: t).dropWhile (fun c => !isWord c.toNat) = c :: t := by rw [List.dropWhile_cons, if_neg (by rw [h]; simp)]
  rw [h1]
  rw [runsF]
  simp only [h0]
  rw [if_neg (by simp), runsF_fuel]
  have := (List.dropWhile_suffix (l := t) fun c : UInt8 => isWord c.toNat).length_le
  rw [List.dropWhile_cons, if_pos h]; omega
/-- the names among the runs of a text -/
def nmsT (t : List UInt8) : List (List UInt8) := (runsT t).filter nameB
def calcL (l : List PartT) : List (List UInt8) := l.flatMap fun q => if q.kind = 1 then nmsT q.text else []
theorem calcN_eq (p : PartT) : calcN p = calcL p.parts := rfl
/-- names put into a list -/
def addAll (L : List (List UInt8)) (out : List (List UInt8)) : List (List UInt8) := L.foldl (fun a x => addS x a) out
theorem nms_end {t : List UInt8} {i : Nat} (h : t.length ≤ i) : nmsT (t.drop i) = [] := by rw [List.drop_eq_nil_of_le h]; rfl
theorem nms_off {t : List UInt8} {i : Nat} (h : i < t.length) (hw : isWord (bt t i) = false) : nmsT (t.drop i) = nmsT (t.drop (i + 1)) := by
  rw [drop_at h]
  unfold nmsT
  rw [runs_off (by rw [← bt_get h]; exact hw)]
theorem takeWhile_len {p : UInt8 → Bool} (t : List UInt8) : t.takeWhile p = t.take (t.takeWhile p).length := by
  induction t with
  | nil => rfl
  | cons c t ih =>
    rw [List.takeWhile_cons]
    split
    · rw [List.length_cons, List.take_succ_cons, ← ih]
    · rfl
theorem dropWhile_len {p : UInt8 → Bool} (t : List UInt8) : t.dropWhile p = t.drop (t.takeWhile p).length := by
  induction t with
  | nil => rfl
  | cons c t ih =>
    rw [List.takeWhile_cons, List.dropWhile_cons]
    split
    · rw [List.length_cons, List.drop_succ_cons, ← ih]
    · rfl
theorem nms_on {t : List UInt8} {i : Nat} (h : i < t.length) (hw : isWord (bt t i) = true) : nmsT (t.drop i) = (if nameB ((t.take (nmEnd t i)).drop i) = true then [(t.take (nmEnd t i)).drop i] else []) ++ nmsT (t.drop (nmEnd t i)) := by
  have e1 : (t.take (nmEnd t i)).drop i = (t.drop i).takeWhile fun c => isWord c.toNat := by
    rw [takeWhile_len (t.drop i), List.drop_take]
    congr 1
    unfold nmEnd run; omega
  have e2 : t.drop (nmEnd t i) = (t.drop i).dropWhile fun c => isWord c.toNat := by
    rw [dropWhile_len (t.drop i), List.drop_drop]
    congr 1
  rw [e1, e2]
  unfold nmsT
  have h3 : t.drop i = t[i] :: t.drop (i + 1) := drop_at h
  rw [h3, runs_on (by rw [← bt_get h]; exact hw), List.filter_cons]
  split <;> rfl
end Go.Syn

/-! syntax trees in memory -/
namespace Go.Syn
open Go Go.RowKit Go.Mir
theorem RdS.up {α : Type} {k : Nat} {enc : α → List Value} {w w' : World} {ao : Option Addr} {l : List α} (h : RdS k enc w ao l) (hb : Below w.heap.size w w') : RdS k enc w' ao l := fun i x hx => by
  obtain ⟨b, o, e, hlt, hc⟩ := h i x hx
  exact ⟨b, o, e, Nat.lt_of_lt_of_le hlt hb.size, fun j u hu => (hb.cell (p := ⟨b, o + i * k + j, none⟩) hlt).trans (hc j u hu)⟩
theorem DeepP.up {w w' : World} {h : Hd} {l : List PartT} (hd : DeepP w h l) (hb : Below w.heap.size w w') : DeepP w' h l := by
  induction hd with
  | mk h l h1 _ ih => exact .mk _ _ (h1.up hb) ih
theorem DeepW.up {w w' : World} {h : Hd} {l : List WordT} (hd : DeepW w h l) (hb : Below w.heap.size w w') : DeepW w' h l := ⟨hd.rd.up hb, fun x hx => (hd.sub x hx).up hb⟩
theorem DeepA.up {w w' : World} {h : Hd} {l : List AssignT} (hd : DeepA w h l) (hb : Below w.heap.size w w') : DeepA w' h l := ⟨hd.rd.up hb, fun x hx => (hd.sub x hx).up hb⟩
theorem DeepR.up {w w' : World} {h : Hd} {l : List RedirT} (hd : DeepR w h l) (hb : Below w.heap.size w w') : DeepR w' h l := ⟨hd.rd.up hb, fun x hx => (hd.sub x hx).up hb⟩
theorem DeepN.up {w w' : World} {n : NodeT} (hd : DeepN w n) (hb : Below w.heap.size w w') : DeepN w' n := by
  induction hd with
  | mk n ha hw hr hk _ hi hip hib _ hc ihk ihi => exact .mk n (ha.up hb) (hw.up hb) (hr.up hb) (hk.up hb) ihk (hi.up hb) (fun i h => (hip i h).up hb) (fun i h => (hib i h).up hb) ihi hc
theorem DeepN.kid {w : World} {n k : NodeT} (hd : DeepN w n) (h : k ∈ kidsT n) : DeepN w k := by
  obtain ⟨n, _, _, _, _, hks, _, _, _, his, _⟩ := hd
  rcases List.mem_append.1 h with h | h
  · exact hks k h
  · obtain ⟨i, hi, hk⟩ := List.mem_flatMap.1 h
    exact his i hi k hk
theorem DeepN.word {w : World} {n : NodeT} {x : WordT} (hd : DeepN w n) (h : x ∈ wordsT n) : DeepP w x.h x.parts := by
  obtain ⟨n, ha, hw, hr, _, _, _, hip, _, _, _⟩ := hd
  simp only [wordsT, List.mem_append, List.mem_map, List.mem_flatMap] at h
  rcases h with ((⟨a, h, rfl⟩ | h) | ⟨r, h, rfl⟩) | ⟨i, hi, h⟩
  · exact ha.sub a h
  · exact hw.sub x h
  · exact hr.sub r h
  · exact (hip i hi).sub x h
theorem flat_getK {α : Type} {k : Nat} {enc : α → List Value} (hk : ∀ x, (enc x).length = k) : ∀ (l : List α) (i : Nat) (x : α) (j : Nat) (u : Value), l[i]? = some x → (enc x)[j]? = some u → (l.flatMap enc)[i * k + j]? = some u
  | [], i, x, j, u, h, _ => by simp at h
  | y :: l, 0, x, j, u, h, hu => by
    have : y = x := by simpa using h
    subst this
    have hi : j < (enc y).length := (List.getElem?_eq_some_iff.1 hu).1
    simp only [List.flatMap_cons, Nat.zero_mul, Nat.zero_add]
    rw [List.getElem?_append_left hi]
    exact hu
  | y :: l, i + 1, x, j, u, h, hu => by
    have h' : l[i]? = some x := by simpa using h
    have hy := hk y
    simp only [List.flatMap_cons]
    have e : (i + 1) * k = i * k + k := by rw [Nat.add_mul, Nat.one_mul]
    rw [List.getElem?_append_right (by omega), hy, show (i + 1) * k + j - k = i * k + j by omega]
    exact flat_getK hk l i x j u h' hu
theorem flat_lenK {α : Type} {k : Nat} {enc : α → List Value} (hk : ∀ x, (enc x).length = k) (l : List α) : (l.flatMap enc).length = l.length * k := by
  induction l with
  | nil => simp
  | cons x l ih => rw [List.flatMap_cons, List.length_append, hk, ih, List.length_cons, Nat.add_mul, Nat.one_mul, Nat.add_comm]
theorem rdS_of_row {α : Type} {k : Nat} {enc : α → List Value} (hk : ∀ x, (enc x).length = k) {w : World} {base : Nat} {e : TypeId} {v : Value} {n : Nat} {l : List α} (hn : n = l.length) (h : w.ownsRow base e k v n (l.flatMap enc)) : ∃ ao cap, v = .slice ao n cap ∧ RdS k enc w ao l ∧ ∀ ad, ao = some ad → base ≤ ad.block := by
  obtain ⟨hl, h⟩ := h
  rcases h with ⟨rfl, h0⟩ | ⟨g, cap, cur, rfl, hb, hg, hnc, _, hsz, ht⟩
  · refine ⟨_, _, by rw [h0], (fun i x hx => ?_), fun ad h => by cases h⟩
    have := (List.getElem?_eq_some_iff.1 hx).1
    omega
  · refine ⟨_, _, rfl, (fun i x hx => ⟨g, 0, rfl, (Array.getElem?_eq_some_iff.1 hg).1, fun j u hu => ?_⟩), fun ad h => by cases h; exact hb⟩
    have h1 := flat_getK hk l i x j u hx hu
    have h2 := (List.getElem?_eq_some_iff.1 h1).1
    rw [← ht, List.getElem?_take_of_lt (by omega)] at h1
    simp only [World.cell?, hg, Nat.zero_add]
    simpa using h1
end Go.Syn
