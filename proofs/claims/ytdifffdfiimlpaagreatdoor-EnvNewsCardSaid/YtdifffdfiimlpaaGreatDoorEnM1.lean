/- Bytes of a text. No statement is proved here. -/
set_option linter.all false
namespace Go.Mir
/-! layer 7 in plain Lean: what the constructs of a text are -/
def bt (l : List UInt8) (i : Nat) : Nat := (l.getD i 0).toNat
def isLetter (c : Nat) : Bool := decide (97 ≤ c) && decide (c ≤ 122) || decide (65 ≤ c) && decide (c ≤ 90)
def isDigit (c : Nat) : Bool := decide (48 ≤ c) && decide (c ≤ 57)
def isBlank (c : Nat) : Bool := c == 9 || c == 32
def isOpByte (c : Nat) : Bool := c == 38 || c == 124 || c == 59 || c == 40 || c == 41 || c == 60 || c == 62
def isWord (c : Nat) : Bool := isLetter c || isDigit c || c == 95
def isSpecial (c : Nat) : Bool := isDigit c || c == 64 || c == 42 || c == 35 || c == 63 || c == 45 || c == 36 || c == 33
def isExp (l : List UInt8) (a : Nat) : Bool := decide (a + 1 < l.length) && bt l a == 36 && (isWord (bt l (a + 1)) || isSpecial (bt l (a + 1)) || bt l (a + 1) == 123 || bt l (a + 1) == 40)
def joined (l : List UInt8) (i : Nat) : Bool := decide (i + 1 < l.length) && bt l i == 92 && bt l (i + 1) == 10
/-- where a run of bytes isEnd -/
def run (q : Nat → Bool) (l : List UInt8) (i : Nat) : Nat := i + ((l.drop i).takeWhile fun c => q c.toNat).length
def nmEnd (l : List UInt8) (i : Nat) : Nat := run isWord l i
def toByte (l : List UInt8) (c i : Nat) : Nat := run (fun x => x != c) l i
theorem drop_at {l : List UInt8} {i : Nat} (h : i < l.length) : l.drop i = l[i] :: l.drop (i + 1) := List.drop_eq_getElem_cons h
theorem bt_get {l : List UInt8} {i : Nat} (h : i < l.length) : bt l i = (l[i]).toNat := by
  unfold bt; rw [List.getD_eq_getElem?_getD, List.getElem?_eq_getElem h]; rfl
theorem bt_lt (l : List UInt8) (i : Nat) : bt l i < 256 := by unfold bt; exact UInt8.toNat_lt _
theorem run_end {q : Nat → Bool} {l : List UInt8} {i : Nat} (h : l.length ≤ i) : run q l i = i := by
  unfold run; rw [List.drop_eq_nil_of_le h]; rfl
theorem run_on {q : Nat → Bool} {l : List UInt8} {i : Nat} (h : i < l.length) (hq : q (bt l i) = true) : run q l i = run q l (i + 1) := by
  unfold run
  rw [drop_at h, List.takeWhile_cons, if_pos (by rw [← bt_get h]; exact hq), List.length_cons]
  omega
theorem run_off {q : Nat → Bool} {l : List UInt8} {i : Nat} (h : i < l.length) (hq : q (bt l i) = false) : run q l i = i := by
  unfold run
  rw [drop_at h, List.takeWhile_cons, if_neg (by rw [← bt_get h, hq]; simp)]
  rfl
theorem run_ge (q : Nat → Bool) (l : List UInt8) (i : Nat) : i ≤ run q l i := Nat.le_add_right _ _
theorem run_le {q : Nat → Bool} {l : List UInt8} {i : Nat} (h : i ≤ l.length) : run q l i ≤ l.length := by
  unfold run
  have h1 := List.Sublist.length_le (List.takeWhile_sublist (fun c : UInt8 => q c.toNat) (l := l.drop i))
  rw [List.length_drop] at h1
  omega
theorem run_at {q : Nat → Bool} {l : List UInt8} : ∀ (k i : Nat), i + k = l.length → run q l i < l.length → q (bt l (run q l i)) = false := by
  intro k
  induction k with
  | zero => intro i h h2; have := run_ge q l i; omega
  | succ k ih =>
    intro i h h2
    have hi : i < l.length := by omega
    cases hq : q (bt l i) with
    | true => rw [run_on hi hq] at h2 ⊢; exact ih (i + 1) (by omega) h2
    | false => rw [run_off hi hq]; exact hq
/-- what is read: a construct, or what is left of one from an offset on -/
inductive Tag where
  | pass (a p : Nat)
  | exp (a p : Nat)
  | bq (i a : Nat)
  | dbl (i a : Nat)
  | brc (i a p : Nat)
  | cmd (i a o : Nat) (b : Bool)
  | ari (i a o : Nat)
def open2 (c o : Nat) : Nat := if c = 40 then o + 1 else if c = 41 then o - 1 else o
def isBreak (c : Nat) : Bool := isBlank c || c == 10 || isOpByte c
inductive Lx (l : List UInt8) : Tag → Nat → Nat → Prop where
  | p_esc0 {a p} (h : bt l a = 92) (h2 : a + 1 = l.length) : Lx l (.pass a p) a 7
  | p_esc {a p} (h : bt l a = 92) (h2 : a + 1 < l.length) : Lx l (.pass a p) (a + 2) 0
  | p_bq {a p r e} (hl : a < l.length) (h : bt l a = 96) (k : Lx l (.bq (a + 1) a) r e) : Lx l (.pass a p) r e
  | p_exp {a p r e} (h : isExp l a = true) (k : Lx l (.exp a p) r e) : Lx l (.pass a p) r e
  | p_sq {a} (hl : a < l.length) (h : bt l a = 39) (h2 : toByte l 39 (a + 1) < l.length) : Lx l (.pass a 0) (toByte l 39 (a + 1) + 1) 0
  | p_sq0 {a} (hl : a < l.length) (h : bt l a = 39) (h2 : toByte l 39 (a + 1) = l.length) : Lx l (.pass a 0) a 7
  | p_dq {a r e} (hl : a < l.length) (h : bt l a = 34) (k : Lx l (.dbl (a + 1) a) r e) : Lx l (.pass a 0) r e
  | p_one {a p} (hl : a < l.length) (h1 : bt l a ≠ 92) (h2 : bt l a ≠ 96) (h3 : isExp l a = false) (h4 : p = 0 → bt l a ≠ 39 ∧ bt l a ≠ 34) : Lx l (.pass a p) (a + 1) 0
  | e_brc {a p r e} (h : bt l (a + 1) = 123) (k : Lx l (.brc (a + 2) a p) r e) : Lx l (.exp a p) r e
  | e_ari {a p r e} (h : bt l (a + 1) = 40) (h2 : a + 2 < l.length) (h3 : bt l (a + 2) = 40) (k : Lx l (.ari (a + 3) a 0) r e) : Lx l (.exp a p) r e
  | e_cmd {a p r e} (h : bt l (a + 1) = 40) (h2 : a + 2 < l.length → bt l (a + 2) ≠ 40) (k : Lx l (.cmd (a + 2) a 1 true) r e) : Lx l (.exp a p) r e
  | e_sp {a p} (h : isSpecial (bt l (a + 1)) = true) : Lx l (.exp a p) (a + 2) 0
  | e_nm {a p} (h : bt l (a + 1) ≠ 123) (h2 : bt l (a + 1) ≠ 40) (h3 : isSpecial (bt l (a + 1)) = false) : Lx l (.exp a p) (nmEnd l (a + 1)) 0
  | b_end {a} : Lx l (.bq l.length a) a 7
  | b_q {i a} (hl : i < l.length) (h : bt l i = 96) : Lx l (.bq i a) (i + 1) 0
  | b_esc0 {i a} (h : bt l i = 92) (h2 : i + 1 = l.length) : Lx l (.bq i a) i 7
  | b_esc {i a r e} (h : bt l i = 92) (h2 : i + 1 < l.length) (k : Lx l (.bq (i + 2) a) r e) : Lx l (.bq i a) r e
  | b_one {i a r e} (hl : i < l.length) (h : bt l i ≠ 96) (h2 : bt l i ≠ 92) (k : Lx l (.bq (i + 1) a) r e) : Lx l (.bq i a) r e
  | d_end {a} : Lx l (.dbl l.length a) a 7
  | d_q {i a} (hl : i < l.length) (h : bt l i = 34) : Lx l (.dbl i a) (i + 1) 0
  | d_err {i a r e} (hl : i < l.length) (h : bt l i ≠ 34) (k : Lx l (.pass i 1) r e) (he : e ≠ 0) : Lx l (.dbl i a) r e
  | d_on {i a j r e} (hl : i < l.length) (h : bt l i ≠ 34) (k : Lx l (.pass i 1) j 0) (k2 : Lx l (.dbl j a) r e) : Lx l (.dbl i a) r e
  | r_end {a p} : Lx l (.brc l.length a p) a 7
  | r_q {i a p} (hl : i < l.length) (h : bt l i = 125) : Lx l (.brc i a p) (i + 1) 0
  | r_bad {i a} (hl : i < l.length) (h : bt l i = 34) : Lx l (.brc i a 1) i 6
  | r_err {i a p r e} (hl : i < l.length) (h : bt l i ≠ 125) (h2 : p = 1 → bt l i ≠ 34) (k : Lx l (.pass i p) r e) (he : e ≠ 0) : Lx l (.brc i a p) r e
  | r_on {i a p j r e} (hl : i < l.length) (h : bt l i ≠ 125) (h2 : p = 1 → bt l i ≠ 34) (k : Lx l (.pass i p) j 0) (k2 : Lx l (.brc j a p) r e) : Lx l (.brc i a p) r e
  | c_end {a o b} : Lx l (.cmd l.length a o b) a 7
  | c_cmt {i a o r e} (hl : i < l.length) (h : bt l i = 35) (k : Lx l (.cmd (toByte l 10 i) a o true) r e) : Lx l (.cmd i a o true) r e
  | c_join {i a o b r e} (h : joined l i = true) (k : Lx l (.cmd (i + 2) a o b) r e) : Lx l (.cmd i a o b) r e
  | c_q {i a b} (hl : i < l.length) (h : bt l i = 41) : Lx l (.cmd i a 1 b) (i + 1) 0
  | c_err {i a o b r e} (hl : i < l.length) (h : b = true → bt l i ≠ 35) (h2 : joined l i = false) (h3 : bt l i = 41 → o ≠ 1) (k : Lx l (.pass i 0) r e) (he : e ≠ 0) : Lx l (.cmd i a o b) r e
  | c_on {i a o b j r e} (hl : i < l.length) (h : b = true → bt l i ≠ 35) (h2 : joined l i = false) (h3 : bt l i = 41 → o ≠ 1) (k : Lx l (.pass i 0) j 0) (k2 : Lx l (.cmd j a (open2 (bt l i) o) (isBreak (bt l i))) r e) : Lx l (.cmd i a o b) r e
  | a_end {a o} : Lx l (.ari l.length a o) a 7
  | a_q0 {i a} (h : bt l i = 41) (h2 : i + 1 = l.length) : Lx l (.ari i a 0) a 7
  | a_q {i a} (h : bt l i = 41) (h2 : i + 1 < l.length) (h3 : bt l (i + 1) = 41) : Lx l (.ari i a 0) (i + 2) 0
  | a_bad {i a} (h : bt l i = 41) (h2 : i + 1 < l.length) (h3 : bt l (i + 1) ≠ 41) : Lx l (.ari i a 0) i 6
  | a_err {i a o r e} (hl : i < l.length) (h : bt l i = 41 → o ≠ 0) (k : Lx l (.pass i 2) r e) (he : e ≠ 0) : Lx l (.ari i a o) r e
  | a_on {i a o j r e} (hl : i < l.length) (h : bt l i = 41 → o ≠ 0) (k : Lx l (.pass i 2) j 0) (k2 : Lx l (.ari j a (open2 (bt l i) o)) r e) : Lx l (.ari i a o) r e
/-- where a reading isBreak, and what its end is bounded by -/
def Tag.at : Tag → Nat
  | .pass a _ | .exp a _ => a
  | .bq i _ | .dbl i _ | .brc i _ _ | .cmd i _ _ _ | .ari i _ _ => i
theorem isExp_lt {l : List UInt8} {a : Nat} (h : isExp l a = true) : a + 1 < l.length := by
  unfold isExp at h; simp at h; exact h.1.1
theorem isExp_d {l : List UInt8} {a : Nat} (h : isExp l a = true) : bt l a = 36 := by
  unfold isExp at h; simp at h; exact h.1.2
theorem joined_lt {l : List UInt8} {a : Nat} (h : joined l a = true) : a + 1 < l.length := by
  unfold joined at h; simp at h; exact h.1.1
theorem joined_d {l : List UInt8} {a : Nat} (h : joined l a = true) : bt l a = 92 ∧ bt l (a + 1) = 10 := by
  unfold joined at h; simp at h; exact ⟨h.1.2, h.2⟩
end Go.Mir
namespace Go.Mir
theorem nmEnd_gt {l : List UInt8} {a : Nat} (h : isExp l a = true) (h1 : bt l (a + 1) ≠ 123) (h2 : bt l (a + 1) ≠ 40) (h3 : isSpecial (bt l (a + 1)) = false) : a + 2 ≤ nmEnd l (a + 1) := by
  have hl := isExp_lt h
  unfold isExp at h
  simp [h3, h1, h2] at h
  unfold nmEnd
  rw [run_on hl h.2]
  exact run_ge _ _ _
def Tag.ok (l : List UInt8) : Tag → Prop
  | .pass a _ => a < l.length
  | .exp a _ => isExp l a = true
  | .bq i a | .dbl i a | .brc i a _ | .cmd i a _ _ | .ari i a _ => i ≤ l.length ∧ a < l.length
def Tag.size (l : List UInt8) : Tag → Nat
  | .pass a _ => 3 * (l.length - a) + 1
  | .exp a _ => 3 * (l.length - a)
  | .bq i _ | .dbl i _ | .brc i _ _ | .cmd i _ _ _ | .ari i _ _ => 3 * (l.length - i) + 2
/-- where a reading isEnd -/
theorem Lx.bound {l : List UInt8} {t : Tag} {r e : Nat} (h : Lx l t r e) : t.ok l → r ≤ l.length ∧ (e = 0 → t.at < r) := by
  induction h with
  | p_esc0 h h2 => intro ok; exact ⟨by omega, by omega⟩
  | p_esc h h2 => intro ok; exact ⟨by omega, fun _ => by simp only [Tag.at]; omega⟩
  | p_bq hl h k ih => intro ok; have := ih ⟨by omega, hl⟩; exact ⟨this.1, fun h => by have := this.2 h; simp only [Tag.at] at this ⊢; omega⟩
  | p_exp h k ih => intro ok; exact ih h
  | @p_sq a hl h h2 => intro ok; have := run_ge (fun x => x != 39) l (a + 1); exact ⟨by omega, fun _ => by simp only [Tag.at]; unfold toByte; exact Nat.lt_succ_of_le (Nat.le_trans (Nat.le_succ _) this)⟩
  | p_sq0 hl h h2 => intro ok; exact ⟨by omega, by omega⟩
  | p_dq hl h k ih => intro ok; have := ih ⟨by omega, hl⟩; exact ⟨this.1, fun h => by have := this.2 h; simp only [Tag.at] at this ⊢; omega⟩
  | p_one hl _ _ _ _ => intro ok; exact ⟨by omega, fun _ => by simp only [Tag.at]; omega⟩
  | e_brc h k ih => intro ok; have hl := isExp_lt ok; have := ih ⟨by omega, by omega⟩; exact ⟨this.1, fun h => by have := this.2 h; simp only [Tag.at] at this ⊢; omega⟩
  | e_ari h h2 h3 k ih => intro ok; have hl := isExp_lt ok; have := ih ⟨by omega, by omega⟩; exact ⟨this.1, fun h => by have := this.2 h; simp only [Tag.at] at this ⊢; omega⟩
  | e_cmd h h2 k ih => intro ok; have hl := isExp_lt ok; have := ih ⟨by omega, by omega⟩; exact ⟨this.1, fun h => by have := this.2 h; simp only [Tag.at] at this ⊢; omega⟩
  | e_sp h => intro ok; have hl := isExp_lt ok; exact ⟨by omega, fun _ => by simp only [Tag.at]; omega⟩
  | e_nm h h2 h3 => intro ok; have hl := isExp_lt ok; have := nmEnd_gt ok h h2 h3; exact ⟨run_le (by omega), fun _ => by simp only [Tag.at]; omega⟩
  | b_end => intro ok; exact ⟨by have := ok.2; omega, by omega⟩
  | b_q hl h => intro ok; exact ⟨by omega, fun _ => by simp only [Tag.at]; omega⟩
  | b_esc0 h h2 => intro ok; exact ⟨by omega, by omega⟩
  | b_esc h h2 k ih => intro ok; have := ih ⟨by omega, ok.2⟩; exact ⟨this.1, fun h => by have := this.2 h; simp only [Tag.at] at this ⊢; omega⟩
  | b_one hl h h2 k ih => intro ok; have := ih ⟨by omega, ok.2⟩; exact ⟨this.1, fun h => by have := this.2 h; simp only [Tag.at] at this ⊢; omega⟩
  | d_end => intro ok; exact ⟨by have := ok.2; omega, by omega⟩
  | d_q hl h => intro ok; exact ⟨by omega, fun _ => by simp only [Tag.at]; omega⟩
  | d_err hl h k he ih => intro ok; exact ⟨(ih hl).1, fun h => absurd h he⟩
  | d_on hl h k k2 ih ih2 => intro ok; have h1 := ih hl; have h3 := h1.2 rfl; have := ih2 ⟨h1.1, ok.2⟩; exact ⟨this.1, fun h => by have := this.2 h; simp only [Tag.at] at this h3 ⊢; omega⟩
  | r_end => intro ok; exact ⟨by have := ok.2; omega, by omega⟩
  | r_q hl h => intro ok; exact ⟨by omega, fun _ => by simp only [Tag.at]; omega⟩
  | r_bad hl h => intro ok; exact ⟨by omega, by omega⟩
  | r_err hl h h2 k he ih => intro ok; exact ⟨(ih hl).1, fun h => absurd h he⟩
  | r_on hl h h2 k k2 ih ih2 => intro ok; have h1 := ih hl; have h3 := h1.2 rfl; have := ih2 ⟨h1.1, ok.2⟩; exact ⟨this.1, fun h => by have := this.2 h; simp only [Tag.at] at this h3 ⊢; omega⟩
  | c_end => intro ok; exact ⟨by have := ok.2; omega, by omega⟩
  | @c_cmt i a o r e hl h k ih => intro ok; have h1 := run_ge (fun x => x != 10) l i; have := ih ⟨run_le (by omega), ok.2⟩; exact ⟨this.1, fun h => by have := this.2 h; simp only [Tag.at, toByte] at this ⊢; omega⟩
  | c_join h k ih => intro ok; have hl := joined_lt h; have := ih ⟨by omega, ok.2⟩; exact ⟨this.1, fun h => by have := this.2 h; simp only [Tag.at] at this ⊢; omega⟩
  | c_q hl h => intro ok; exact ⟨by omega, fun _ => by simp only [Tag.at]; omega⟩
  | c_err hl h h2 h3 k he ih => intro ok; exact ⟨(ih hl).1, fun h => absurd h he⟩
  | c_on hl h h2 h3 k k2 ih ih2 => intro ok; have h1 := ih hl; have h3 := h1.2 rfl; have := ih2 ⟨h1.1, ok.2⟩; exact ⟨this.1, fun h => by have := this.2 h; simp only [Tag.at] at this h3 ⊢; omega⟩
  | a_end => intro ok; exact ⟨by have := ok.2; omega, by omega⟩
  | a_q0 h h2 => intro ok; exact ⟨by have := ok.2; omega, by omega⟩
  | a_q h h2 h3 => intro ok; exact ⟨by omega, fun _ => by simp only [Tag.at]; omega⟩
  | a_bad h h2 h3 => intro ok; exact ⟨by omega, by omega⟩
  | a_err hl h k he ih => intro ok; exact ⟨(ih hl).1, fun h => absurd h he⟩
  | a_on hl h k k2 ih ih2 => intro ok; have h1 := ih hl; have h3 := h1.2 rfl; have := ih2 ⟨h1.1, ok.2⟩; exact ⟨this.1, fun h => by have := this.2 h; simp only [Tag.at] at this h3 ⊢; omega⟩
/-- every reading isEnd -/
theorem Lx.total (l : List UInt8) : ∀ (m : Nat) (t : Tag), t.size l < m → t.ok l → ∃ r e, Lx l t r e := by
  intro m
  induction m with
  | zero => intro t h; omega
  | succ m ih =>
    intro t hm ok
    cases t with
    | pass a p =>
      simp only [Tag.size, Tag.ok] at hm ok
      by_cases h1 : bt l a = 92
      · by_cases h2 : a + 1 = l.length
        · exact ⟨_, _, .p_esc0 h1 h2⟩
        · exact ⟨_, _, .p_esc h1 (by omega)⟩
      by_cases h2 : bt l a = 96
      · obtain ⟨r, e, k⟩ := ih (.bq (a + 1) a) (by simp only [Tag.size]; omega) ⟨by omega, ok⟩
        exact ⟨r, e, .p_bq ok h2 k⟩
      cases h3 : isExp l a with
      | true =>
        obtain ⟨r, e, k⟩ := ih (.exp a p) (by simp only [Tag.size]; omega) h3
        exact ⟨r, e, .p_exp h3 k⟩
      | false =>
        by_cases hp : p = 0
        · subst hp
          by_cases h4 : bt l a = 39
          · have := run_le (q := fun x => x != 39) (l := l) (i := a + 1) (by omega)
            by_cases h5 : toByte l 39 (a + 1) = l.length
            · exact ⟨_, _, .p_sq0 ok h4 h5⟩
            · exact ⟨_, _, .p_sq ok h4 (by unfold toByte at h5 ⊢; omega)⟩
          by_cases h5 : bt l a = 34
          · obtain ⟨r, e, k⟩ := ih (.dbl (a + 1) a) (by simp only [Tag.size]; omega) ⟨by omega, ok⟩
            exact ⟨r, e, .p_dq ok h5 k⟩
          · exact ⟨_, _, .p_one ok h1 h2 h3 fun _ => ⟨h4, h5⟩⟩
        · exact ⟨_, _, .p_one ok h1 h2 h3 fun h => absurd h hp⟩
    | exp a p =>
      simp only [Tag.size, Tag.ok] at hm ok
      have hl := isExp_lt ok
      by_cases h1 : bt l (a + 1) = 123
      · obtain ⟨r, e, k⟩ := ih (.brc (a + 2) a p) (by simp only [Tag.size]; omega) ⟨by omega, by omega⟩
        exact ⟨r, e, .e_brc h1 k⟩
      by_cases h2 : bt l (a + 1) = 40
      · by_cases h3 : a + 2 < l.length ∧ bt l (a + 2) = 40
        · obtain ⟨r, e, k⟩ := ih (.ari (a + 3) a 0) (by simp only [Tag.size]; omega) ⟨by omega, by omega⟩
          exact ⟨r, e, .e_ari h2 h3.1 h3.2 k⟩
        · obtain ⟨r, e, k⟩ := ih (.cmd (a + 2) a 1 true) (by simp only [Tag.size]; omega) ⟨by omega, by omega⟩
          exact ⟨r, e, .e_cmd h2 (fun h h' => h3 ⟨h, h'⟩) k⟩
      cases h3 : isSpecial (bt l (a + 1)) with
      | true => exact ⟨_, _, .e_sp h3⟩
      | false => exact ⟨_, _, .e_nm h1 h2 h3⟩
    | bq i a =>
      simp only [Tag.size, Tag.ok] at hm ok
      by_cases hi : i = l.length
      · subst hi; exact ⟨_, _, .b_end⟩
      by_cases h1 : bt l i = 96
      · exact ⟨_, _, .b_q (by omega) h1⟩
      by_cases h2 : bt l i = 92
      · by_cases h3 : i + 1 = l.length
        · exact ⟨_, _, .b_esc0 h2 h3⟩
        · obtain ⟨r, e, k⟩ := ih (.bq (i + 2) a) (by simp only [Tag.size]; omega) ⟨by omega, ok.2⟩
          exact ⟨r, e, .b_esc h2 (by omega) k⟩
      · obtain ⟨r, e, k⟩ := ih (.bq (i + 1) a) (by simp only [Tag.size]; omega) ⟨by omega, ok.2⟩
        exact ⟨r, e, .b_one (by omega) h1 h2 k⟩
    | dbl i a =>
      simp only [Tag.size, Tag.ok] at hm ok
      by_cases hi : i = l.length
      · subst hi; exact ⟨_, _, .d_end⟩
      have hl : i < l.length := by omega
      by_cases h1 : bt l i = 34
      · exact ⟨_, _, .d_q hl h1⟩
      obtain ⟨j, e, k⟩ := ih (.pass i 1) (by simp only [Tag.size]; omega) hl
      by_cases he : e = 0
      · subst he
        have hb := k.bound hl
        have hj := hb.2 rfl
        simp only [Tag.at] at hj
        obtain ⟨r, e, k2⟩ := ih (.dbl j a) (by simp only [Tag.size]; omega) ⟨hb.1, ok.2⟩
        exact ⟨r, e, .d_on hl h1 k k2⟩
      · exact ⟨_, _, .d_err hl h1 k he⟩
    | brc i a p =>
      simp only [Tag.size, Tag.ok] at hm ok
      by_cases hi : i = l.length
      · subst hi; exact ⟨_, _, .r_end⟩
      have hl : i < l.length := by omega
      by_cases h1 : bt l i = 125
      · exact ⟨_, _, .r_q hl h1⟩
      by_cases h2 : p = 1 ∧ bt l i = 34
      · obtain ⟨rfl, h2⟩ := h2
        exact ⟨_, _, .r_bad hl h2⟩
      obtain ⟨j, e, k⟩ := ih (.pass i p) (by simp only [Tag.size]; omega) hl
      by_cases he : e = 0
      · subst he
        have hb := k.bound hl
        have hj := hb.2 rfl
        simp only [Tag.at] at hj
        obtain ⟨r, e, k2⟩ := ih (.brc j a p) (by simp only [Tag.size]; omega) ⟨hb.1, ok.2⟩
        exact ⟨r, e, .r_on hl h1 (fun h h' => h2 ⟨h, h'⟩) k k2⟩
      · exact ⟨_, _, .r_err hl h1 (fun h h' => h2 ⟨h, h'⟩) k he⟩
    | cmd i a o b =>
      simp only [Tag.size, Tag.ok] at hm ok
      by_cases hi : i = l.length
      · subst hi; exact ⟨_, _, .c_end⟩
      have hl : i < l.length := by omega
      by_cases h1 : b = true ∧ bt l i = 35
      · obtain ⟨rfl, h1⟩ := h1
        have hq : (fun x => x != 10) (bt l i) = true := by rw [h1]; rfl
        have e1 : toByte l 10 i = toByte l 10 (i + 1) := run_on hl hq
        have g1 := run_ge (fun x => x != 10) l (i + 1)
        have g2 := run_le (q := fun x => x != 10) (l := l) (i := i) (by omega)
        have g1' : i + 1 ≤ toByte l 10 i := by rw [e1]; exact g1
        have g2' : toByte l 10 i ≤ l.length := g2
        obtain ⟨r, e, k⟩ := ih (.cmd (toByte l 10 i) a o true) (by simp only [Tag.size]; omega) ⟨g2', ok.2⟩
        exact ⟨r, e, .c_cmt hl h1 k⟩
      cases h2 : joined l i with
      | true =>
        have := joined_lt h2
        obtain ⟨r, e, k⟩ := ih (.cmd (i + 2) a o b) (by simp only [Tag.size]; omega) ⟨by omega, ok.2⟩
        exact ⟨r, e, .c_join h2 k⟩
      | false =>
        by_cases h3 : bt l i = 41 ∧ o = 1
        · obtain ⟨h3, rfl⟩ := h3
          exact ⟨_, _, .c_q hl h3⟩
        obtain ⟨j, e, k⟩ := ih (.pass i 0) (by simp only [Tag.size]; omega) hl
        by_cases he : e = 0
        · subst he
          have hb := k.bound hl
          have hj := hb.2 rfl
          simp only [Tag.at] at hj
          obtain ⟨r, e, k2⟩ := ih (.cmd j a (open2 (bt l i) o) (isBreak (bt l i))) (by simp only [Tag.size]; omega) ⟨hb.1, ok.2⟩
          exact ⟨r, e, .c_on hl (fun h h' => h1 ⟨h, h'⟩) h2 (fun h h' => h3 ⟨h, h'⟩) k k2⟩
        · exact ⟨_, _, .c_err hl (fun h h' => h1 ⟨h, h'⟩) h2 (fun h h' => h3 ⟨h, h'⟩) k he⟩
    | ari i a o =>
      simp only [Tag.size, Tag.ok] at hm ok
      by_cases hi : i = l.length
      · subst hi; exact ⟨_, _, .a_end⟩
      have hl : i < l.length := by omega
      by_cases h1 : bt l i = 41 ∧ o = 0
      · obtain ⟨h1, rfl⟩ := h1
        by_cases h2 : i + 1 = l.length
        · exact ⟨_, _, .a_q0 h1 h2⟩
        by_cases h3 : bt l (i + 1) = 41
        · exact ⟨_, _, .a_q h1 (by omega) h3⟩
        · exact ⟨_, _, .a_bad h1 (by omega) h3⟩
      obtain ⟨j, e, k⟩ := ih (.pass i 2) (by simp only [Tag.size]; omega) hl
      by_cases he : e = 0
      · subst he
        have hb := k.bound hl
        have hj := hb.2 rfl
        simp only [Tag.at] at hj
        obtain ⟨r, e, k2⟩ := ih (.ari j a (open2 (bt l i) o)) (by simp only [Tag.size]; omega) ⟨hb.1, ok.2⟩
        exact ⟨r, e, .a_on hl (fun h h' => h1 ⟨h, h'⟩) k k2⟩
      · exact ⟨_, _, .a_err hl (fun h h' => h1 ⟨h, h'⟩) k he⟩
end Go.Mir
