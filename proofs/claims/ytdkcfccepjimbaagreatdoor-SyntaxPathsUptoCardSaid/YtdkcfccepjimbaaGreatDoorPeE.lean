/- Rules for copies of lists and for lists in blocks of the run. No statement is proved here. -/
import Derived.Test.YtdkcfccepjimbaaGreatDoorPeC
set_option linter.unusedSimpArgs false
set_option linter.unusedVariables false
namespace Go.PE
open Go Go.EvL
section
variable {P : Program} {Γ : Nat → Option PFn} {ext : PCallF}
/-- a list that is copied, one element after another by a function -/
def cpF (t es bytes : Nat) (z : Array Value) (sl : Nat) : PFn := ⟨22,
  (.seq (.reg [⟨some 4, .mv (.const (.slice none 0 0)), none⟩])
  (.seq (.reg [⟨some 5, .mv (.const (.slice none 0 0)), none⟩])
  (.seq (.seq (.reg [⟨some 8, .mv (.tmp 0), none⟩,
      ⟨some 9, .len false (.tmp 8), none⟩,
      ⟨some 10, .mv (.const (.int .i64 0)), none⟩])
   (.block 0
     (.loop
       (.seq (.reg [⟨some 11, .bin .lss sl (.tmp 10) (.tmp 9), none⟩])
       (.seq (.cond (.tmp 11)
          (.skip)
          (.exit 0))
       (.seq (.block 1
          (.seq (.reg [⟨some 12, .iaddr es (.tmp 8) (.tmp 10), none⟩,
             ⟨some 13, .load t true es (.tmp 12), none⟩,
             ⟨some 7, .alloc t (.agg z), none⟩,
             ⟨none, .store t es (.tmp 7) (.tmp 13), none⟩])
          (.reg [⟨some 14, .mv (.tmp 5), none⟩,
            ⟨some 15, .mv (.tmp 1), none⟩,
            ⟨some 16, .load t true es (.tmp 7), none⟩,
            ⟨some 17, .call (.tmp 15) [(.tmp 16)], none⟩,
            ⟨some 18, .bslice t 1 z.toList [(0, es, (.tmp 17))], none⟩,
            ⟨some 19, .app t es bytes (.tmp 14) (.tmp 18), none⟩,
            ⟨some 5, .mv (.tmp 19), none⟩])))
       (.reg [⟨some 20, .bin .add sl (.tmp 10) (.const (.int .i64 1)), none⟩,
         ⟨some 10, .mv (.tmp 20), none⟩])))))))
  (.seq (.reg [⟨some 21, .mv (.tmp 5), none⟩,
     ⟨some 4, .mv (.tmp 21), none⟩])
  .ret)))),
  [.tmp 4], false⟩
structure CpI {α : Type} (e t es : Nat) (c : α → List PV) (l : Option (List α)) (g : Nat) (b : Nat) (m : List α) (i : Nat) (f : PFr) (s : PS) : Prop where
  g : f 1 = .fn g [] []
  a : f 8 = slP e c l
  n : f 9 = .sc (.int .i64 ((l.getD []).length : Int))
  i : f 10 = .sc (.int .i64 (i : Int))
  bn : b ≤ s.n
  w : b ≤ s.w
  acc : Acc t es c b m (f 5) s
theorem one_bs {e : Nat} (s : PS) (cs : List PV) : elemsP (s.new ⟨cs, 0, e⟩) cs.length (.own s.n 0 1 cs.length) = some (cs, 1) := by
  unfold elemsP
  simp only [new_h, if_true, Nat.zero_add, Nat.one_mul, Nat.zero_le, Nat.le_refl, and_self, List.drop_zero, List.take_length]
theorem cp_func {α : Type} {e t es bytes sl : Nat} {z : Array Value} {c : α → List PV} (hc : ∀ x, (c x).length = es) (hz : (z.toList.map PV.sc).length = es) (hes : es ≠ 0) (hby : bytes ≤ 1024) {G : Nat} (hG : Γ G = some (cpF t es bytes z sl)) {l : Option (List α)} {cp : α → α}
    (ho : ∀ x ∈ l.getD [], (c x).all oneP = true ∧ (c (cp x)).all oneP = true ∧ (c (cp x)).all clean1 = true) {g : Nat} (hbig : (l.getD []).length ≤ 16777216)
    (hr : ∀ x ∈ l.getD [], ∀ s, pcall P Γ ext g [.agg (c x)] s = some (.agg (c (cp x)), s)) (s : PS) :
    pcall P Γ ext G [slP e c l, .fn g [] []] s = some (slP t c (optL ((l.getD []).map cp)), s) := by
  have L := slP_len (e := e) (c := c) l
  suffices h : ∃ q, pcall P Γ ext G [slP e c l, .fn g [] []] s = some q ∧ q = (slP t c (optL ((l.getD []).map cp)), s) by
    obtain ⟨q, e, rfl⟩ := h
    exact e
  refine W_call hG (by simp [cpF]) ?_
  generalize hQ : EndQ _ s _ = Q
  unfold cpF
  refine W_rseq (fun f s' => f 0 = slP e c l ∧ f 1 = .fn g [] [] ∧ s' = ⟨s.h, s.n, s.n⟩) ?_ ?_
  · simp -implicitDefEqProofs only [pops_u, pops_nil, runK_some, actP, opP, initP, Nat.zero_add, pval_const, pvOf]
    exact ⟨_, _, rfl, rfl, rfl, rfl⟩
  rintro f _ ⟨h0, h1, rfl⟩
  refine W_rseq (fun f s' => f 0 = slP e c l ∧ f 1 = .fn g [] [] ∧ f 5 = .sc (.slice none 0 0) ∧ s' = ⟨s.h, s.n, s.n⟩) ?_ ?_
  · simp -implicitDefEqProofs only [pops_u, pops_nil, runK_some, actP, opP, pval_const, pvOf]
    exact ⟨_, _, rfl, h0, h1, rfl, rfl⟩
  rintro f _ ⟨h0, h1, h5, rfl⟩
  refine W_assoc ?_
  refine W_rseq (CpI e t es c l g s.n (((l.getD []).take 0).map cp) 0) ?_ ?_
  · simp -implicitDefEqProofs only [pops_u, pops_nil, runK_some, actP, opP, Option.map_some, pval_tmp, pval_const, set_at, ↓reduceIte, pvOf, List.take_zero, List.map_nil, h0, L]
    exact ⟨_, _, rfl, h1, rfl, rfl, rfl, Nat.le_refl _, Nat.le_refl _, .inl ⟨rfl, h5⟩⟩
  intro f s1 hI
  refine W_lseq' (l.getD []).length (fun i => CpI e t es c l g s.n (((l.getD []).take i).map cp) i) (CpI e t es c l g s.n ((l.getD []).map cp) (l.getD []).length) hI ?_ ?_
  · rintro i f s1 hi ⟨p1, p2, p3, p4, p5, p6, p7⟩ N K hN hK
    by_cases hlt : i < (l.getD []).length
    · have h5 : (decide ((i : Int) < ((l.getD []).length : Int))) = true := by simp; exact hlt
      have hx : (l.getD [])[i]? = some ((l.getD [])[i]) := List.getElem?_eq_getElem hlt
      generalize (l.getD [])[i] = x at hx
      have hmem := List.mem_of_getElem? hx
      obtain ⟨ox, oy, _⟩ := ho x hmem
      have hcall := hr x hmem
      have hfl : ((l.getD []).take (i + 1)).map cp = ((l.getD []).take i).map cp ++ [cp x] := by rw [List.take_add_one, hx, List.map_append]; simp
      have hlen : (((l.getD []).take i).map cp).length ≤ 16777216 := by rw [List.length_map, List.length_take]; omega
      have hll : (((l.getD []).take i).map cp).length + 1 ≤ 16777216 := by rw [List.length_map, List.length_take]; omega
      have h7 := wrap_succ (i := i) (by omega)
      have hat : ∃ m, l = some m := by cases l with | none => simp at hx | some k => exact ⟨k, rfl⟩
      have hia : opP P f s1 (.iaddr es (.tmp 8) (.tmp 10)) = some (.litp (((l.getD []).flatMap c).drop (i * es)), s1) := iaddr_sl hc (by rw [pval_tmp]; exact p2) (by rw [pval_tmp, p4, natP_cast]) hlt
      refine W_rseq (fun f' s' => f' = f.set 11 (.sc (.bool true)) ∧ s1 = s') ?_ ?_
      · simp -implicitDefEqProofs only [pops_u, pops_nil, runK_some, actP, opP, Option.map_some, pval_tmp, bin_lss, p3, p4, h5]
        exact ⟨_, _, rfl, rfl, rfl⟩
      rintro _ _ ⟨rfl, rfl⟩
      refine W_cseq (v := true) (by simp -implicitDefEqProofs only [pval_tmp, set_at, ↓reduceIte, asBool_b]) ?_
      refine W_skip ?_
      have hxx : (l.getD [])[i]? = some x := hx
      refine W_bseq (fun f' s' => CpI e t es c l g s.n (((l.getD []).take (i + 1)).map cp) i f' s') ?_ ?_
      · refine W_rseq (fun f' s' => f' 1 = .fn g [] [] ∧ f' 8 = slP e c l ∧ f' 9 = .sc (.int .i64 ((l.getD []).length : Int)) ∧ f' 10 = .sc (.int .i64 (i : Int)) ∧ f' 5 = f 5 ∧ f' 7 = .ptr s1.n 0 es ∧ s'.h s1.n = ⟨c x, es, t⟩ ∧ s1.n + 1 = s'.n ∧ s.n ≤ s'.w ∧ ∀ j, j < s1.n → s'.h j = s1.h j) ?_ ?_
        · obtain ⟨m, rfl⟩ := hat
          simp only [slP, Option.getD_some] at p2 hx hlt
          have e1 := flat_len hc m
          have e3 := ld_sl hc hx
          simp -implicitDefEqProofs only [pops_u, pops_nil, runK_some, runK_none, actP, opP, Option.map_some, Option.bind_some, pval_tmp, set_at, Nat.reduceEqDiff, cellsP, ↓reduceIte, pvOf, new_h, ofCells, and_self, st_all, natP_cast, p2, p4, hlt, e1, e3, hc, ox, hz]
          refine ⟨_, _, rfl, p1, p2, p3, p4, rfl, rfl, ?_, rfl, ?_, fun j hj => ?_⟩
          · simp -implicitDefEqProofs only [↓reduceIte, put_h]
          · simp only [put_w, new_w]; omega
          · rw [put_h, if_neg (by omega), new_h, if_neg (by omega)]
        rintro f' s' ⟨q1, q2, q3, q4, q5, q6, q7, q8, q9, q10⟩
        have hacc : Acc t es c s.n (((l.getD []).take i).map cp) (f 5) s' := p7.frame (by omega) q10
        obtain ⟨v', s'', a1, a2, a3, a4, a5⟩ := (hacc.new ⟨c (cp x), 0, t⟩).app (bytes := bytes) hc [cp x] hes (by simp only [List.length_cons, List.length_nil]; exact Nat.le_trans (Nat.mul_le_mul hll hby) (by decide)) (by simp only [List.length_cons, List.length_nil]; omega) (fun y hy => by rw [List.mem_singleton] at hy; subst hy; exact oy) (by rw [new_n]; omega)
        have hel := one_bs (e := t) s' (c (cp x))
        rw [hc] at hel
        simp only [List.flatMap_cons, List.flatMap_nil, List.append_nil, List.length_cons, List.length_nil, Nat.zero_add] at a1
        have hld : ldP s' (.ptr s1.n 0 es) es = some (c x) := by
          rw [ld_ptr, q7]
          simp only [Nat.zero_add, Nat.le_refl, hc, and_self, if_true, List.drop_zero]
          rw [List.take_of_length_le (by rw [hc]; exact Nat.le_refl _)]
        have hfill : fillP (((f'.set 14 (f 5)).set 15 (.fn g [] [])).set 16 (.agg (c x)) |>.set 17 (.agg (c (cp x)))) (z.toList.map PV.sc) [(0, es, .tmp 17)] = some (c (cp x)) := by
          simp only [fillP, pval_tmp, set_at, if_true, cellsP, hc, Nat.zero_add, hz, Nat.le_refl, and_self, List.take_zero, List.nil_append]
          rw [List.drop_of_length_le (by rw [hz]; exact Nat.le_refl _), List.append_nil]
        refine W_reg ?_
        simp -implicitDefEqProofs only [pops_u, pops_nil, runK_some, actP, opP, pval_tmp, set_at, Nat.reduceEqDiff, ↓reduceIte, q1, q5, q6, hld, ofCells, Option.bind_some, Option.map_some, callP, List.map_cons, List.map_nil, List.nil_append, List.append_nil, hcall, hfill, hc, hel, a1]
        refine ⟨_, _, rfl, trivial, q1, q2, q3, q4, by rw [new_n] at a4; omega, a5 _ (Nat.le_refl _) (by rw [new_w]; exact q9), ?_⟩
        rw [hfl]
        exact a2
      · rintro f' s' ⟨q1, q2, q3, q4, q5, q6, q7⟩
        refine W_reg ?_
        simp -implicitDefEqProofs only [pops_u, pops_nil, runK_some, actP, opP, Option.map_some, pval_tmp, pval_const, set_at, ↓reduceIte, pvOf, bin_add, rnd_n, q4, h7]
        exact ⟨_, _, rfl, hN _ _ hlt ⟨q1, q2, q3, rfl, q5, q6, q7⟩⟩
    · obtain rfl : i = (l.getD []).length := by omega
      have h5 : (decide (((l.getD []).length : Int) < ((l.getD []).length : Int))) = false := by simp
      simp -implicitDefEqProofs only [pcode_seq, pcode_r, pcode_skip, pcode_exit, pcode_cond, pops_u, pops_nil, runK_some, actP, opP, Option.map_some, pval_tmp, set_at, ↓reduceIte, seq_n, seq_e, cond_f, asBool_b, regE_some, true_and, bin_lss, W_some, rnd_e, p3, p4, h5]
      refine hK _ _ ⟨p1, p2, p3, p4, p5, p6, ?_⟩
      rw [List.take_length] at p7
      exact p7
  · rintro f s1 ⟨p1, p2, p3, p4, p5, p6, p7⟩
    refine W_rret ?_
    simp -implicitDefEqProofs only [pops_u, pops_nil, runK_some, actP, opP, pval_tmp, set_at, ↓reduceIte]
    refine ⟨_, _, rfl, ?_⟩
    subst hQ
    refine endQ_r ?_ rfl
    refine leave_p (vs := [f 5]) rfl rfl p6 ?_
    refine frz_of (p7.frz hc (Nat.le_refl _) fun y hy => ?_)
    rw [List.mem_map] at hy
    obtain ⟨x, hx, rfl⟩ := hy
    exact (ho x hx).2.2
end
end Go.PE

namespace Go.PE
open Go Go.EvL
section
variable {P : Program} {Γ : Nat → Option PFn} {ext : PCallF}
theorem okPair_ww (j k a : Nat) (h : j ≠ k) : OkPair ⟨[j], [j], false, false⟩ a a ⟨[k], [k], false, false⟩ := by
  unfold OkPair; simp; omega
theorem okPair_nw (li : Bool) (a k : Nat) : OkPair ⟨[], [], li, false⟩ a a ⟨[k], [k], false, false⟩ := by
  unfold OkPair; simp; omega
theorem W_lend {body : PCode} {id : Nat} (n : Nat) (I : Nat → PFr → PS → Prop) (J : PFr → PS → Prop) {Q : PXt → PFr → PS → Prop} {f : PFr} {s : PS} (h0 : I 0 f s)
    (hr : ∀ i f s, i ≤ n → I i f s → ∀ (N K : PFr → PS → Prop), (∀ f' s', i < n → I (i + 1) f' s' → N f' s') → (∀ f' s', J f' s' → K f' s') → W (pcode P Γ ext body f s) (RndQ id N K (Q .ret))) (hk : ∀ f s, J f s → Q .normal f s) : W (pcode P Γ ext (.block id (.loop body)) f s) Q := by
  obtain ⟨x, f', s', e, q⟩ := loop_inv (J := J) (R := Q .ret) (fun i f s hi h => hr i f s hi h _ _ (fun _ _ h1 h2 => ⟨h1, h2⟩) (fun _ _ h => h)) n 0 f s (by omega) h0
  rw [pcode_block, e]
  cases x with
  | normal => exact q.elim
  | exit j =>
    obtain ⟨rfl, q⟩ := q
    rw [blk_e, if_pos rfl]
    exact ⟨_, _, _, rfl, hk _ _ q⟩
  | ret => exact ⟨_, _, _, rfl, q⟩
theorem endQ_n {fn : PFn} {s : PS} {R : PV × PS → Prop} {f' : PFr} {s' : PS} {q : PV × PS} (h : leaveP fn s f' s' = some q) (hR : R q) : EndQ fn s R .normal f' s' := ⟨q, h, hR⟩
theorem leave_k {fn : PFn} {s : PS} {f : PFr} {s' : PS} {vs : List PV} (hk : fn.keep = true) (hr : resP f s' fn.res = some vs) : leaveP fn s f s' = some (oneRes vs, ⟨s'.h, s'.n, min s.w s'.w⟩) := by
  unfold leaveP
  rw [hr]
  simp only [Option.bind_some, hk, if_true]
end
theorem choose_lists {α β : Type} (b0 : β) {R : Nat → α → β → Prop} : ∀ (l : List α), (∀ (i : Nat) x, l[i]? = some x → ∃ L, R i x L) → ∃ Ls : List β, Ls.length = l.length ∧ ∀ (i : Nat) x L, l[i]? = some x → Ls[i]? = some L → R i x L := by
  intro l h
  have h' : ∀ i : Nat, ∃ L : β, ∀ x, l[i]? = some x → R i x L := fun i => by
    cases hx : l[i]? with
    | none => exact ⟨b0, fun x h => by cases h⟩
    | some x =>
      obtain ⟨L, hL⟩ := h i x hx
      exact ⟨L, fun y hy => by injection hy with hy; subst hy; exact hL⟩
  obtain ⟨f, hf⟩ := Classical.axiomOfChoice h'
  refine ⟨(List.range l.length).map f, by simp, fun i x L hx hL => ?_⟩
  have hi := (List.getElem?_eq_some_iff.1 hx).1
  rw [List.getElem?_map, List.getElem?_range hi] at hL
  injection hL with hL
  subst hL
  exact hf i x hx
/-- what a list looks like to one who only reads it -/
def SlLike {α : Type} (e : Nat) (c : α → List PV) (l : List α) (v : PV) : Prop := (l = [] ∧ v = .sc (.slice none 0 0)) ∨ v = .lit e l.length (l.flatMap c) ∨ v = .litx e l.length (l.flatMap c)
theorem SlLike.len {α : Type} {e : Nat} {c : α → List PV} {l : List α} {v : PV} (h : SlLike e c l v) : lenP false v = some (.sc (.int .i64 (l.length : Int))) := by
  rcases h with ⟨rfl, rfl⟩ | rfl | rfl <;> rfl
theorem SlLike.iaddr {P : Program} {α : Type} {e es : Nat} {c : α → List PV} (hc : ∀ x, (c x).length = es) {l : List α} {v : PV} (h : SlLike e c l v) {f : PFr} {s : PS} {a i : Operand} {j : Nat} (ha : pval f a = v) (hi : natP (pval f i) = some j) (hj : j < l.length) :
    opP P f s (.iaddr es a i) = some (.litp ((l.flatMap c).drop (j * es)), s) := by
  have hl := flat_len hc l
  rcases h with ⟨rfl, rfl⟩ | rfl | rfl
  · simp at hj
  · simp only [opP, ha, hi, hl, hj, and_self, if_true]
  · simp only [opP, ha, hi, hl, hj, and_self, if_true]
theorem SlLike.one {α : Type} {e : Nat} {c : α → List PV} {l : List α} {v : PV} (h : SlLike e c l v) : oneP v = true := by
  rcases h with ⟨rfl, rfl⟩ | rfl | rfl <;> rfl
/-- a list that grows, begun by a slice cut to its length -/
def AccX {α : Type} (e es : Nat) (c : α → List PV) (b : Nat) (l : List α) (v : PV) (s : PS) : Prop := v = .litx e l.length (l.flatMap c) ∨ Acc e es c b l v s
theorem AccX.frame {α : Type} {e es b : Nat} {c : α → List PV} {l : List α} {v : PV} {s s' : PS} (h : AccX e es c b l v s) (hn : s.n ≤ s'.n) (hh : ∀ j, j < s.n → s'.h j = s.h j) : AccX e es c b l v s' := h.imp id fun h => h.frame hn hh
theorem AccX.app {α : Type} {e es bytes b : Nat} {c : α → List PV} {l : List α} {v : PV} {s : PS} (hc : ∀ x, (c x).length = es) (h : AccX e es c b l v s) (m : List α) (hes : es ≠ 0) (hb : (l.length + m.length) * bytes ≤ 140737488355328) (hn : l.length + m.length ≤ 1073741824) (ho : ∀ x ∈ m, (c x).all oneP = true) (hbn : b ≤ s.n) :
    ∃ v' s', appP s e es bytes v (m.flatMap c) m.length = some (v', s') ∧ AccX e es c b (l ++ m) v' s' ∧ (∀ j, j < b → s'.h j = s.h j) ∧ s.n ≤ s'.n ∧ (∀ n0, n0 ≤ b → n0 ≤ s.w → n0 ≤ s'.w) := by
  rcases h with rfl | h
  · by_cases hm : m = []
    · subst hm
      refine ⟨_, s, ?_, .inl (by rw [List.append_nil]), fun _ _ => rfl, Nat.le_refl _, fun _ _ h => h⟩
      unfold appP
      rw [if_pos (by rfl)]
      rfl
    · have hm0 : m.length ≠ 0 := by simpa using hm
      have hfl := flat_len hc m
      have hfl' := flat_len hc l
      refine ⟨.own s.n 0 (l.length + m.length) (l.flatMap c ++ m.flatMap c).length, s.new ⟨l.flatMap c ++ m.flatMap c, 0, e⟩, ?_, .inr (.inr ⟨by simp [hm], s.n, hbn, by rw [new_n]; omega, ?_, ?_⟩), fun j hj => ?_, by rw [new_n]; omega, fun n0 _ hw => by rw [new_w]; exact hw⟩
      · unfold appP
        rw [if_neg hm0]
        simp only
        rw [if_pos ⟨⟨hes, hfl, hb, hn, flat_ones ho⟩, hfl'⟩]
      · rw [List.length_append, List.length_append, hfl, hfl', Nat.add_mul]
      · rw [new_h, if_pos rfl, List.flatMap_append]
      · rw [new_h, if_neg (by omega)]
  · obtain ⟨v', s', h1, h2, h3⟩ := h.app (bytes := bytes) hc m hes hb hn ho hbn
    exact ⟨v', s', h1, .inr h2, h3⟩
theorem AccX.frz {α : Type} {e es b n0 : Nat} {c : α → List PV} {l : List α} {v : PV} {s : PS} (hc : ∀ x, (c x).length = es) (h : AccX e es c b l v s) (hn : n0 ≤ b) (hcl : ∀ x ∈ l, (c x).all clean1 = true) : ∃ w, PE.frz n0 s v = some w ∧ SlLike e c l w := by
  rcases h with rfl | h
  · exact ⟨_, rfl, .inr (.inr rfl)⟩
  · refine ⟨_, frz_of (h.frz hc hn hcl), ?_⟩
    cases l with
    | nil => exact .inl ⟨rfl, rfl⟩
    | cons a l => exact .inr (.inl rfl)
/-- a list in a block of the run's, away from the blocks a and b -/
def AccL {α : Type} (e es : Nat) (c : α → List PV) (b : Nat) (X : Nat → Prop) (l : List α) (v : PV) (s : PS) : Prop :=
  (l = [] ∧ v = .sc (.slice none 0 0)) ∨ (l ≠ [] ∧ ∃ k low, b ≤ k ∧ k < s.n ∧ ¬ X k ∧ v = .own k 0 l.length (l.length * es) ∧ s.h k = ⟨l.flatMap c, low, e⟩ ∧ low ≤ l.length * es)
theorem AccL.frame {α : Type} {e es b : Nat} {c : α → List PV} {X : Nat → Prop} {l : List α} {v : PV} {s s' : PS} (h : AccL e es c b X l v s) (hn : s.n ≤ s'.n) (hh : ∀ j, j < s.n → ¬ X j → s'.h j = s.h j) : AccL e es c b X l v s' := by
  rcases h with h | ⟨hl, k, low, k1, k2, kx, rfl, k3, k4⟩
  · exact .inl h
  · exact .inr ⟨hl, k, low, k1, by omega, kx, rfl, by rw [hh k k2 kx]; exact k3, k4⟩
theorem AccL.push {α : Type} {e es bytes b : Nat} {c : α → List PV} {X : Nat → Prop} {l : List α} {v : PV} {s : PS} {z : List PV} (hc : ∀ x, (c x).length = es) (hz : z.length = es) (hzo : z.all oneP = true) (h : AccL e es c b X l v s) (x : α) (hes : es ≠ 0) (hb : (l.length + 1) * bytes ≤ 140737488355328) (hn : l.length + 1 ≤ 1073741824) (ho : (c x).all oneP = true) (hbn : b ≤ s.n) (hX : ¬ X s.n) :
    ∃ k s2 s3, appP s e es bytes v z 1 = some (.own k 0 (l.length + 1) ((l.length + 1) * es), s2) ∧ stP s2 (.ptr k (l.length * es) ((l.length + 1) * es)) (c x) = some s3 ∧ AccL e es c b X (l ++ [x]) (.own k 0 (l.length + 1) ((l.length + 1) * es)) s3 ∧
      (∀ j, j < s.n → j < b ∨ X j → s3.h j = s.h j) ∧ s.n ≤ s2.n ∧ s2.n = s3.n ∧ (∀ n0, n0 ≤ b → n0 ≤ s.w → n0 ≤ s3.w) ∧ ¬ X k ∧ b ≤ k ∧ (∀ j, j ≠ k → j < s.n → s2.h j = s.h j) := by
  have key : ∀ (k : Nat) (s2 : PS) (low : Nat), b ≤ k → k < s2.n → ¬ X k → s2.h k = ⟨l.flatMap c ++ z, low, e⟩ → ∃ s3, stP s2 (.ptr k (l.length * es) ((l.length + 1) * es)) (c x) = some s3 ∧ AccL e es c b X (l ++ [x]) (.own k 0 (l.length + 1) ((l.length + 1) * es)) s3 ∧ (∀ j, j ≠ k → s3.h j = s2.h j) ∧ s2.n = s3.n ∧ (∀ n0, n0 ≤ b → n0 ≤ s2.w → n0 ≤ s3.w) := by
    intro k s2 low hbk hk hxk h2
    have hfl := flat_len hc l
    have e1 : l.length * es + es = (l.length + 1) * es := by rw [Nat.add_mul, Nat.one_mul]
    refine ⟨s2.put k ⟨(l ++ [x]).flatMap c, (l.length + 1) * es, e⟩, ?_, .inr ⟨by simp, k, (l.length + 1) * es, hbk, by rw [put_n]; exact hk, hxk, by simp, by rw [put_h, if_pos rfl], by simp⟩, fun j hj => by rw [put_h, if_neg hj], rfl, fun n0 h1 h2 => by rw [put_w]; omega⟩
    have hst : stP s2 (.ptr k (l.length * es) ((l.length + 1) * es)) (c x) = if l.length * es + (c x).length ≤ (l.length + 1) * es ∧ (l.length + 1) * es = (s2.h k).cells.length ∧ (c x).all oneP = true then some (s2.put k ⟨(s2.h k).cells.take (l.length * es) ++ (c x ++ (s2.h k).cells.drop (l.length * es + (c x).length)), (l.length + 1) * es, (s2.h k).e⟩) else none := rfl
    rw [hst, h2]
    simp only
    rw [if_pos ⟨by rw [hc]; omega, by rw [List.length_append, hfl, hz]; omega, ho⟩]
    rw [List.take_left' hfl, List.drop_of_length_le (by rw [List.length_append, hfl, hz, hc]; omega), List.append_nil, List.flatMap_append, List.flatMap_cons, List.flatMap_nil, List.append_nil]
  rcases h with ⟨rfl, rfl⟩ | ⟨hl, k, low, k1, k2, kx, rfl, k3, k4⟩
  · have e0 : appP s e es bytes (.sc (.slice none 0 0)) z 1 = some (.own s.n 0 1 z.length, s.new ⟨z, 0, e⟩) := by
      unfold appP
      rw [if_neg (by omega)]
      simp only
      rw [if_pos ⟨hes, by omega, by simpa using hb, by omega, hzo⟩]
    obtain ⟨s3, g1, g2, g3, g4, g5⟩ := key s.n (s.new ⟨z, 0, e⟩) 0 hbn (by rw [new_n]; omega) hX (by rw [new_h, if_pos rfl]; rfl)
    refine ⟨s.n, s.new ⟨z, 0, e⟩, s3, ?_, g1, g2, fun j hj _ => ?_, by rw [new_n]; omega, g4, fun n0 h1 h2 => g5 n0 h1 (by rw [new_w]; exact h2), hX, hbn, fun j hj hlt => by rw [new_h, if_neg (by omega)]⟩
    · rw [e0, hz]
      simp
    · rw [g3 j (by omega), new_h, if_neg (by omega)]
  · have hfl := flat_len hc l
    have e0 : appP s e es bytes (.own k 0 l.length (l.length * es)) z 1 = some (.own k 0 (l.length + 1) (l.length * es + z.length), s.put k ⟨l.flatMap c ++ z, low, e⟩) := by
      unfold appP
      rw [if_neg (by omega)]
      simp only [k3]
      rw [if_pos ⟨⟨hes, by omega, hb, by omega, hzo⟩, by omega, hfl.symm, by omega, trivial, trivial⟩]
    obtain ⟨s3, g1, g2, g3, g4, g5⟩ := key k (s.put k ⟨l.flatMap c ++ z, low, e⟩) low k1 (by rw [put_n]; exact k2) kx (by rw [put_h, if_pos rfl])
    refine ⟨k, s.put k ⟨l.flatMap c ++ z, low, e⟩, s3, ?_, g1, g2, fun j hj hjx => ?_, by rw [put_n]; exact Nat.le_refl _, g4, fun n0 h1 h2 => g5 n0 h1 (by rw [put_w]; omega), kx, k1, fun j hj hlt => by rw [put_h, if_neg hj]⟩
    · rw [e0, hz, Nat.add_mul, Nat.one_mul]
    · have hne : j ≠ k := by
        rcases hjx with h | h
        · omega
        · rintro rfl; exact kx h
      rw [g3 j hne, put_h, if_neg hne]
end Go.PE
