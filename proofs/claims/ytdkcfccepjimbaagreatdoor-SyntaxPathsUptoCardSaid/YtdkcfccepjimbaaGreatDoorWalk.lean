/- Both walks meet the same nodes; the law SyntaxWalks on values. No statement is proved here. -/
import Derived.Test.YtdkcfccepjimbaaGreatDoorExact
import Derived.Test.YtdkcfccepjimbaaGreatDoorPeE
import Derived.Test.YtdkcfccepjimbaaGreatDoorLaw
set_option linter.unusedSimpArgs false
set_option linter.unusedVariables false
namespace Go.Proofs.YtdkcfccepjimbaaGreatDoor
open Go Go.EvL Go.PE
variable {ext : PCallF}
/-! syntax.children -/
structure ChdI (x : NodeD) (b : Nat) (l : List NodeD) (f : PFr) (s : PS) : Prop where
  h : s.h b = ⟨x.cells, 0, 28⟩
  n : b + 1 ≤ s.n
  w : b ≤ s.w
  acc : AccX 28 9 NodeD.cells (b + 1) l (f 3) s
theorem children_ok (x : NodeD) (lk : Option (List NodeD)) (li : Option (List ItemD)) (bd : ItemD → Option (List NodeD)) (hk : x.kids = slP 28 NodeD.cells lk) (hit : x.items = slP 75 ItemD.cells li) (hbd : ∀ it ∈ li.getD [], it.body = slP 28 NodeD.cells (bd it))
    (hio : ∀ it ∈ li.getD [], it.cells.all oneP = true) (hbig : (lk.getD []).length + ((li.getD []).flatMap fun it => (bd it).getD []).length ≤ 16777216) (hlen : (li.getD []).length ≤ 16777216)
    (ho : ∀ y ∈ kidsL (lk.getD []) (li.getD []) bd, y.cells.all oneP = true ∧ y.cells.all clean1 = true) (s : PS) :
    ∃ v, pcall Tryz.prog Γ ext 44 [.agg x.cells] s = some (v, s) ∧ SlLike 28 NodeD.cells (kidsL (lk.getD []) (li.getD []) bd) v := by
  have L := slP_len (e := 75) (c := ItemD.cells) li
  suffices h : ∃ q, pcall Tryz.prog Γ ext 44 [.agg x.cells] s = some q ∧ ∃ v, q = (v, s) ∧ SlLike 28 NodeD.cells (kidsL (lk.getD []) (li.getD []) bd) v by
    obtain ⟨q, e, v, rfl, hv⟩ := h
    exact ⟨v, e, hv⟩
  refine W_call (fn := p44) (by rfl) (by simp [p44]) ?_
  generalize hQ : EndQ p44 s _ = Q
  unfold p44
  refine W_rseq (fun f s' => f 1 = .ptr s.n 0 9 ∧ s'.h s.n = ⟨x.cells, 0, 28⟩ ∧ s'.n = s.n + 1 ∧ s'.w = s.n) ?_ ?_
  · simp -implicitDefEqProofs only [pops_u, pops_nil, runK_some, actP, opP, initP, pval_tmp, pval_const, set_at, cellsP, ↓reduceIte, pvOf]
    exact ⟨_, _, rfl, rfl, by simp -implicitDefEqProofs only [↓reduceIte, new_h], rfl, rfl⟩
  rintro f s1 ⟨p1, p2, p3, p4⟩
  have q2 := p2
  simp only [NodeD.cells, hk, hit] at q2
  refine W_rseq (fun f s' => s1 = s' ∧ f 1 = .ptr s.n 0 9 ∧ ChdI x s.n (lk.getD []) f s') ?_ ?_
  · cases lk with
    | none =>
      simp only [slP] at q2
      simp -implicitDefEqProofs only [pops_u, pops_nil, runK_some, actP, opP, Nat.zero_add, Nat.reduceAdd, Option.map_some, Option.bind_some, pval_tmp, set_at, Nat.reduceEqDiff, ↓reduceIte, ld_ptr, ofCells, List.length_cons, List.length_nil, Nat.reduceLeDiff, Nat.zero_le, and_self, List.drop_succ_cons, List.drop_zero, List.take_succ_cons, List.take_zero, Nat.le_refl, Bool.false_eq_true, natP_zero, p1, q2, lenP]
      exact ⟨_, _, rfl, rfl, p1, p2, by omega, by omega, .inr (.inl ⟨rfl, rfl⟩)⟩
    | some m =>
      have h1 := flat_len NodeD.len m
      have h2 : (m.flatMap NodeD.cells).take (m.length * 9) = m.flatMap NodeD.cells := List.take_of_length_le (by omega)
      simp only [slP] at q2
      simp -implicitDefEqProofs only [pops_u, pops_nil, runK_some, actP, opP, Nat.zero_add, Nat.reduceAdd, Option.map_some, Option.bind_some, pval_tmp, set_at, Nat.reduceEqDiff, ↓reduceIte, ld_ptr, ofCells, List.length_cons, List.length_nil, Nat.reduceLeDiff, Nat.zero_le, and_self, List.drop_succ_cons, List.drop_zero, List.take_succ_cons, List.take_zero, Nat.le_refl, Bool.false_eq_true, natP_cast, p1, q2, lenP, h1, h2]
      exact ⟨_, _, rfl, rfl, p1, p2, by omega, by omega, .inl rfl⟩
  rintro f _ ⟨rfl, p1, hI⟩
  refine W_assoc ?_
  refine W_rseq (fun f s' => (ChdI x s.n (lk.getD [] ++ ((li.getD []).take 0).flatMap fun it => (bd it).getD []) f s' ∧ f 16 = slP 75 ItemD.cells li ∧ f 17 = .sc (.int .i64 ((li.getD []).length : Int))) ∧ f 18 = .sc (.int .i64 ((0 : Nat) : Int))) ?_ ?_
  · simp -implicitDefEqProofs only [pops_u, pops_nil, runK_some, actP, opP, Nat.zero_add, Nat.reduceAdd, Option.map_some, Option.bind_some, pval_tmp, pval_const, set_at, ↓reduceIte, pvOf, ld_ptr, ofCells, List.length_cons, List.length_nil, Nat.zero_le, and_self, List.drop_succ_cons, List.drop_zero, List.take_succ_cons, List.take_zero, Nat.le_refl, Bool.false_eq_true, p1, q2, L]
    obtain ⟨e1, e2, e3, e4⟩ := hI
    exact ⟨_, _, rfl, ⟨⟨e1, e2, e3, by rw [List.flatMap_nil, List.append_nil]; exact e4⟩, rfl, rfl⟩, rfl⟩
  rintro f s2 hI
  refine W_lseq' (li.getD []).length (fun i f s' => (ChdI x s.n (lk.getD [] ++ ((li.getD []).take i).flatMap fun it => (bd it).getD []) f s' ∧ f 16 = slP 75 ItemD.cells li ∧ f 17 = .sc (.int .i64 ((li.getD []).length : Int))) ∧ f 18 = .sc (.int .i64 (i : Int))) (fun f s' => ChdI x s.n (kidsL (lk.getD []) (li.getD []) bd) f s') hI ?_ ?_
  · rintro i f s2 hi ⟨⟨⟨e1, e2, e3, e4⟩, h16, h17⟩, h18⟩ N K hN hK
    by_cases hlt : i < (li.getD []).length
    · have h5 : (decide ((i : Int) < ((li.getD []).length : Int))) = true := by simp; exact hlt
      have hx : (li.getD [])[i]? = some ((li.getD [])[i]) := List.getElem?_eq_getElem hlt
      generalize (li.getD [])[i] = it at hx
      have hmem := List.mem_of_getElem? hx
      have hb := hbd it hmem
      have hone := hio it hmem
      have hfl := take_flat (g := fun it => (bd it).getD []) hx
      have hle := take_flat_le (g := fun it => (bd it).getD []) (li.getD []) (i + 1)
      rw [hfl, List.length_append] at hle
      have h7 := wrap_succ (i := i) (by omega)
      have hia : opP Tryz.prog (f.set 19 (.sc (.bool true))) s2 (.iaddr 2 (.tmp 16) (.tmp 18)) = some (.litp (((li.getD []).flatMap ItemD.cells).drop (i * 2)), s2) := iaddr_sl ItemD.len (by rw [pval_tmp, set_at]; exact h16) (by rw [pval_tmp, set_at]; show natP (f 18) = _; rw [h18, natP_cast]) hlt
      refine W_rseq (fun f' s' => f' = f.set 19 (.sc (.bool true)) ∧ s2 = s') ?_ ?_
      · simp -implicitDefEqProofs only [pops_u, pops_nil, runK_some, actP, opP, Option.map_some, pval_tmp, bin_lss, h17, h18, h5]
        exact ⟨_, _, rfl, rfl, rfl⟩
      rintro _ _ ⟨rfl, rfl⟩
      refine W_cseq (v := true) (by simp -implicitDefEqProofs only [pval_tmp, set_at, ↓reduceIte, asBool_b]) ?_
      refine W_skip ?_
      refine W_bseq (fun f' s' => (ChdI x s.n (lk.getD [] ++ ((li.getD []).take (i + 1)).flatMap fun it => (bd it).getD []) f' s' ∧ f' 16 = slP 75 ItemD.cells li ∧ f' 17 = .sc (.int .i64 ((li.getD []).length : Int))) ∧ f' 18 = .sc (.int .i64 (i : Int))) ?_ ?_
      · refine W_rseq (fun f' s' => f' 16 = slP 75 ItemD.cells li ∧ f' 17 = .sc (.int .i64 ((li.getD []).length : Int)) ∧ f' 18 = .sc (.int .i64 (i : Int)) ∧ f' 3 = f 3 ∧ f' 5 = .ptr s2.n 0 2 ∧ s'.h s2.n = ⟨it.cells, 2, 75⟩ ∧ s2.n + 1 = s'.n ∧ s.n ≤ s'.w ∧ ∀ j, j < s2.n → s'.h j = s2.h j) ?_ ?_
        · obtain ⟨m, rfl⟩ : ∃ k, li = some k := by cases li with | none => simp at hx | some k => exact ⟨k, rfl⟩
          simp only [slP, Option.getD_some] at h16 hx hlt h17
          have c1 := flat_len ItemD.len m
          have c3 := ld_sl ItemD.len hx
          have c4 : it.cells.length = 2 := it.len
          simp -implicitDefEqProofs only [pops_u, pops_nil, runK_some, runK_none, actP, opP, Nat.zero_add, Nat.reduceAdd, Option.map_some, Option.bind_some, pval_tmp, set_at, Nat.reduceEqDiff, cellsP, ↓reduceIte, pvOf, new_h, ofCells, List.length_cons, List.length_nil, and_self, List.map_cons, List.map_nil, st_all, natP_cast, h16, h18, hlt, c1, c3, hone, c4]
          refine ⟨_, _, rfl, by first | exact h16 | rfl, by first | exact h17 | rfl, by first | exact h18 | rfl, rfl, rfl, ?_, rfl, ?_, fun j hj => ?_⟩
          · simp -implicitDefEqProofs only [↓reduceIte, put_h]
          · simp only [put_w, new_w]; omega
          · rw [put_h, if_neg (by omega), new_h, if_neg (by omega)]
        rintro f' s' ⟨r1, r2, r3, r4, r5, r6, r7, r8, r9⟩
        have hacc := e4.frame (s' := s') (by omega) r9
        obtain ⟨v', s'', a1, a2, a3, a4, a5⟩ := hacc.app (bytes := 160) NodeD.len ((bd it).getD []) (by omega) (by rw [List.length_append]; omega) (by rw [List.length_append]; omega) (fun y hy => (ho y (by simp only [kidsL, List.mem_append, List.mem_flatMap]; exact .inr ⟨it, hmem, hy⟩)).1) (by omega)
        have he := elems_sl (e := 28) NodeD.len (bd it) s'
        refine W_reg ?_
        simp only [ItemD.cells, hb] at r6
        simp -implicitDefEqProofs only [pops_u, pops_nil, runK_some, actP, opP, Nat.zero_add, Nat.reduceAdd, Option.map_some, Option.bind_some, pval_tmp, set_at, Nat.reduceEqDiff, ↓reduceIte, ld_ptr, ofCells, List.length_cons, List.length_nil, and_self, true_and, List.drop_succ_cons, List.drop_zero, List.take_succ_cons, List.take_zero, Nat.le_refl, Bool.false_eq_true, r4, r5, r6, he, a1]
        refine ⟨_, _, rfl, ⟨⟨?_, by omega, a5 _ (by omega) r8, ?_⟩, r1, r2⟩, r3⟩
        · rw [a3 _ (by omega), r9 _ (by omega)]; exact e1
        · rw [hfl, ← List.append_assoc]; exact a2
      · rintro f' s' ⟨⟨⟨g1, g2, g3, g4⟩, g5, g6⟩, g7⟩
        refine W_reg ?_
        simp -implicitDefEqProofs only [pops_u, pops_nil, runK_some, actP, opP, Option.map_some, pval_tmp, pval_const, set_at, ↓reduceIte, pvOf, bin_add, rnd_n, g7, h7]
        exact ⟨_, _, rfl, hN _ _ hlt ⟨⟨⟨g1, g2, g3, g4⟩, g5, g6⟩, rfl⟩⟩
    · obtain rfl : i = (li.getD []).length := by omega
      have h5 : (decide (((li.getD []).length : Int) < ((li.getD []).length : Int))) = false := by simp
      simp -implicitDefEqProofs only [pcode_seq, pcode_r, pcode_skip, pcode_exit, pcode_cond, pops_u, pops_nil, runK_some, actP, opP, Option.map_some, pval_tmp, set_at, ↓reduceIte, seq_n, seq_e, cond_f, asBool_b, regE_some, true_and, bin_lss, W_some, rnd_e, h17, h18, h5]
      refine hK _ _ ⟨e1, e2, e3, ?_⟩
      rw [List.take_length] at e4
      exact e4
  · rintro f s2 ⟨e1, e2, e3, e4⟩
    refine W_rret ?_
    simp -implicitDefEqProofs only [pops_u, pops_nil, runK_some, actP, opP, pval_tmp, set_at, ↓reduceIte]
    refine ⟨_, _, rfl, ?_⟩
    subst hQ
    obtain ⟨w, w1, w2⟩ := e4.frz NodeD.len (n0 := s.n) (by omega) (fun y hy => (ho y hy).2)
    exact endQ_r (leave_p (vs := [f 3]) rfl rfl e3 w1) ⟨w, rfl, w2⟩
theorem Dec.children_ok {D d : Nat} {x : NodeD} {la : Option (List AssignD)} {lw : Option (List WordD)} {lr : Option (List RedirD)} {lk : Option (List NodeD)} {li : Option (List ItemD)} {pt : ItemD → Option (List WordD)} {bd : ItemD → Option (List NodeD)} (h : Dec D d x la lw lr lk li pt bd) (hN : bulks x.cells ≤ 16777216) (s : PS) :
    ∃ v, pcall Tryz.prog Γ ext 44 [.agg x.cells] s = some (v, s) ∧ SlLike 28 NodeD.cells (kidsL (lk.getD []) (li.getD []) bd) v := by
  obtain ⟨n1, n2, n3, _⟩ := h.sizes hN
  refine Go.Proofs.YtdkcfccepjimbaaGreatDoor.children_ok x lk li bd h.k h.i h.hbd (fun it hi => ?_) n2 n3 (fun y hy => ⟨(h.kids y hy).ones, (h.kids y hy).cleans⟩) s
  simp only [ItemD.cells, List.all_cons, List.all_nil, h.hpt it hi, h.hbd it hi, oneP_sl, Bool.and_true]
end Go.Proofs.YtdkcfccepjimbaaGreatDoor

namespace Go.Proofs.YtdkcfccepjimbaaGreatDoor
open Go Go.EvL Go.PE
variable {ext : PCallF}
/-! syntax.preorder's visit -/
abbrev InX (kl kv : Nat) (j : Nat) : Prop := j = kl ∨ j = kv
structure VisI (b kl kv : Nat) (l : List NodeD) (s : PS) : Prop where
  ne : kl ≠ kv
  b1 : kl < s.n
  b2 : kv < s.n
  b3 : b ≤ kl
  b4 : b ≤ kv
  v : ∃ v low, s.h kl = ⟨[v], low, 25⟩ ∧ low ≤ 1 ∧ AccL 28 9 NodeD.cells b (InX kl kv) l v s
  g : ∃ low, s.h kv = ⟨[.fn 81 [] [.ptr kl 0 1, .ptr kv 0 1]], low, 103⟩ ∧ low ≤ 1
theorem VisI.frame {b kl kv : Nat} {l : List NodeD} {s s' : PS} (h : VisI b kl kv l s) (hn : s.n ≤ s'.n) (hh : ∀ j, j < s.n → s'.h j = s.h j) : VisI b kl kv l s' := by
  obtain ⟨h1, h2, h3, h4, h5, ⟨v, low, e1, e2, e3⟩, ⟨low', g1, g2⟩⟩ := h
  exact ⟨h1, by omega, by omega, h4, h5, ⟨v, low, by rw [hh _ h2]; exact e1, e2, e3.frame hn fun j hj _ => hh j hj⟩, ⟨low', by rw [hh _ h3]; exact g1, g2⟩⟩
theorem AccL.len {α : Type} {e es b : Nat} {c : α → List PV} {X : Nat → Prop} {l : List α} {v : PV} {s : PS} (h : AccL e es c b X l v s) : lenP false v = some (.sc (.int .i64 (l.length : Int))) := by
  rcases h with ⟨rfl, rfl⟩ | ⟨_, k, low, _, _, _, rfl, _⟩ <;> rfl
theorem AccL.one {α : Type} {e es b : Nat} {c : α → List PV} {X : Nat → Prop} {l : List α} {v : PV} {s : PS} (h : AccL e es c b X l v s) : oneP v = true := by
  rcases h with ⟨rfl, rfl⟩ | ⟨_, k, low, _, _, _, rfl, _⟩ <;> rfl
abbrev zeroN : List PV := [.sc (.int .i64 0), .sc (.int .i64 0), .sc (.string ⟨#[]⟩), .sc (.bool false), .sc (.slice none 0 0), .sc (.slice none 0 0), .sc (.slice none 0 0), .sc (.slice none 0 0), .sc (.slice none 0 0)]
/-- visit appends a node, then the nodes of its kids -/
theorem visit_node {x : NodeD} {kl : List NodeD} (hox : x.cells.all oneP = true) (hk : ∀ s, ∃ v, pcall Tryz.prog Γ ext 44 [.agg x.cells] s = some (v, s) ∧ SlLike 28 NodeD.cells kl v) (hko : ∀ k ∈ kl, k.cells.all oneP = true) (hkn : kl.length ≤ 16777216) {b pl pv : Nat} {Ls : List (List NodeD)} (hLs : Ls.length = kl.length)
    (hc : ∀ (i : Nat) k L, kl[i]? = some k → Ls[i]? = some L → ∀ l s, VisI b pl pv l s → l.length + L.length ≤ 100000000 → ∃ s', pcall Tryz.prog Γ ext 81 [.agg k.cells, .ptr pl 0 1, .ptr pv 0 1] s = some (.tup [], s') ∧ VisI b pl pv (l ++ L) s' ∧ s.n ≤ s'.n ∧ ∀ n0, n0 ≤ b → n0 ≤ s.w → n0 ≤ s'.w)
    {l : List NodeD} {s : PS} (h : VisI b pl pv l s) (hbig : l.length + (1 + Ls.flatten.length) ≤ 100000000) :
    ∃ s', pcall Tryz.prog Γ ext 81 [.agg x.cells, .ptr pl 0 1, .ptr pv 0 1] s = some (.tup [], s') ∧ VisI b pl pv (l ++ (x :: Ls.flatten)) s' ∧ s.n ≤ s'.n ∧ ∀ n0, n0 ≤ b → n0 ≤ s.w → n0 ≤ s'.w := by
  suffices hh : ∃ q, pcall Tryz.prog Γ ext 81 [.agg x.cells, .ptr pl 0 1, .ptr pv 0 1] s = some q ∧ ∃ s', q = (.tup [], s') ∧ VisI b pl pv (l ++ (x :: Ls.flatten)) s' ∧ s.n ≤ s'.n ∧ ∀ n0, n0 ≤ b → n0 ≤ s.w → n0 ≤ s'.w by
    obtain ⟨q, e, s', rfl, r⟩ := hh
    exact ⟨s', e, r⟩
  refine W_call (fn := p81) (by rfl) (by simp [p81]) ?_
  generalize hQ : EndQ p81 s _ = Q
  unfold p81
  obtain ⟨ne, b1, b2, b3, b4, ⟨v, low, e1, e2, e3⟩, ⟨low', g1, g2⟩⟩ := h
  refine W_rseq (fun f s' => s' = (⟨s.h, s.n, s.n⟩ : PS).new ⟨x.cells, 0, 28⟩ ∧ f 1 = .ptr pl 0 1 ∧ f 2 = .ptr pv 0 1 ∧ f 3 = .ptr s.n 0 9) ?_ ?_
  · simp -implicitDefEqProofs only [pops_u, pops_nil, runK_some, actP, opP, initP, Nat.zero_add, Nat.reduceAdd, pval_tmp, set_at, cellsP, ↓reduceIte]
    exact ⟨_, _, rfl, rfl, rfl, rfl, rfl⟩
  rintro f s1 ⟨hs1, p1, p2, p3⟩
  have n1 : s1.n = s.n + 1 := by rw [hs1]; rfl
  have w1 : s1.w = s.n := by rw [hs1]; rfl
  have o1 : ∀ j, j < s.n → s1.h j = s.h j := fun j hj => by rw [hs1, new_h]; show (if j = s.n then _ else _) = _; rw [if_neg (by omega)]
  have bx : s1.h s.n = ⟨x.cells, 0, 28⟩ := by rw [hs1, new_h]; exact if_pos rfl
  clear hs1
  have e1' : s1.h pl = ⟨[v], low, 25⟩ := by rw [o1 _ b1]; exact e1
  have hacc : AccL 28 9 NodeD.cells b (fun j => InX pl pv j ∨ j = s.n) l v (s1.new ⟨zeroN, 0, 28⟩) := by
    rcases e3 with h | ⟨hl, k, lo, k1, k2, kx, kv, k3, k4⟩
    · exact .inl h
    · exact .inr ⟨hl, k, lo, k1, by rw [new_n]; omega, fun hh => hh.elim kx (by omega), kv, by rw [new_h, if_neg (by omega), o1 _ k2]; exact k3, k4⟩
  obtain ⟨k, s2, s3, a1, a2, a3, a4, a5, a6, a7, a8, a9, a10⟩ := hacc.push (bytes := 160) (z := zeroN) NodeD.len rfl rfl x (by omega) (by omega) (by omega) hox (by rw [new_n]; omega) (fun hh => by rw [new_n] at hh; rcases hh with (hh | hh) | hh <;> omega)
  rw [new_n] at a4 a5
  rw [new_w] at a7
  have hkl : k ≠ pl := fun hh => a8 (.inl (.inl hh))
  have L3 : s3.h pl = ⟨[v], low, 25⟩ := by rw [a4 _ (by omega) (.inr (.inl (.inl rfl))), new_h, if_neg (by omega)]; exact e1'
  have L4 : s3.h pv = ⟨[.fn 81 [] [.ptr pl 0 1, .ptr pv 0 1]], low', 103⟩ := by rw [a4 _ (by omega) (.inr (.inl (.inr rfl))), new_h, if_neg (by omega), o1 _ b2]; exact g1
  have L5 : s3.h s.n = ⟨x.cells, 0, 28⟩ := by rw [a4 _ (by omega) (.inr (.inr rfl)), new_h, if_neg (by omega)]; exact bx
  have hvis : VisI b pl pv (l ++ [x]) (s3.put pl ⟨[.own k 0 (l.length + 1) ((l.length + 1) * 9)], 1, 25⟩) := by
    refine ⟨ne, by rw [put_n]; omega, by rw [put_n]; omega, b3, b4, ⟨_, 1, by rw [put_h, if_pos rfl], Nat.le_refl _, ?_⟩, ⟨low', by rw [put_h, if_neg (fun hh => ne hh.symm)]; exact L4, g2⟩⟩
    rcases a3 with ⟨h, _⟩ | ⟨hl, k', lo, k1, k2, kx, kv, k3, k4⟩
    · simp at h
    · refine .inr ⟨hl, k', lo, k1, by rw [put_n]; exact k2, fun hh => kx (.inl hh), kv, ?_, k4⟩
      rw [put_h, if_neg (fun hh => kx (.inl (.inl hh)))]
      exact k3
  refine W_dseq (fun f' s' => VisI b pl pv (l ++ [x]) s' ∧ s'.h s.n = ⟨x.cells, 0, 28⟩ ∧ s.n + 1 ≤ s'.n ∧ (∀ n0, n0 ≤ b → n0 ≤ s'.w) ∧ f' 1 = .ptr pl 0 1 ∧ f' 2 = .ptr pv 0 1 ∧ f' 3 = .ptr s.n 0 9) ?_ ?_
  · have hlen := AccL.len e3
    have hel := one_bs (e := 28) s1 zeroN
    have hst : stP s3 (.ptr pl 0 1) [.own k 0 (l.length + 1) ((l.length + 1) * 9)] = some (s3.put pl ⟨[.own k 0 (l.length + 1) ((l.length + 1) * 9)], 1, 25⟩) := by
      rw [st_ptr, L3]; rfl
    have hlt : l.length < l.length + 1 := Nat.lt_succ_self _
    simp only [NodeD.cells] at bx a2
    simp only [List.length_cons, List.length_nil, Nat.zero_add, Nat.reduceAdd] at hel
    have hlow : low ≤ 1 ∧ 1 ≤ [v].length := ⟨e2, Nat.le_refl _⟩
    simp -implicitDefEqProofs only [actP, opP, Nat.zero_add, Nat.reduceAdd, Option.map_some, Option.bind_some, pval_tmp, pval_const, set_at, Nat.reduceEqDiff, cellsP, ↓reduceIte, pvOf, new_n, put_n, ld_ptr, ofCells, List.length_cons, List.length_nil, Nat.one_ne_zero, Nat.zero_le, and_self, List.drop_succ_cons, List.drop_zero, List.take_succ_cons, List.take_zero, Nat.le_refl, List.map_cons, List.map_nil, List.nil_append, List.append_nil, Bool.false_eq_true, ne_eq, not_false_eq_true, reduceCtorEq, natP_cast, pdraw_nil, pdraw_u, drK_some, drK_none, only_at, effO, effA, pureI, okAll_nil, okAll_cons, okPair_e, List.mem_cons, List.not_mem_nil, or_false, or_true, or_self, implies_true, false_implies, p1, p3, e1', bx, e2, hlen, fillP, hel, a1, a2, hst, hlt, okPair_rd, okPair_ww, okPair_nw, hkl, a6, List.drop_nil, List.take_nil]
    refine ⟨_, _, rfl, hvis, ?_, by rw [put_n]; omega, fun n0 hn => ?_, p1, p2, p3⟩
    · rw [put_h, if_neg (by omega)]; exact L5
    · rw [put_w]
      have := a7 n0 hn (by omega)
      omega
  rintro f s4 ⟨v1, v2, v3, v4, p1, p2, p3⟩
  obtain ⟨cv, c1, c2⟩ := hk s4
  have c3 := c2.len
  refine W_rseq (fun f' s' => s4 = s' ∧ f' 1 = .ptr pl 0 1 ∧ f' 2 = .ptr pv 0 1 ∧ f' 13 = cv ∧ f' 14 = .sc (.int .i64 (kl.length : Int)) ∧ f' 15 = .sc (.int .i64 ((0 : Nat) : Int))) ?_ ?_
  · simp only [NodeD.cells] at v2 c1
    simp -implicitDefEqProofs only [pops_u, pops_nil, runK_some, actP, opP, Nat.zero_add, Nat.reduceAdd, Option.map_some, Option.bind_some, pval_tmp, pval_const, pval_func, set_at, ↓reduceIte, pvOf, ld_ptr, ofCells, List.length_cons, List.length_nil, Nat.zero_le, and_self, List.drop_zero, List.take_succ_cons, List.take_zero, Nat.le_refl, callP, List.map_cons, List.map_nil, List.nil_append, List.append_nil, p3, v2, c1, c3]
    exact ⟨_, _, rfl, rfl, p1, p2, rfl, rfl, rfl⟩
  rintro f _ ⟨rfl, p1, p2, p13, p14, p15⟩
  refine W_lend kl.length (fun i f s' => (VisI b pl pv ((l ++ [x]) ++ (Ls.take i).flatten) s' ∧ s.n ≤ s'.n ∧ (∀ n0, n0 ≤ b → n0 ≤ s'.w) ∧ f 1 = .ptr pl 0 1 ∧ f 2 = .ptr pv 0 1 ∧ f 13 = cv ∧ f 14 = .sc (.int .i64 (kl.length : Int))) ∧ f 15 = .sc (.int .i64 (i : Int))) (fun _ s' => VisI b pl pv ((l ++ [x]) ++ Ls.flatten) s' ∧ s.n ≤ s'.n ∧ ∀ n0, n0 ≤ b → n0 ≤ s'.w) ⟨⟨by rw [List.take_zero, List.flatten_nil, List.append_nil]; exact v1, by omega, v4, p1, p2, p13, p14⟩, p15⟩ ?_ ?_
  · rintro i f s5 hi ⟨⟨u1, u2, u3, p1, p2, p13, p14⟩, p15⟩ N K hN hK
    by_cases hlt : i < kl.length
    · have h5 : (decide ((i : Int) < (kl.length : Int))) = true := by simp; exact hlt
      have hx : kl[i]? = some (kl[i]) := List.getElem?_eq_getElem hlt
      generalize kl[i] = y at hx
      have hy := hko y (List.mem_of_getElem? hx)
      have hL : Ls[i]? = some (Ls[i]'(by omega)) := List.getElem?_eq_getElem (by omega)
      generalize Ls[i]'(by omega) = L at hL
      have hfl : (Ls.take (i + 1)).flatten = (Ls.take i).flatten ++ L := by rw [List.take_add_one, hL, List.flatten_append]; simp
      have hle : (Ls.take (i + 1)).flatten.length ≤ Ls.flatten.length := by
        conv => rhs; rw [← List.take_append_drop (i + 1) Ls, List.flatten_append, List.length_append]
        omega
      rw [hfl, List.length_append] at hle
      have h7 := wrap_succ (i := i) (by omega)
      refine W_rseq (fun f' s' => f' = f.set 16 (.sc (.bool true)) ∧ s5 = s') ?_ ?_
      · simp -implicitDefEqProofs only [pops_u, pops_nil, runK_some, actP, opP, Option.map_some, pval_tmp, bin_lss, p14, p15, h5]
        exact ⟨_, _, rfl, rfl, rfl⟩
      rintro _ _ ⟨rfl, rfl⟩
      refine W_cseq (v := true) (by simp -implicitDefEqProofs only [pval_tmp, set_at, ↓reduceIte, asBool_b]) ?_
      refine W_skip ?_
      refine W_bseq (fun f' s' => (VisI b pl pv ((l ++ [x]) ++ (Ls.take (i + 1)).flatten) s' ∧ s.n ≤ s'.n ∧ (∀ n0, n0 ≤ b → n0 ≤ s'.w) ∧ f' 1 = .ptr pl 0 1 ∧ f' 2 = .ptr pv 0 1 ∧ f' 13 = cv ∧ f' 14 = .sc (.int .i64 (kl.length : Int))) ∧ f' 15 = .sc (.int .i64 (i : Int))) ?_ ?_
      · have hia : opP Tryz.prog (f.set 16 (.sc (.bool true))) s5 (.iaddr 9 (.tmp 13) (.tmp 15)) = some (.litp ((kl.flatMap NodeD.cells).drop (i * 9)), s5) := c2.iaddr NodeD.len (by rw [pval_tmp, set_at]; exact p13) (by rw [pval_tmp, set_at]; show natP (f 15) = _; rw [p15, natP_cast]) hlt
        have h3 := ld_sl NodeD.len hx
        have hyl : y.cells.length = 9 := y.len
        refine W_rseq (fun f' s' => f' 1 = .ptr pl 0 1 ∧ f' 2 = .ptr pv 0 1 ∧ f' 13 = cv ∧ f' 14 = .sc (.int .i64 (kl.length : Int)) ∧ f' 15 = .sc (.int .i64 (i : Int)) ∧ f' 5 = .ptr s5.n 0 9 ∧ s'.h s5.n = ⟨y.cells, 9, 28⟩ ∧ s5.n + 1 = s'.n ∧ (∀ n0, n0 ≤ b → n0 ≤ s'.w) ∧ ∀ j, j < s5.n → s'.h j = s5.h j) ?_ ?_
        · rw [pops_u]
          simp only [actP]
          rw [hia, runK_some]
          simp -implicitDefEqProofs only [pops_u, pops_nil, runK_some, runK_none, actP, opP, Nat.zero_add, Nat.reduceAdd, Option.map_some, Option.bind_some, pval_tmp, set_at, Nat.reduceEqDiff, cellsP, ↓reduceIte, pvOf, new_h, ofCells, List.length_cons, List.length_nil, List.map_cons, List.map_nil, st_all, h3, hyl, hy]
          refine ⟨_, _, rfl, p1, p2, p13, p14, p15, rfl, ?_, rfl, fun n0 hn => ?_, fun j hj => ?_⟩
          · simp -implicitDefEqProofs only [↓reduceIte, put_h]
          · have := u3 n0 hn
            have := u1.b3
            have := u1.b1
            simp only [put_w, new_w]; omega
          · rw [put_h, if_neg (by omega), new_h, if_neg (by omega)]
        rintro f' s6 ⟨r1, r2, r3, r4, r5, r6, r7, r8, r9, r10⟩
        have u6 := u1.frame (s' := s6) (by omega) r10
        obtain ⟨s7, t1, t2, t3, t4⟩ := hc i y L hx hL _ s6 u6 (by simp only [List.length_append, List.length_cons, List.length_nil]; omega)
        obtain ⟨lowg, gg1, gg2⟩ := u6.g
        simp only [NodeD.cells] at r7 t1
        refine W_reg ?_
        simp -implicitDefEqProofs only [pops_u, pops_nil, runK_some, actP, opP, Nat.zero_add, Nat.reduceAdd, Option.map_some, Option.bind_some, pval_tmp, set_at, Nat.reduceEqDiff, ↓reduceIte, ld_ptr, ofCells, List.length_cons, List.length_nil, and_self, true_and, List.drop_zero, List.take_succ_cons, List.take_zero, Nat.le_refl, callP, List.map_cons, List.map_nil, List.nil_append, List.cons_append, Bool.false_eq_true, r2, r6, r7, gg1, gg2, t1]
        refine ⟨_, _, rfl, ⟨?_, by omega, fun n0 hn => t4 n0 hn (r9 n0 hn), r1, r2, r3, r4⟩, r5⟩
        rw [hfl, ← List.append_assoc]
        exact t2
      · rintro f' s' ⟨⟨g1, g2, g3, g4, g5, g6, g7⟩, g8⟩
        refine W_reg ?_
        simp -implicitDefEqProofs only [pops_u, pops_nil, runK_some, actP, opP, Option.map_some, pval_tmp, pval_const, set_at, ↓reduceIte, pvOf, bin_add, rnd_n, g8, h7]
        exact ⟨_, _, rfl, hN _ _ hlt ⟨⟨g1, g2, g3, g4, g5, g6, g7⟩, rfl⟩⟩
    · obtain rfl : i = kl.length := by omega
      have h5 : (decide ((kl.length : Int) < (kl.length : Int))) = false := by simp
      simp -implicitDefEqProofs only [pcode_seq, pcode_r, pcode_skip, pcode_exit, pcode_cond, pops_u, pops_nil, runK_some, actP, opP, Option.map_some, pval_tmp, set_at, ↓reduceIte, seq_n, seq_e, cond_f, asBool_b, regE_some, true_and, bin_lss, W_some, rnd_e, p14, p15, h5]
      refine hK _ _ ⟨?_, u2, u3⟩
      rw [← hLs, List.take_length] at u1
      exact u1
  · rintro f s5 ⟨u1, u2, u3⟩
    subst hQ
    refine endQ_n (leave_k rfl rfl) ⟨_, rfl, ?_, u2, fun n0 h1 h2 => ?_⟩
    · rw [List.append_assoc] at u1
      obtain ⟨z1, z2, z3, z4, z5, z6, z7⟩ := u1
      exact ⟨z1, z2, z3, z4, z5, z6, z7⟩
    · have := u3 n0 h1
      show n0 ≤ min s.w s5.w
      omega
end Go.Proofs.YtdkcfccepjimbaaGreatDoor

namespace Go.Proofs.YtdkcfccepjimbaaGreatDoor
open Go Go.EvL Go.PE
variable {ext : PCallF}
/-! jobshellref11.Walk -/
structure WlkI (x : NodeD) (b : Nat) (l : List NodeD) (f : PFr) (s : PS) : Prop where
  p : f 1 = .ptr b 0 9
  h : s.h b = ⟨x.cells, 0, 28⟩
  n : b + 1 ≤ s.n
  w : b ≤ s.w
  acc : Acc 28 9 NodeD.cells (b + 1) l (f 3) s
theorem walk_node (x : NodeD) (hox : x.cells.all oneP = true) (hcx : x.cells.all clean1 = true) (kl : List NodeD) (Ls : List (List NodeD)) (h40 : ∀ s, pcall Tryz.prog Γ ext 40 [.agg x.cells] s = some (slP 28 NodeD.cells (optL kl), s))
    (hLs : Ls.length = kl.length) (hk : ∀ (i : Nat) k L, kl[i]? = some k → Ls[i]? = some L → ∀ s, pcall Tryz.prog Γ ext 24 [.agg k.cells] s = some (slP 28 NodeD.cells (optL L), s)) (hLo : ∀ y ∈ Ls.flatten, y.cells.all oneP = true ∧ y.cells.all clean1 = true)
    (hbig : 1 + Ls.flatten.length ≤ 100000000) (hkn : kl.length ≤ 100000000) (s : PS) :
    pcall Tryz.prog Γ ext 24 [.agg x.cells] s = some (slP 28 NodeD.cells (optL (x :: Ls.flatten)), s) := by
  have LK := slP_len (e := 28) (c := NodeD.cells) (optL kl)
  rw [optL_get] at LK
  suffices h : ∃ q, pcall Tryz.prog Γ ext 24 [.agg x.cells] s = some q ∧ q = (slP 28 NodeD.cells (optL (x :: Ls.flatten)), s) by
    obtain ⟨q, e, rfl⟩ := h
    exact e
  refine W_call (fn := p24) (by rfl) (by simp [p24]) ?_
  generalize hQ : EndQ p24 s _ = Q
  unfold p24
  refine W_rseq (fun f s' => f 1 = .ptr s.n 0 9 ∧ s'.h s.n = ⟨x.cells, 0, 28⟩ ∧ s'.n = s.n + 1 ∧ s'.w = s.n) ?_ ?_
  · simp -implicitDefEqProofs only [pops_u, pops_nil, runK_some, actP, opP, initP, pval_tmp, pval_const, set_at, cellsP, ↓reduceIte, pvOf]
    exact ⟨_, _, rfl, rfl, by simp -implicitDefEqProofs only [↓reduceIte, new_h], rfl, rfl⟩
  rintro f s1 ⟨p1, p2, p3, p4⟩
  refine W_rseq (WlkI x s.n [x]) ?_ ?_
  · have q2 := p2
    simp only [NodeD.cells] at q2
    simp -implicitDefEqProofs only [pops_u, pops_nil, runK_some, actP, opP, Nat.zero_add, Nat.reduceAdd, Option.map_some, Option.bind_some, pval_tmp, set_at, cellsP, ↓reduceIte, ld_ptr, ofCells, List.length_cons, List.length_nil, Nat.zero_le, and_self, List.drop_succ_cons, List.drop_zero, List.take_succ_cons, List.take_zero, Nat.le_refl, List.map_cons, List.map_nil, List.nil_append, List.append_nil, p1, q2, fillP, List.drop_nil, List.take_nil]
    refine ⟨_, _, rfl, p1, ?_, by rw [new_n]; omega, by rw [new_w]; omega, .inr ⟨by simp, s1.n, by omega, by rw [new_n]; omega, rfl, by rw [new_h, if_pos rfl]; rfl⟩⟩
    rw [new_h, if_neg (by omega)]
    exact p2
  rintro f s1 ⟨p1, p2, p3, p4, p5⟩
  refine W_rseq (fun f s1 => WlkI x s.n [x] f s1 ∧ f 4 = slP 28 NodeD.cells (optL kl)) ?_ ?_
  · have q2 := p2
    simp only [NodeD.cells] at q2 h40
    simp -implicitDefEqProofs only [pops_u, pops_nil, runK_some, actP, opP, Nat.zero_add, Nat.reduceAdd, Option.map_some, Option.bind_some, pval_tmp, pval_func, set_at, ↓reduceIte, ld_ptr, ofCells, List.length_cons, List.length_nil, Nat.zero_le, and_self, List.drop_zero, List.take_succ_cons, List.take_zero, Nat.le_refl, callP, List.map_cons, List.map_nil, List.nil_append, List.append_nil, p1, q2, h40]
    exact ⟨_, _, rfl, ⟨p1, p2, p3, p4, p5⟩, rfl⟩
  rintro f s1 ⟨hI, h6⟩
  refine W_assoc ?_
  refine W_rseq (fun f s1 => (WlkI x s.n ([x] ++ (Ls.take 0).flatten) f s1 ∧ f 4 = slP 28 NodeD.cells (optL kl)) ∧ f 5 = .sc (.int .i64 ((0 : Nat) : Int))) ?_ ?_
  · obtain ⟨p1, p2, p3, p4, p5⟩ := hI
    simp -implicitDefEqProofs only [pops_u, pops_nil, runK_some, actP, opP, pval_const, pvOf, List.take_zero, List.nil_append, List.cons_append]
    exact ⟨_, _, rfl, ⟨⟨p1, p2, p3, p4, by first | exact p5 | (rw [List.flatten_nil]; first | exact p5 | (rw [List.append_nil]; exact p5))⟩, h6⟩, rfl⟩
  rintro f s1 hI
  refine W_lseq' kl.length (fun i f s1 => (WlkI x s.n ([x] ++ (Ls.take i).flatten) f s1 ∧ f 4 = slP 28 NodeD.cells (optL kl)) ∧ f 5 = .sc (.int .i64 (i : Int))) (fun f s1 => WlkI x s.n ([x] ++ Ls.flatten) f s1) hI ?_ ?_
  · rintro i f s1 hi ⟨⟨⟨p1, p2, p3, p4, p5⟩, hw⟩, h4⟩ N K hN hK
    by_cases hlt : i < kl.length
    · have h5 : (decide ((i : Int) < (kl.length : Int))) = true := by simp; exact hlt
      have hx : kl[i]? = some (kl[i]) := List.getElem?_eq_getElem hlt
      generalize kl[i] = y at hx
      have hL : Ls[i]? = some (Ls[i]'(by omega)) := List.getElem?_eq_getElem (by omega)
      generalize Ls[i]'(by omega) = L at hL
      have hfl : (Ls.take (i + 1)).flatten = (Ls.take i).flatten ++ L := by rw [List.take_add_one, hL, List.flatten_append]; simp
      have hle : (Ls.take (i + 1)).flatten.length ≤ Ls.flatten.length := by
        conv => rhs; rw [← List.take_append_drop (i + 1) Ls, List.flatten_append, List.length_append]
        omega
      rw [hfl, List.length_append] at hle
      obtain ⟨v', s', a1, a2, a3, a4, a5⟩ := p5.app (bytes := 160) NodeD.len L (by omega) (by simp only [List.length_append, List.length_cons, List.length_nil]; omega) (by simp only [List.length_append, List.length_cons, List.length_nil]; omega) (fun z hz => (hLo z (List.mem_flatten.2 ⟨L, List.mem_of_getElem? hL, hz⟩)).1) p3
      have h6 : s'.h s.n = ⟨x.cells, 0, 28⟩ := by rw [a3 _ (by omega)]; exact p2
      have h8 : s.n ≤ s'.w := a5 _ (by omega) p4
      have hc := hk i y L hx hL
      have he := elems_sl (e := 28) NodeD.len (optL L) s1
      rw [optL_get] at he
      have hw' := hw
      obtain hop : optL kl = some kl := by cases kl with | nil => simp at hx | cons a l => rfl
      rw [hop] at hw' LK
      simp only [slP] at hw' LK
      have h1 := flat_len NodeD.len kl
      have h3 := ld_sl NodeD.len hx
      have h7 := wrap_succ (i := i) (by omega)
      simp -implicitDefEqProofs only [pcode_seq, pcode_r, pcode_skip, pcode_exit, pcode_cond, pcode_block, pops_u, pops_nil, runK_some, actP, opP, Option.map_some, Option.bind_some, pval_tmp, pval_const, pval_func, set_at, Nat.reduceEqDiff, ↓reduceIte, pvOf, seq_n, blk_n, cond_t, asBool_b, regE_some, ofCells, and_self, bin_add, bin_lss, callP, List.map_cons, List.map_nil, List.nil_append, List.append_nil, natP_cast, W_some, rnd_n, hw', h4, LK, h5, h7, hlt, h1, h3, hc, he, a1]
      refine hN _ _ hlt ⟨⟨⟨p1, h6, by omega, h8, ?_⟩, hw⟩, rfl⟩
      show Acc 28 9 NodeD.cells (s.n + 1) ([x] ++ (Ls.take (i + 1)).flatten) v' s'
      rw [hfl, ← List.append_assoc]
      exact a2
    · obtain rfl : i = kl.length := by omega
      have h5 : (decide ((kl.length : Int) < (kl.length : Int))) = false := by simp
      simp -implicitDefEqProofs only [pcode_seq, pcode_r, pcode_skip, pcode_exit, pcode_cond, pops_u, pops_nil, runK_some, actP, opP, Option.map_some, pval_tmp, set_at, Nat.reduceEqDiff, ↓reduceIte, seq_n, seq_e, cond_f, asBool_b, regE_some, true_and, bin_lss, W_some, rnd_e, hw, h4, LK, h5]
      refine hK _ _ ⟨p1, p2, p3, p4, ?_⟩
      rw [← hLs, List.take_length] at p5
      exact p5
  · rintro f s1 ⟨p1, p2, p3, p4, p5⟩
    refine W_rret ?_
    simp -implicitDefEqProofs only [pops_u, pops_nil, runK_some, actP, opP, pval_tmp, set_at, ↓reduceIte]
    refine ⟨_, _, rfl, ?_⟩
    subst hQ
    refine endQ_r ?_ rfl
    refine leave_p (vs := [f 3]) rfl rfl p4 ?_
    refine frz_of (p5.frz NodeD.len (by omega) fun y hy => ?_)
    rcases List.mem_cons.1 hy with rfl | hy
    · exact hcx
    · exact (hLo y hy).2
end Go.Proofs.YtdkcfccepjimbaaGreatDoor

namespace Go.Proofs.YtdkcfccepjimbaaGreatDoor
open Go Go.EvL Go.PE
variable {ext : PCallF}
/-! the two walks meet the same nodes -/
structure Walks (ext : PCallF) (D : Nat) (x : NodeD) (wl : List NodeD) : Prop where
  ne : wl ≠ []
  len : wl.length ≤ bulks x.cells
  all : ∀ z ∈ wl, (∃ d, NodeAt D d z) ∧ bulks z.cells ≤ 16777216
  ref : ∀ s, pcall Tryz.prog Γ ext 24 [.agg x.cells] s = some (slP 28 NodeD.cells (optL wl), s)
  run : ∀ b pl pv l s, VisI b pl pv l s → l.length + wl.length ≤ 100000000 → ∃ s', pcall Tryz.prog Γ ext 81 [.agg x.cells, .ptr pl 0 1, .ptr pv 0 1] s = some (.tup [], s') ∧ VisI b pl pv (l ++ wl) s' ∧ s.n ≤ s'.n ∧ ∀ n0, n0 ≤ b → n0 ≤ s.w → n0 ≤ s'.w
theorem walks_ok {D : Nat} : ∀ (d : Nat) (x : NodeD), NodeAt D d x → bulks x.cells ≤ 16777216 → ∃ wl, Walks ext D x wl := by
  intro d
  induction d with
  | zero => intro x h; cases h
  | succ d ih =>
    intro x hx hN
    obtain ⟨la, lw, lr, lk, li, pt, bd, hd⟩ := hx.dec
    obtain ⟨n1, n2, n3, n4⟩ := hd.sizes hN
    have hkb := hd.kidsBulk
    have h40 := hd.kids_ok (ext := ext) hN
    have h44 := hd.children_ok (ext := ext) hN
    have hkl : (kidsL (lk.getD []) (li.getD []) bd).length ≤ 16777216 := by simp only [kidsL, List.length_append]; exact n2
    have hko : ∀ k ∈ kidsL (lk.getD []) (li.getD []) bd, k.cells.all oneP = true := fun k hk => (hd.kids k hk).ones
    obtain ⟨Ls, l1, l2⟩ := choose_lists ([] : List NodeD) (R := fun i kx L => Walks ext D kx L) (kidsL (lk.getD []) (li.getD []) bd) (fun i kx hkx => ih kx (hd.kids kx (List.mem_of_getElem? hkx)) (n4 kx (List.mem_of_getElem? hkx)))
    have hfl := len_flatten (c := NodeD.cells) _ Ls l1 (fun i kx L h1 h2 => (l2 i kx L h1 h2).len)
    have hall : ∀ z ∈ Ls.flatten, (∃ d, NodeAt D d z) ∧ bulks z.cells ≤ 16777216 := fun z hz => by
      obtain ⟨L, hL, hzL⟩ := List.mem_flatten.1 hz
      obtain ⟨i, hi⟩ := List.mem_iff_getElem?.1 hL
      have hlt := (List.getElem?_eq_some_iff.1 hi).1
      exact (l2 i _ L (List.getElem?_eq_getElem (by omega)) hi).all z hzL
    refine ⟨x :: Ls.flatten, by simp, by simp only [List.length_cons]; omega, ?_, ?_, ?_⟩
    · intro z hz
      rcases List.mem_cons.1 hz with rfl | hz
      · exact ⟨⟨_, hx⟩, hN⟩
      · exact hall z hz
    · exact walk_node x hx.ones hx.cleans _ Ls h40 l1 (fun i k L h1 h2 => (l2 i k L h1 h2).ref) (fun y hy => by
        obtain ⟨⟨d', hd'⟩, _⟩ := hall y hy
        exact ⟨hd'.ones, hd'.cleans⟩) (by omega) (by omega)
    · intro b pl pv l s hI hbig
      simp only [List.length_cons] at hbig
      exact visit_node hx.ones h44 hko hkl l1 (fun i k L h1 h2 l s hI hb => (l2 i k L h1 h2).run b pl pv l s hI hb) hI (by omega)
/-- syntax.preorder -/
theorem preorder_ok {D : Nat} {x : NodeD} {wl : List NodeD} (h : Walks ext D x wl) (hN : bulks x.cells ≤ 16777216) (s : PS) :
    ∃ k low s', pcall Tryz.prog Γ ext 41 [.agg x.cells] s = some (.own k 0 wl.length (wl.length * 9), s') ∧ s.n ≤ k ∧ k < s'.n ∧ s'.h k = ⟨wl.flatMap NodeD.cells, low, 28⟩ ∧ low ≤ wl.length * 9 ∧ s.n ≤ s'.n ∧ (s.w ≤ s.n → s.w ≤ s'.w) := by
  suffices hh : ∃ q, pcall Tryz.prog Γ ext 41 [.agg x.cells] s = some q ∧ ∃ k low s', q = (.own k 0 wl.length (wl.length * 9), s') ∧ s.n ≤ k ∧ k < s'.n ∧ s'.h k = ⟨wl.flatMap NodeD.cells, low, 28⟩ ∧ low ≤ wl.length * 9 ∧ s.n ≤ s'.n ∧ (s.w ≤ s.n → s.w ≤ s'.w) by
    obtain ⟨q, e, k, low, s', rfl, r⟩ := hh
    exact ⟨k, low, s', e, r⟩
  have hlen := h.len
  refine W_call (fn := p41) (by rfl) (by simp [p41]) ?_
  generalize hQ : EndQ p41 s _ = Q
  unfold p41
  refine W_rseq (fun f s' => s' = (⟨s.h, s.n, s.n⟩ : PS).new ⟨x.cells, 0, 28⟩ ∧ f 1 = .ptr s.n 0 9) ?_ ?_
  · simp -implicitDefEqProofs only [pops_u, pops_nil, runK_some, actP, opP, initP, pval_tmp, pval_const, set_at, cellsP, ↓reduceIte, pvOf]
    exact ⟨_, _, rfl, rfl, rfl⟩
  rintro f s1 ⟨hs1, p1⟩
  refine W_rseq (fun f s' => s' = s1.new ⟨[.sc (.slice none 0 0)], 0, 25⟩ ∧ f 1 = .ptr s.n 0 9 ∧ f 3 = .ptr (s.n + 1) 0 1) ?_ ?_
  · simp -implicitDefEqProofs only [pops_u, pops_nil, runK_some, actP, opP, Nat.zero_add, cellsP, pvOf, List.length_cons, List.length_nil]
    exact ⟨_, _, rfl, rfl, p1, by rw [hs1]; rfl⟩
  rintro f s2 ⟨hs2, p1, p3⟩
  refine W_rseq (fun f s' => s' = s2.new ⟨[.sc .nilFunc], 0, 103⟩ ∧ f 1 = .ptr s.n 0 9 ∧ f 3 = .ptr (s.n + 1) 0 1 ∧ f 4 = .ptr (s.n + 2) 0 1) ?_ ?_
  · simp -implicitDefEqProofs only [pops_u, pops_nil, runK_some, actP, opP, Nat.zero_add, cellsP, pvOf, List.length_cons, List.length_nil]
    exact ⟨_, _, rfl, rfl, p1, p3, by rw [hs2, hs1]; rfl⟩
  rintro f s3 ⟨hs3, p1, p3, p4⟩
  have n3 : s3.n = s.n + 3 := by rw [hs3, hs2, hs1]; rfl
  have w3 : s3.w = s.n := by rw [hs3, hs2, hs1]; rfl
  have x3 : s3.h s.n = ⟨x.cells, 0, 28⟩ := by
    rw [hs3, new_h, if_neg (by rw [hs2, hs1]; show ¬ s.n = s.n + 1 + 1; omega), hs2, new_h, if_neg (by rw [hs1]; show ¬ s.n = s.n + 1; omega), hs1, new_h, if_pos rfl]
  have l3 : s3.h (s.n + 1) = ⟨[.sc (.slice none 0 0)], 0, 25⟩ := by
    rw [hs3, new_h, if_neg (by rw [hs2, hs1]; show ¬ s.n + 1 = s.n + 1 + 1; omega), hs2, new_h, if_pos (by rw [hs1]; rfl)]
  have v3 : s3.h (s.n + 2) = ⟨[.sc .nilFunc], 0, 103⟩ := by
    rw [hs3, new_h, if_pos (by rw [hs2, hs1]; rfl)]
  clear hs1 hs2 hs3
  refine W_rseq (fun f s' => s' = s3.put (s.n + 2) ⟨[.fn 81 [] [.ptr (s.n + 1) 0 1, .ptr (s.n + 2) 0 1]], 1, 103⟩ ∧ f 1 = .ptr s.n 0 9 ∧ f 3 = .ptr (s.n + 1) 0 1 ∧ f 4 = .ptr (s.n + 2) 0 1) ?_ ?_
  · have hst : stP s3 (.ptr (s.n + 2) 0 1) [.fn 81 [] [.ptr (s.n + 1) 0 1, .ptr (s.n + 2) 0 1]] = some (s3.put (s.n + 2) ⟨[.fn 81 [] [.ptr (s.n + 1) 0 1, .ptr (s.n + 2) 0 1]], 1, 103⟩) := by
      rw [st_ptr, v3]; rfl
    simp -implicitDefEqProofs only [pops_u, pops_nil, runK_some, runK_none, actP, opP, Nat.zero_add, Option.map_some, pval_tmp, set_at, Nat.reduceEqDiff, cellsP, ↓reduceIte, List.length_cons, List.length_nil, List.map_cons, List.map_nil, p3, p4, hst]
    exact ⟨_, _, rfl, rfl, p1, p3, p4⟩
  rintro f s4 ⟨hs4, p1, p3, p4⟩
  have hv : VisI (s.n + 1) (s.n + 1) (s.n + 2) [] s4 := by
    rw [hs4]
    refine ⟨by omega, by rw [put_n]; omega, by rw [put_n]; omega, by omega, by omega, ⟨_, 0, by rw [put_h, if_neg (by omega)]; exact l3, by omega, .inl ⟨rfl, rfl⟩⟩, ⟨1, by rw [put_h, if_pos rfl], Nat.le_refl _⟩⟩
  have x4 : s4.h s.n = ⟨x.cells, 0, 28⟩ := by rw [hs4, put_h, if_neg (by omega)]; exact x3
  have n4 : s4.n = s.n + 3 := by rw [hs4, put_n]; exact n3
  have w4 : s.n ≤ s4.w := by rw [hs4, put_w]; omega
  clear hs4
  obtain ⟨s5, c1, c2, c3, c4⟩ := h.run _ _ _ _ _ hv (by simp only [List.length_nil]; omega)
  rw [List.nil_append] at c2
  obtain ⟨lowg, g1, g2⟩ := hv.g
  refine W_rseq (fun f s' => s5 = s' ∧ f 3 = .ptr (s.n + 1) 0 1) ?_ ?_
  · simp only [NodeD.cells] at x4 c1
    simp -implicitDefEqProofs only [pops_u, pops_nil, runK_some, actP, opP, Nat.zero_add, Nat.reduceAdd, Option.map_some, Option.bind_some, pval_tmp, set_at, Nat.reduceEqDiff, ↓reduceIte, ld_ptr, ofCells, List.length_cons, List.length_nil, Nat.zero_le, and_self, List.drop_zero, List.take_succ_cons, List.take_zero, Nat.le_refl, callP, List.map_cons, List.map_nil, List.nil_append, List.cons_append, Bool.false_eq_true, p1, p4, x4, g1, g2, c1]
    exact ⟨_, _, rfl, rfl, p3⟩
  rintro f _ ⟨rfl, p3⟩
  obtain ⟨v, low, e1, e2, e3⟩ := c2.v
  rcases e3 with ⟨e3, _⟩ | ⟨_, k, lo, k1, k2, kx, rfl, k3, k4⟩
  · exact absurd e3 h.ne
  refine W_rret ?_
  simp -implicitDefEqProofs only [pops_u, pops_nil, runK_some, actP, opP, Nat.zero_add, Option.map_some, Option.bind_some, pval_tmp, set_at, ↓reduceIte, ld_ptr, ofCells, List.length_cons, List.length_nil, and_self, List.drop_zero, List.take_succ_cons, List.take_zero, Nat.le_refl, Bool.false_eq_true, p3, e1, e2]
  refine ⟨_, _, rfl, ?_⟩
  subst hQ
  refine endQ_r (leave_k rfl rfl) ⟨k, lo, _, rfl, by omega, k2, k3, k4, ?_, fun hw => ?_⟩
  · show s.n ≤ s5.n
    omega
  · show s.w ≤ min s.w s5.w
    have := c4 s.n (by omega) w4
    omega
end Go.Proofs.YtdkcfccepjimbaaGreatDoor

namespace Go.Proofs.YtdkcfccepjimbaaGreatDoor
open Go Go.EvL Go.PE
variable {ext : PCallF}
/-! syntax.Walk -/
theorem mid_old {α : Type} {ys wl : List α} {i : Nat} {x : α} (hx : wl[i]? = some x) : ys.take i ++ wl.drop i = ys.take i ++ x :: wl.drop (i + 1) := by
  obtain ⟨h, rfl⟩ := List.getElem?_eq_some_iff.1 hx
  rw [List.drop_eq_getElem_cons h]
theorem mid_new {α : Type} {ys wl : List α} {i : Nat} {y : α} (hy : ys[i]? = some y) : ys.take (i + 1) ++ wl.drop (i + 1) = ys.take i ++ y :: wl.drop (i + 1) := by
  rw [List.take_add_one, hy]
  simp
structure WalI (wl ys : List NodeD) (b k : Nat) (i : Nat) (f : PFr) (s : PS) : Prop where
  a : f 3 = .own k 0 wl.length (wl.length * 9)
  c : f 8 = .own k 0 wl.length (wl.length * 9)
  n : f 9 = .sc (.int .i64 (wl.length : Int))
  x : f 10 = .sc (.int .i64 (i : Int))
  k1 : b ≤ k
  k2 : k < s.n
  w : b ≤ s.w
  h : ∃ low, s.h k = ⟨(ys.take i ++ wl.drop i).flatMap NodeD.cells, low, 28⟩ ∧ low ≤ wl.length * 9
theorem walk_fn {D : Nat} {x : NodeD} {wl ys : List NodeD} (h : Walks ext D x wl) (hN : bulks x.cells ≤ 16777216) (hys : ys.length = wl.length) (hcp : ∀ (i : Nat) z y, wl[i]? = some z → ys[i]? = some y → (∀ s, pcall Tryz.prog Γ ext 59 [.agg z.cells] s = some (.agg y.cells, s)) ∧ y.cells.all oneP = true ∧ y.cells.all clean1 = true) (s : PS) :
    pcall Tryz.prog Γ ext 23 [.agg x.cells] s = some (slP 28 NodeD.cells (some ys), s) := by
  suffices hh : ∃ q, pcall Tryz.prog Γ ext 23 [.agg x.cells] s = some q ∧ q = (slP 28 NodeD.cells (some ys), s) by
    obtain ⟨q, e, rfl⟩ := hh
    exact e
  have hlen := h.len
  refine W_call (fn := p23) (by rfl) (by simp [p23]) ?_
  generalize hQ : EndQ p23 s _ = Q
  unfold p23
  refine W_rseq (fun f s' => f 1 = .ptr s.n 0 9 ∧ s'.h s.n = ⟨x.cells, 0, 28⟩ ∧ s'.n = s.n + 1 ∧ s'.w = s.n) ?_ ?_
  · simp -implicitDefEqProofs only [pops_u, pops_nil, runK_some, actP, opP, initP, pval_tmp, pval_const, set_at, cellsP, ↓reduceIte, pvOf]
    exact ⟨_, _, rfl, rfl, by simp -implicitDefEqProofs only [↓reduceIte, new_h], rfl, rfl⟩
  rintro f s1 ⟨p1, p2, p3, p4⟩
  obtain ⟨k, low, s2, c1, c2, c3, c4, c5, c6, c7⟩ := preorder_ok h hN s1
  refine W_rseq (fun f s' => s2 = s' ∧ f 3 = .own k 0 wl.length (wl.length * 9)) ?_ ?_
  · simp only [NodeD.cells] at p2 c1
    simp -implicitDefEqProofs only [pops_u, pops_nil, runK_some, actP, opP, Nat.zero_add, Nat.reduceAdd, Option.map_some, Option.bind_some, pval_tmp, pval_func, set_at, ↓reduceIte, ld_ptr, ofCells, List.length_cons, List.length_nil, Nat.zero_le, and_self, List.drop_zero, List.take_succ_cons, List.take_zero, Nat.le_refl, callP, List.map_cons, List.map_nil, List.nil_append, List.append_nil, p1, p2, c1]
    exact ⟨_, _, rfl, rfl, rfl⟩
  rintro f _ ⟨rfl, p3'⟩
  refine W_assoc ?_
  refine W_rseq (WalI wl ys s.n k 0) ?_ ?_
  · simp -implicitDefEqProofs only [pops_u, pops_nil, runK_some, actP, opP, Option.map_some, pval_tmp, pval_const, set_at, ↓reduceIte, pvOf, p3', lenP]
    exact ⟨_, _, rfl, p3', rfl, rfl, rfl, by omega, by omega, by omega, ⟨low, by rw [c4]; rfl, c5⟩⟩
  intro f s3 hI
  refine W_lseq' wl.length (WalI wl ys s.n k) (WalI wl ys s.n k wl.length) hI ?_ ?_
  · rintro i f s3 hi ⟨q1, q2, q3, q4, q5, q6, q7, low3, q8, q9⟩ N K hN' hK
    by_cases hlt : i < wl.length
    · have h5 : (decide ((i : Int) < (wl.length : Int))) = true := by simp; exact hlt
      have hx : wl[i]? = some (wl[i]) := List.getElem?_eq_getElem hlt
      generalize wl[i] = z at hx
      have hy : ys[i]? = some (ys[i]'(by omega)) := List.getElem?_eq_getElem (by omega)
      generalize ys[i]'(by omega) = y at hy
      obtain ⟨hc, hyo, hyc⟩ := hcp i z y hx hy
      obtain ⟨⟨d', hd'⟩, _⟩ := h.all z (List.mem_of_getElem? hx)
      have hzo := hd'.ones
      have hzl : z.cells.length = 9 := z.len
      have hyl : y.cells.length = 9 := y.len
      have h7 := wrap_succ (i := i) (by omega)
      have hA : ((ys.take i).flatMap NodeD.cells).length = i * 9 := by rw [flat_len NodeD.len, List.length_take]; congr 1; omega
      have hmo := mid_old (ys := ys) hx
      have hmn := mid_new (wl := wl) hy
      rw [hmo, List.flatMap_append, List.flatMap_cons] at q8
      have hB : ((wl.drop (i + 1)).flatMap NodeD.cells).length = (wl.length - (i + 1)) * 9 := by rw [flat_len NodeD.len, List.length_drop]
      have hlen9 : i * 9 + 9 + (wl.length - (i + 1)) * 9 = wl.length * 9 := by omega
      refine W_rseq (fun f' s' => f' = f.set 11 (.sc (.bool true)) ∧ s3 = s') ?_ ?_
      · simp -implicitDefEqProofs only [pops_u, pops_nil, runK_some, actP, opP, Option.map_some, pval_tmp, bin_lss, q3, q4, h5]
        exact ⟨_, _, rfl, rfl, rfl⟩
      rintro _ _ ⟨rfl, rfl⟩
      refine W_cseq (v := true) (by simp -implicitDefEqProofs only [pval_tmp, set_at, ↓reduceIte, asBool_b]) ?_
      refine W_skip ?_
      refine W_bseq (fun f' s' => f' 3 = .own k 0 wl.length (wl.length * 9) ∧ f' 8 = .own k 0 wl.length (wl.length * 9) ∧ f' 9 = .sc (.int .i64 (wl.length : Int)) ∧ f' 10 = .sc (.int .i64 (i : Int)) ∧ k < s'.n ∧ s.n ≤ s'.w ∧ s'.h k = ⟨(ys.take (i + 1) ++ wl.drop (i + 1)).flatMap NodeD.cells, wl.length * 9, 28⟩) ?_ ?_
      · refine W_rseq (fun f' s' => f' 3 = .own k 0 wl.length (wl.length * 9) ∧ f' 8 = .own k 0 wl.length (wl.length * 9) ∧ f' 9 = .sc (.int .i64 (wl.length : Int)) ∧ f' 10 = .sc (.int .i64 (i : Int)) ∧ f' 4 = .sc (.int .i64 (i : Int)) ∧ f' 5 = .ptr s3.n 0 9 ∧ s'.h s3.n = ⟨z.cells, 9, 28⟩ ∧ s3.n + 1 = s'.n ∧ s.n ≤ s'.w ∧ s'.h k = s3.h k) ?_ ?_
        · have hld : ldP s3 (.ptr k (i * 9) (wl.length * 9)) 9 = some z.cells := by
            rw [ld_ptr, q8, if_pos ⟨by omega, q9, by simp only [List.length_append, hA, hB, hzl]; omega⟩, List.drop_left' hA, List.take_left' hzl]
          have hst : stP (s3.new ⟨zeroN, 0, 28⟩) (.ptr s3.n 0 9) z.cells = some ((s3.new ⟨zeroN, 0, 28⟩).put s3.n ⟨z.cells, 9, 28⟩) := by
            rw [st_ptr, new_h, if_pos rfl, if_pos ⟨by omega, rfl, hzo⟩]
            simp only [List.take_zero, List.nil_append, hzl, Nat.zero_add]
            congr 3
          simp -implicitDefEqProofs only [pops_u, pops_nil, runK_some, runK_none, actP, opP, pval_tmp, set_at, Nat.reduceEqDiff, ↓reduceIte, q2, q4, natP_cast, hlt, Nat.zero_add, and_self, hld, ofCells, Option.bind_some, Option.map_some, cellsP, pvOf, List.map_cons, List.map_nil, List.length_cons, List.length_nil, Nat.reduceAdd, hzl, hst]
          refine ⟨_, _, rfl, q1, q2, q3, q4, rfl, rfl, ?_, rfl, ?_, ?_⟩
          · rw [put_h, if_pos rfl]
          · rw [put_w, new_w]; omega
          · rw [put_h, if_neg (by omega), new_h, if_neg (by omega)]
        rintro f' s4 ⟨r1, r2, r3, r4, r5, r6, r7, r8, r9, r10⟩
        have hld : ldP s4 (.ptr s3.n 0 9) 9 = some z.cells := by
          rw [ld_ptr, r7]
          simp only [Nat.zero_add, Nat.le_refl, hzl, and_self, if_true, List.drop_zero]
          rw [List.take_of_length_le (by omega)]
        have hst : stP s4 (.ptr k (i * 9) (wl.length * 9)) y.cells = some (s4.put k ⟨(ys.take (i + 1) ++ wl.drop (i + 1)).flatMap NodeD.cells, wl.length * 9, 28⟩) := by
          rw [st_ptr, r10, q8, if_pos ⟨by omega, by simp only [List.length_append, hA, hB, hzl]; omega, hyo⟩]
          simp only
          rw [List.take_left' hA, hyl, ← List.drop_drop, List.drop_left' hA, List.drop_left' hzl, hmn, List.flatMap_append, List.flatMap_cons]
        refine W_reg ?_
        simp -implicitDefEqProofs only [pops_u, pops_nil, runK_some, runK_none, actP, opP, pval_tmp, set_at, Nat.reduceEqDiff, ↓reduceIte, r1, r5, r6, natP_cast, hlt, Nat.zero_add, and_self, hld, ofCells, Option.bind_some, Option.map_some, cellsP, callP, List.map_cons, List.map_nil, List.nil_append, List.append_nil, pval_func, hc, hyl, hst]
        refine ⟨_, _, rfl, trivial, r1, r2, r3, r4, ?_, ?_, ?_⟩
        · rw [put_n]; omega
        · rw [put_w]; omega
        · rw [put_h, if_pos rfl]
      · rintro f' s' ⟨g1, g2, g3, g4, g5, g6, g7⟩
        refine W_reg ?_
        simp -implicitDefEqProofs only [pops_u, pops_nil, runK_some, actP, opP, Option.map_some, pval_tmp, pval_const, set_at, ↓reduceIte, pvOf, bin_add, rnd_n, g4, h7]
        exact ⟨_, _, rfl, hN' _ _ hlt ⟨g1, g2, g3, rfl, q5, g5, g6, _, g7, Nat.le_refl _⟩⟩
    · obtain rfl : i = wl.length := by omega
      have h5 : (decide ((wl.length : Int) < (wl.length : Int))) = false := by simp
      simp -implicitDefEqProofs only [pcode_seq, pcode_r, pcode_skip, pcode_exit, pcode_cond, pops_u, pops_nil, runK_some, actP, opP, Option.map_some, pval_tmp, set_at, ↓reduceIte, seq_n, seq_e, cond_f, asBool_b, regE_some, true_and, bin_lss, W_some, rnd_e, q3, q4, h5]
      exact hK _ _ ⟨q1, q2, q3, q4, q5, q6, q7, low3, q8, q9⟩
  · rintro f s3 ⟨q1, q2, q3, q4, q5, q6, q7, low3, q8, q9⟩
    rw [← hys, List.take_length, hys, List.drop_length, List.append_nil] at q8
    have hfl := flat_len NodeD.len ys
    refine W_rret ?_
    simp -implicitDefEqProofs only [pops_u, pops_nil, runK_some, actP, opP, pval_tmp, set_at, ↓reduceIte, q1]
    refine ⟨_, _, rfl, ?_⟩
    subst hQ
    refine endQ_r ?_ rfl
    refine leave_p (vs := [.own k 0 wl.length (wl.length * 9)]) rfl rfl q7 ?_
    refine frz_of ?_
    show frz1 s.n s3 (.own k 0 wl.length (wl.length * 9)) = some (.lit 28 ys.length (ys.flatMap NodeD.cells))
    unfold frz1
    simp only [q8, List.drop_zero, Nat.sub_zero]
    have hall : (ys.flatMap NodeD.cells).all clean1 = true := by
      rw [List.all_flatMap]
      refine List.all_eq_true.2 fun y hy => ?_
      obtain ⟨i, hi⟩ := List.mem_iff_getElem?.1 hy
      have hlt := (List.getElem?_eq_some_iff.1 hi).1
      exact (hcp i _ y (List.getElem?_eq_getElem (by omega)) hi).2.2
    rw [if_neg (by omega), List.take_of_length_le (by omega), if_pos ⟨q9, by omega, Nat.zero_le _, hall⟩, ← hys]
end Go.Proofs.YtdkcfccepjimbaaGreatDoor

namespace Go.Proofs.YtdkcfccepjimbaaGreatDoor
open Go Go.EvL Go.PE
theorem pu23 : puOf Γ 23 = true := (rfl)
theorem pu24 : puOf Γ 24 = true := (rfl)
theorem pu22 : puOf Γ 22 = true := (rfl)
/-! jobshelllaw11.SyntaxWalks -/
theorem walks_law {D d : Nat} {a : NodeD} (ha : NodeAt D d a) (na : bulks a.cells ≤ 16777216) (s : PS) :
    pcall Tryz.prog Γ (extA 12) 6 [.agg a.cells] s = some (.sc (.bool true), s) := by
  obtain ⟨wa, hwa⟩ := Classical.axiomOfChoice (weight_ok (ext := extA 12) d a ha na)
  obtain ⟨wl, hwl⟩ := walks_ok (ext := extA 12) d a ha na
  obtain ⟨ys, y1, y2⟩ := choose_lists a (R := fun i z y => (∀ s, pcall Tryz.prog Γ (extA 12) 59 [.agg z.cells] s = some (.agg y.cells, s)) ∧ ∃ d', NEqv D d' y z ∧ NodeAt D d' z) wl (fun i z hz => by
    obtain ⟨⟨d', hd'⟩, hb⟩ := hwl.all z (List.mem_of_getElem? hz)
    obtain ⟨y, e1, e2⟩ := copy_node (ext := extA 12) d' z hd' hb
    exact ⟨y, e1, d', e2, hd'⟩)
  have h23 := walk_fn hwl na y1 (fun i z y h1 h2 => by
    obtain ⟨e1, d', e2, _⟩ := y2 i z y h1 h2
    exact ⟨e1, neqv_ones _ _ e2⟩)
  have h24 := hwl.ref
  have hlen := hwl.len
  have h22 : ∀ s, pcall Tryz.prog Γ (extA 12) 22 [slP 28 NodeD.cells (some ys), slP 28 NodeD.cells (optL wl)] s = some (.sc (.bool true), s) := fun s =>
    ref_true (Q := fun y x => ∃ d', NEqv D d' y x ∧ NodeAt D d' x ∧ bulks x.cells ≤ 16777216) g22 (by omega) ⟨some ys, optL wl, rfl, rfl, by rw [optL_get]; exact y1, by rw [Option.getD_some]; omega, fun i y x h1 h2 => by
      rw [optL_get] at h2
      obtain ⟨_, d', e2, e3⟩ := y2 i x y h2 h1
      exact ⟨d', e2, e3, (hwl.all x (List.mem_of_getElem? h2)).2⟩⟩ (fun y x hq => by
        obtain ⟨d', q1, q2, q3⟩ := hq
        exact in22 y x (exact_node q2 q1 q3)) s
  have h12 := h12
  suffices h : ∃ q, pcall Tryz.prog Γ (extA 12) 6 [.agg a.cells] s = some q ∧ q = (.sc (.bool true), s) by
    obtain ⟨q, e, rfl⟩ := h
    exact e
  refine W_call (fn := p6) (by rfl) (by simp [p6]) ?_
  generalize hQ : EndQ p6 s _ = Q
  have fin : ∀ (f : PFr) (s1 : PS), f 2 = .sc (.bool true) → s.n ≤ s1.w → Q .ret f s1 := fun f s1 h4 hw => by
    subst hQ
    exact endQ_r (leave_p (vs := [f 2]) rfl rfl hw (by rw [h4]; rfl)) rfl
  clear hQ
  unfold p6
  refine W_rseq (fun f s' => f 1 = .ptr s.n 0 9 ∧ s'.h s.n = ⟨a.cells, 0, 28⟩ ∧ s'.w = s.n) ?_ ?_
  · simp -implicitDefEqProofs only [pops_u, pops_nil, runK_some, actP, opP, initP, pval_tmp, pval_const, set_at, cellsP, ↓reduceIte, pvOf]
    exact ⟨_, _, rfl, rfl, by simp -implicitDefEqProofs only [↓reduceIte, new_h], rfl⟩
  rintro f s1 ⟨p1, q1, p4⟩
  simp only [NodeD.cells] at hwa h23 h24 q1
  have hw : s.n ≤ s1.w := by omega
  refine W_assoc ?_
  refine W_rseq (fun f s' => s1 = s' ∧ f 1 = .ptr s.n 0 9 ∧ ∃ g, f 5 = .sc (.bool g)) ?_ ?_
  · simp -implicitDefEqProofs only [pops_u, pops_nil, runK_some, actP, opP, Nat.zero_add, Nat.reduceAdd, Option.map_some, Option.bind_some, pval_tmp, pval_const, pval_func, set_at, ↓reduceIte, pvOf, ld_ptr, ofCells, List.length_cons, List.length_nil, Nat.zero_le, and_self, List.drop_zero, List.take_succ_cons, List.take_zero, Nat.le_refl, bin_gtr, callP, List.map_cons, List.map_nil, List.nil_append, List.append_nil, p1, q1, hwa]
    exact ⟨_, _, rfl, rfl, p1, _, rfl⟩
  rintro f _ ⟨rfl, p1, g, hg⟩
  refine W_cseq (v := g) (by simp -implicitDefEqProofs only [pval_tmp, asBool_b, hg]) ?_
  cases g with
  | true =>
    simp -implicitDefEqProofs only [pcode_seq, pcode_r, pcode_ret, pops_u, pops_nil, runK_some, actP, opP, pval_tmp, pval_func, set_at, ↓reduceIte, seq_n, seq_r, regE_some, callP, List.map_nil, List.append_nil, W_some, h12]
    exact fin _ _ rfl hw
  | false =>
    refine W_skip ?_
    simp -implicitDefEqProofs only [pcode_seq, pcode_ret, actP, opP, Nat.zero_add, Nat.reduceAdd, guardP, Option.map_some, Option.bind_some, pval_tmp, pval_func, set_at, Nat.reduceEqDiff, ↓reduceIte, seq_n, asBool_b, regE_some, ld_ptr, ofCells, List.length_cons, List.length_nil, Nat.one_ne_zero, Nat.zero_le, and_self, List.drop_zero, List.take_succ_cons, List.take_zero, Nat.le_refl, beq_self_eq_true, callP, List.map_cons, List.map_nil, List.nil_append, List.append_nil, reduceCtorEq, W_some, pcode_d, pdraw_nil, pdraw_u, pdraw_g, drK_some, drG_true, only_at, effO, effA, pureI, okAll_nil, okAll_cons, okPair_e, List.mem_cons, List.not_mem_nil, or_false, or_true, or_self, implies_true, false_implies, p1, q1, h23, h24, h22, pu22, pu23, pu24, pu12, okPair_rd, h12]
    exact fin _ _ rfl hw
end Go.Proofs.YtdkcfccepjimbaaGreatDoor
