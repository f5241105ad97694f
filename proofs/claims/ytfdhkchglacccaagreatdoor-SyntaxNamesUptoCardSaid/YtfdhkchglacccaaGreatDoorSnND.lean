/- The reference: Count, Weight. No statement is proved here. -/
import Derived.Test.YtfdhkchglacccaaGreatDoorSnNA
set_option linter.all false
/-! sizes of trees -/
namespace Go.Proofs.YtfdhkchglacccaaGreatDoor
open Go Go.Syn
theorem szP_eq (p : PartT) : szP p = p.text.length + 1 + szPs p.parts := by obtain ⟨k, t, o, c, h, l⟩ := p; rfl
theorem sum_mem {α : Type} (f : α → Nat) {l : List α} {x : α} (h : x ∈ l) : f x ≤ (l.map f).sum := by
  induction l with
  | nil => cases h
  | cons y l ih =>
    rw [List.map_cons, List.sum_cons]
    rcases List.mem_cons.1 h with rfl | h
    · omega
    · have := ih h; omega
theorem sum_len {α : Type} (f : α → Nat) (h1 : ∀ x, 1 ≤ f x) (l : List α) : l.length ≤ (l.map f).sum := by
  induction l with
  | nil => simp
  | cons y l ih => rw [List.map_cons, List.sum_cons, List.length_cons]; have := h1 y; omega
theorem szPs_mem {p : PartT} {l : List PartT} (h : p ∈ l) : szP p ≤ szPs l := by rw [szPs_sum]; exact sum_mem szP h
theorem szPs_kid {p : PartT} {l : List PartT} (h : p ∈ l) : szPs p.parts < szPs l := by have := szPs_mem h; rw [szP_eq] at this; omega
theorem szPs_text {p : PartT} {l : List PartT} (h : p ∈ l) : p.text.length < szPs l := by have := szPs_mem h; rw [szP_eq] at this; omega
theorem szPs_len (l : List PartT) : l.length ≤ szPs l := by rw [szPs_sum]; exact sum_len szP (fun p => by rw [szP_eq]; omega) l
theorem szN_eq (n : NodeT) : szN n = n.name.length + 1 + (n.assigns.map szA).sum + (n.words.map szW).sum + (n.redirs.map szR).sum + (n.kids.map szN).sum + (n.items.map szI).sum := by
  obtain ⟨kind, pos, name, all, ah, assigns, wh, words, rh, redirs, kh, kids, ih, items⟩ := n
  rw [← szNs_sum, ← szIs_sum]; rfl
theorem szN_one (n : NodeT) : 1 ≤ szN n := by rw [szN_eq]; omega
theorem szI_eq (i : ItemH × List NodeT) : szI i = (i.1.pats.map szW).sum + 1 + (i.2.map szN).sum := by rw [← szNs_sum]; rfl
theorem flat_sum {α β : Type} (f : β → Nat) (g : α → Nat) (r : α → List β) (h : ∀ a, ((r a).map f).sum ≤ g a) (l : List α) : ((l.flatMap r).map f).sum ≤ (l.map g).sum := by
  induction l with
  | nil => simp
  | cons a l ih => rw [List.flatMap_cons, List.map_append, List.sum_append, List.map_cons, List.sum_cons]; have := h a; omega
theorem kidsT_sum (n : NodeT) : ((kidsT n).map szN).sum < szN n := by
  rw [szN_eq, kidsT_eq, List.map_append, List.sum_append]
  have := flat_sum szN szI (·.2) (fun i => by rw [szI_eq]; omega) n.items
  omega
theorem wordsT_sum (n : NodeT) : ((wordsT n).map szW).sum < szN n := by
  rw [szN_eq]
  unfold wordsT
  simp only [List.map_append, List.sum_append, List.map_map]
  have h1 := flat_sum szW szI (·.1.pats) (fun i => by rw [szI_eq]; omega) n.items
  have h2 : (n.assigns.map (szW ∘ (·.w))).sum ≤ (n.assigns.map szA).sum := by
    induction n.assigns with
    | nil => simp
    | cons a l ih => simp only [List.map_cons, List.sum_cons, Function.comp]; have : szA a = a.name.length + szW a.w := rfl; omega
  have h3 : (n.redirs.map (szW ∘ (·.w))).sum = (n.redirs.map szR).sum := rfl
  omega
theorem kids_len (n : NodeT) : (kidsT n).length ≤ szN n := Nat.le_of_lt (Nat.lt_of_le_of_lt (sum_len szN szN_one _) (kidsT_sum n))
theorem words_len (n : NodeT) : (wordsT n).length ≤ szN n := Nat.le_of_lt (Nat.lt_of_le_of_lt (sum_len szW (fun _ => Nat.le_add_left _ _) _) (wordsT_sum n))
theorem items_len (n : NodeT) : n.items.length ≤ szN n := by
  have := sum_len szI (fun i => by rw [szI_eq]; omega) n.items
  rw [szN_eq]; omega
theorem assigns_len (n : NodeT) : n.assigns.length ≤ szN n := by
  have := sum_len szA (fun a => Nat.le_trans (Nat.le_add_left 1 _) (Nat.le_add_left _ _)) n.assigns
  rw [szN_eq]; omega
theorem kid_sz {n k : NodeT} (h : k ∈ kidsT n) : szN k < szN n := Nat.lt_of_le_of_lt (sum_mem szN h) (kidsT_sum n)
theorem word_sz {n : NodeT} {x : WordT} (h : x ∈ wordsT n) : szPs x.parts < szN n := by
  have h1 : szPs x.parts + 1 ≤ ((wordsT n).map szW).sum := sum_mem szW h
  have := wordsT_sum n
  omega
end Go.Proofs.YtfdhkchglacccaaGreatDoor

/-! the reference: Count returns -/
namespace Go.Proofs.YtfdhkchglacccaaGreatDoor
open Go Go.RowKit Go.Mir Go.Syn
set_option maxHeartbeats 1000000
set_option maxRecDepth 100000
def CountP (e : Ending) : Prop := ∃ a b : Int, e = .returned (.tuple #[.int .i64 a, .int .i64 b])
theorem count_calls : ∀ (N : Nat) (l : List PartT) (h : Hd) (w : World), szPs l ≤ N → N ≤ 1048576 → DeepP w h l →
    Calls Tryz.prog 12 #[.slice h.1 l.length h.2] w fun e w' => CountP e ∧ w = w' := by
  intro N
  induction N with
  | zero =>
    intro l h w hN _ _
    have hl : l = [] := by
      have := szPs_len l
      exact List.eq_nil_of_length_eq_zero (by omega)
    subst hl
    go_enter Tryz.func12, Tryz.ntmps12
    go_wp2
    go_loopg [4, 5, 6] 0 (fun g s1 s2 s3 wx => s1 = .int .i64 0 ∧ s2 = .int .i64 0 ∧ s3 = .int .i64 0 ∧ wx = w)
    case atStart => exact ⟨rfl, rfl, rfl, rfl⟩
    case round =>
      obtain ⟨rfl, rfl, rfl, rfl⟩ := hrel
      go_wp2
      go_ret2
      exact ⟨⟨0, 0, rfl⟩, rfl⟩
  | succ N ih =>
    intro l h w hN hM hd
    have hlen : l.length ≤ 1048576 := by have := szPs_len l; omega
    obtain ⟨LL, hLL⟩ : ∃ L, L = l := ⟨_, rfl⟩
    have HD : Aside (RdS 5 encP w h.1 LL ∧ ∀ p ∈ LL, Calls Tryz.prog 12 #[.slice p.h.1 p.parts.length p.h.2] w fun e w' => CountP e ∧ w = w') := by
      obtain ⟨_, _, h1, h2⟩ := hd
      rw [hLL]
      exact ⟨h1, fun p hp => ih p.parts p.h w (by have := szPs_kid hp; omega) (by omega) (h2 p hp)⟩
    have hlz : Aside (LL.length = l.length) := by show _ = _; rw [hLL]
    clear ih hd hN hLL hM
    obtain ⟨A, C⟩ := h
    simp only at HD ⊢
    go_enter Tryz.func12, Tryz.ntmps12
    go_wp2
    go_loopg [4, 5, 6] l.length (fun g s1 s2 s3 wx => ∃ (k : Nat) (a b : Int), k + g = l.length ∧ s1 = .int .i64 a ∧ s2 = .int .i64 b ∧ s3 = .int .i64 k ∧ wx = w)
    case atStart => exact ⟨0, _, _, by omega, rfl, rfl, rfl, rfl⟩
    case round =>
      obtain ⟨k, a, b, hkg, rfl, rfl, rfl, rfl⟩ := hrel
      cases gk with
      | zero =>
        have hkz : ¬ (k : Int) < (l.length : Int) := by omega
        go_wp2
        go_ret2
        exact ⟨⟨a, b, rfl⟩, rfl⟩
      | succ g =>
        have hk0 : (0 : Int) ≤ (k : Int) := by omega
        have hkz : (k : Int) < (l.length : Int) := by omega
        have hk63 : (k : Int) + 1 ≤ 9223372036854775807 := by omega
        obtain ⟨x, hx⟩ : ∃ x, LL[k]? = some x := ⟨_, List.getElem?_eq_getElem (by have := hlz.out; omega)⟩
        obtain ⟨b, o, rfl, hlt, hc⟩ := HD.out.1 k x hx
        have c1 : wr.cell? ⟨b, o + k * 5 + 1, none⟩ = some (.string ⟨x.text.toArray⟩) := hc 1 _ rfl
        have c4 : wr.cell? ⟨b, o + k * 5 + 4, none⟩ = some (.slice x.h.1 x.parts.length x.h.2) := hc 4 _ rfl
        have HX := HD.out.2 x (List.mem_of_getElem? hx)
        clear hc hx
        go_wp2_with (go_at_call 12; refine HX.mono ?_; rintro e w' ⟨⟨a, b, rfl⟩, rfl⟩)
        go_roundg g
        case measure => omega
        case rel => exact ⟨k + 1, _, _, by omega, rfl, rfl, by simp, rfl⟩
end Go.Proofs.YtfdhkchglacccaaGreatDoor

/-! the reference: Weight returns -/
namespace Go.Proofs.YtfdhkchglacccaaGreatDoor
open Go Go.RowKit Go.Mir Go.Syn
set_option maxHeartbeats 1000000
set_option maxRecDepth 100000
def WeightP (e : Ending) : Prop := ∃ a : Int, e = .returned (.int .i64 a)
theorem weight_calls : ∀ (N : Nat) (n : NodeT) (w : World), szN n ≤ N → N ≤ 1048576 → DeepN w n →
    Calls Tryz.prog 4 #[nodeV n] w fun e w' => WeightP e ∧ Below w.heap.size w w' := by
  intro N
  induction N with
  | zero => intro n w hN; have := szN_one n; omega
  | succ N ih =>
    intro n w hN hM hd
    have HW : Aside (DeepN w n ∧ szN n ≤ 1048576 ∧ ∀ k ∈ kidsT n, ∀ w', DeepN w' k → Calls Tryz.prog 4 #[nodeV k] w' fun e w'' => WeightP e ∧ Below w'.heap.size w' w'') :=
      ⟨hd, by omega, fun k hk w' hd' => ih k w' (by have := kid_sz hk; omega) (by omega) hd'⟩
    have hal : n.assigns.length ≤ 1048576 := by have := assigns_len n; omega
    clear ih hd hN hM
    go_enter Tryz.func4, Tryz.ntmps4
    go_wp2
    go_loopg [3, 4] n.assigns.length (fun g s1 s2 wx => ∃ (k : Nat) (a : Int), k + g = n.assigns.length ∧ s1 = .int .i64 a ∧ s2 = .int .i64 k ∧ Below (boxN w n).heap.size (boxN w n) wx)
    case atStart => exact ⟨0, _, by omega, rfl, rfl, Below.refl _ _⟩
    case round =>
      obtain ⟨k, a, hkg, rfl, rfl, hbo⟩ := hrel
      obtain ⟨z0, z1, z2, z3, z4, z5, z6, z7, z8⟩ := boxN_in hbo
      have hwb : Below w.heap.size w wr := ((Below.refl _ _).alloc (Nat.le_refl _) _).trans (hbo.mono (by simp))
      cases gk with
      | zero =>
        have hkz : ¬ (k : Int) < (n.assigns.length : Int) := by omega
        go_wp2_with (go_at_call 11; refine (words_calls n _ (HW.out.1.up hwb) (Nat.le_trans (words_len n) HW.out.2.1) (Nat.le_trans (items_len n) HW.out.2.1)).mono ?_; rintro e w1 ⟨A, m, c, rfl, HR, hb1⟩)
        have hm : m ≤ 1048576 := by rw [HR.out.1]; exact Nat.le_trans (words_len n) HW.out.2.1
        have hb2 : Below (boxN w n).heap.size (boxN w n) w1 := hbo.trans (hb1.mono hbo.size)
        go_loopg [3, 6] m (fun g s1 s2 wx => ∃ (k : Nat) (a : Int), k + g = m ∧ s1 = .int .i64 a ∧ s2 = .int .i64 k ∧ Below w1.heap.size w1 wx)
        case atStart => exact ⟨0, _, by omega, rfl, rfl, Below.refl _ _⟩
        case round =>
          clear z0 z1 z2 z3 z4 z5 z6 z7 z8 hkg hkz hwb hbo hb1
          obtain ⟨k, a, hkg, rfl, rfl, hbr⟩ := hrel
          have hbo : Below (boxN w n).heap.size (boxN w n) wr := hb2.trans (hbr.mono hb2.size)
          obtain ⟨z0, z1, z2, z3, z4, z5, z6, z7, z8⟩ := boxN_in hbo
          have hwb : Below w.heap.size w wr := ((Below.refl _ _).alloc (Nat.le_refl _) _).trans (hbo.mono (by simp))
          cases gk with
          | zero =>
            have hkz : ¬ (k : Int) < (m : Int) := by omega
            go_wp2_with (go_at_call 13; refine (kids_calls n _ (HW.out.1.up hwb) (Nat.le_trans (kids_len n) HW.out.2.1) (Nat.le_trans (items_len n) HW.out.2.1)).mono ?_; rintro e w3 ⟨A3, m3, c3, rfl, HR3, hb3⟩)
            have hm3 : m3 ≤ 1048576 := by rw [HR3.out.1]; exact Nat.le_trans (kids_len n) HW.out.2.1
            have hb4 : Below w.heap.size w w3 := hwb.trans (hb3.mono hwb.size)
            go_loopg [3, 10] m3 (fun g s1 s2 wx => ∃ (k : Nat) (a : Int), k + g = m3 ∧ s1 = .int .i64 a ∧ s2 = .int .i64 k ∧ Below w3.heap.size w3 wx)
            case atStart => exact ⟨0, _, by omega, rfl, rfl, Below.refl _ _⟩
            case round =>
              clear z0 z1 z2 z3 z4 z5 z6 z7 z8 hkg hkz hwb hbo hb3 hb2 hbr
              obtain ⟨k, a, hkg, rfl, rfl, hbr⟩ := hrel
              have hwb : Below w.heap.size w wr := hb4.trans (hbr.mono hb4.size)
              cases gk with
              | zero =>
                have hkz : ¬ (k : Int) < (m3 : Int) := by omega
                go_wp2
                go_ret
                exact ⟨⟨a, rfl⟩, hwb⟩
              | succ g =>
                have hk0 : (0 : Int) ≤ (k : Int) := by omega
                have hkz : (k : Int) < (m3 : Int) := by omega
                have hk63 : (k : Int) + 1 ≤ 9223372036854775807 := by omega
                obtain ⟨x, hx⟩ : ∃ x, (kidsT n)[k]? = some x := ⟨_, List.getElem?_eq_getElem (by have := HR3.out.1; omega)⟩
                obtain ⟨b, o, rfl, hlt, hc⟩ := (HR3.out.2.1.up hbr) k x hx
                have c0 : wr.cell? ⟨b, o + k * 9, none⟩ = some (.int .i64 x.kind) := hc 0 _ rfl
                have c1 : wr.cell? ⟨b, o + k * 9 + 1, none⟩ = some (.int .i64 x.pos) := hc 1 _ rfl
                have c2 : wr.cell? ⟨b, o + k * 9 + 2, none⟩ = some (.string ⟨x.name.toArray⟩) := hc 2 _ rfl
                have c3 : wr.cell? ⟨b, o + k * 9 + 3, none⟩ = some (.bool x.all) := hc 3 _ rfl
                have c4 : wr.cell? ⟨b, o + k * 9 + 4, none⟩ = some (.slice x.ah.1 x.assigns.length x.ah.2) := hc 4 _ rfl
                have c5 : wr.cell? ⟨b, o + k * 9 + 5, none⟩ = some (.slice x.wh.1 x.words.length x.wh.2) := hc 5 _ rfl
                have c6 : wr.cell? ⟨b, o + k * 9 + 6, none⟩ = some (.slice x.rh.1 x.redirs.length x.rh.2) := hc 6 _ rfl
                have c7 : wr.cell? ⟨b, o + k * 9 + 7, none⟩ = some (.slice x.kh.1 x.kids.length x.kh.2) := hc 7 _ rfl
                have c8 : wr.cell? ⟨b, o + k * 9 + 8, none⟩ = some (.slice x.ih.1 x.items.length x.ih.2) := hc 8 _ rfl
                have HX := HW.out.2.2 x (List.mem_of_getElem? hx) wr ((HW.out.1.kid (List.mem_of_getElem? hx)).up hwb)
                clear hc hx
                go_wp2_with (go_at_call 4; refine HX.mono ?_; rintro e w5 ⟨⟨q, rfl⟩, hb5⟩)
                go_roundg g
                case measure => omega
                case rel => exact ⟨k + 1, _, by omega, rfl, by simp, hbr.trans (hb5.mono hbr.size)⟩
          | succ g =>
            have hk0 : (0 : Int) ≤ (k : Int) := by omega
            have hkz : (k : Int) < (m : Int) := by omega
            have hk63 : (k : Int) + 1 ≤ 9223372036854775807 := by omega
            obtain ⟨x, hx⟩ : ∃ x, (wordsT n)[k]? = some x := ⟨_, List.getElem?_eq_getElem (by have := HR.out.1; omega)⟩
            obtain ⟨b, o, rfl, hlt, hc⟩ := (HR.out.2.up hbr) k x hx
            have c1 : wr.cell? ⟨b, o + k * 2 + 1, none⟩ = some (.slice x.h.1 x.parts.length x.h.2) := hc 1 _ rfl
            have HX := count_calls 1048576 x.parts x.h wr (by have := word_sz (List.mem_of_getElem? hx); have := HW.out.2.1; omega) (by omega) ((HW.out.1.word (List.mem_of_getElem? hx)).up hwb)
            clear hc hx
            go_wp2_with (go_at_call 12; refine HX.mono ?_; rintro e w' ⟨⟨a, b, rfl⟩, rfl⟩)
            go_roundg g
            case measure => omega
            case rel => exact ⟨k + 1, _, by omega, rfl, by simp, hbr⟩
      | succ g =>
        have hk0 : (0 : Int) ≤ (k : Int) := by omega
        have hkz : (k : Int) < (n.assigns.length : Int) := by omega
        have hk63 : (k : Int) + 1 ≤ 9223372036854775807 := by omega
        obtain ⟨x, hx⟩ : ∃ x, n.assigns[k]? = some x := ⟨_, List.getElem?_eq_getElem (by omega)⟩
        have HRA : RdS 4 encA wr n.ah.1 n.assigns := by
          obtain ⟨n, ha, _, _, _, _, _, _, _, _, _⟩ := HW.out.1
          exact ha.rd.up hwb
        obtain ⟨b, o, hih, hlt, hc⟩ := HRA k x hx
        have c1 : wr.cell? ⟨b, o + k * 4 + 1, none⟩ = some (.string ⟨x.name.toArray⟩) := hc 1 _ rfl
        clear hc HRA hx
        rw [hih] at z4
        go_wp2
        go_roundg g
        case measure => omega
        case rel => exact ⟨k + 1, _, by omega, rfl, by simp, hbo⟩
end Go.Proofs.YtfdhkchglacccaaGreatDoor
