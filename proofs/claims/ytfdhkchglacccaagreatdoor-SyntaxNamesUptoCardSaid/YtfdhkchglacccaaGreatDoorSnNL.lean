/- The reference: assigned, used. No statement is proved here. -/
import Derived.Test.YtfdhkchglacccaaGreatDoorSnNI
set_option linter.all false
/-! the reference: assigned -/
namespace Go.Proofs.YtfdhkchglacccaaGreatDoor
open Go Go.RowKit Go.Mir Go.Syn
set_option maxHeartbeats 400000
set_option maxRecDepth 100000
def asgOwn (p : PartT) : List (List UInt8) := (if p.kind = 4 ∧ p.op = 2 ∧ nameB p.text = true then [p.text] else []) ++ (if p.kind = 6 ∧ setsB p = true then calcN p else [])
theorem asgF_cons (N : Nat) (p : PartT) (l : List PartT) : asgF (N + 1) (p :: l) = asgOwn p ++ (asgF N p.parts ++ asgF (N + 1) l) := by
  simp only [asgF, asgOwn, List.flatMap_cons, List.append_assoc]
theorem asg_zero : ∀ (l : List PartT), asgF 0 l = [] := fun _ => rfl
theorem asg_nil : ∀ (N : Nat), asgF N [] = []
  | 0 => rfl
  | _ + 1 => rfl
theorem addAll_len (a L : List (List UInt8)) : (addAll a L).length ≤ L.length + a.length := by
  induction a generalizing L with
  | nil => exact Nat.le_refl _
  | cons x a ih =>
    have h1 := ih (addS x L)
    have h2 := addS_len x L
    show (addAll a (addS x L)).length ≤ _
    rw [List.length_cons]; omega
noncomputable abbrev boxP (w : World) (x : PartT) : World := w.alloc (.cells #[.int .i64 x.kind, .string ⟨x.text.toArray⟩, .int .i64 x.op, .bool x.colon, .slice x.h.1 x.parts.length x.h.2] 56)
theorem boxP_in {w W : World} {x : PartT} (h : Below (boxP w x).heap.size (boxP w x) W) : W.cell? ⟨w.heap.size, 0, none⟩ = some (.int .i64 x.kind) ∧ W.cell? ⟨w.heap.size, 1, none⟩ = some (.string ⟨x.text.toArray⟩) ∧ W.cell? ⟨w.heap.size, 2, none⟩ = some (.int .i64 x.op) ∧ W.cell? ⟨w.heap.size, 3, none⟩ = some (.bool x.colon) ∧ W.cell? ⟨w.heap.size, 4, none⟩ = some (.slice x.h.1 x.parts.length x.h.2) := by
  have hl1 : w.heap.size < (boxP w x).heap.size := by simp
  refine ⟨?_, ?_, ?_, ?_, ?_⟩
  all_goals exact (h.cell (p := ⟨w.heap.size, _, none⟩) hl1).trans (by simp)
theorem assigned_calls : ∀ (N : Nat) (l : List PartT) (A : Option Addr) (cap : Nat) (out : List (List UInt8)) (AO : Option Addr) (mo co : Nat) (w : World), szPs l ≤ N → N ≤ 1048576 → DeepP w (A, cap) l →
    mo = out.length → mo ≤ co → RdS 1 encS w AO out → out.length + (asgF N l).length ≤ 1048576 →
    Calls Tryz.prog 35 #[.slice AO mo co, .slice A l.length cap] w (ListP (addAll (asgF N l) out) w) := by
  intro N
  induction N with
  | zero =>
    intro l A cap out AO mo co w hN _ _ hmo hco hro _
    have hl : l = [] := by
      have := szPs_len l
      exact List.eq_nil_of_length_eq_zero (by omega)
    subst hl
    have HR : Aside (mo = out.length ∧ mo ≤ co ∧ RdS 1 encS w AO out) := ⟨hmo, hco, hro⟩
    clear hmo hco hro hN
    go_enter Tryz.func35, Tryz.ntmps35
    go_wp2
    go_loopg [0, 5] 0 (fun g so si wx => so = .slice AO mo co ∧ si = .int .i64 0 ∧ w = wx)
    case atStart => exact ⟨rfl, rfl, rfl⟩
    case round =>
      obtain ⟨rfl, rfl, rfl⟩ := hrel
      go_wp2
      go_ret
      exact ⟨AO, mo, co, rfl, HR.out, Below.refl _ _⟩
  | succ N ih =>
    intro l A cap out AO mo co w hN hM hd hmo hco hro hb
    obtain ⟨sz, hsz0⟩ : ∃ n, n = l.length := ⟨_, rfl⟩
    have HL : Aside (sz = l.length ∧ RdS 5 encP w A l ∧ szPs l ≤ 1048576 ∧ ∀ p ∈ l, DeepP w p.h p.parts) := by
      obtain ⟨_, _, h1, h2⟩ := hd
      exact ⟨hsz0, h1, by omega, h2⟩
    have IH : Aside (∀ p ∈ l, ∀ (out : List (List UInt8)) (AO : Option Addr) (mo co : Nat) (w : World), DeepP w p.h p.parts → mo = out.length → mo ≤ co → RdS 1 encS w AO out → out.length + (asgF N p.parts).length ≤ 1048576 →
        Calls Tryz.prog 35 #[.slice AO mo co, .slice p.h.1 p.parts.length p.h.2] w (ListP (addAll (asgF N p.parts) out) w)) :=
      fun p hp out AO mo co w hd h1 h2 h3 h4 => ih p.parts p.h.1 p.h.2 out AO mo co w (by have := szPs_kid hp; omega) (by omega) hd h1 h2 h3 h4
    have hl : sz ≤ 1048576 := by rw [hsz0]; have := szPs_len l; omega
    rw [← hsz0]
    clear hsz0 ih hd hN hM
    obtain ⟨R, hR0⟩ : ∃ R, R = addAll (asgF (N + 1) l) out := ⟨_, rfl⟩
    rw [← hR0]
    have HR : Aside (addAll (asgF (N + 1) l) out = R ∧ mo = out.length ∧ mo ≤ co ∧ RdS 1 encS w AO out ∧ out.length + (asgF (N + 1) l).length ≤ 1048576) := ⟨hR0.symm, hmo, hco, hro, hb⟩
    clear hR0 hmo hco hro hb
    go_enter Tryz.func35, Tryz.ntmps35
    go_wp2
    go_loopg [0, 5] sz (fun g so si wx => ∃ (k : Nat) (AL : Option Addr) (m c : Nat) (L : List (List UInt8)), k + g = sz ∧ si = .int .i64 k ∧ so = .slice AL m c ∧ Aside (m = L.length ∧ m ≤ c ∧ RdS 1 encS wx AL L ∧ addAll (asgF (N + 1) (l.drop k)) L = R ∧ L.length + (asgF (N + 1) (l.drop k)).length ≤ 1048576) ∧ Below w.heap.size w wx)
    case atStart => exact ⟨0, AO, mo, co, out, by omega, rfl, rfl, ⟨HR.out.2.1, HR.out.2.2.1, HR.out.2.2.2.1, HR.out.1, HR.out.2.2.2.2⟩, Below.refl _ _⟩
    case round =>
      obtain ⟨k, AL, m, c, L, hkg, rfl, rfl, HI, hwb⟩ := hrel
      cases gk with
      | zero =>
        have hkz : ¬ (k : Int) < (sz : Int) := by omega
        have ha : Aside (L = R) := by show _ = _; rw [← HI.out.2.2.2.1, List.drop_eq_nil_of_le (by have := HL.out.1; omega)]; rfl
        go_wp2
        go_ret
        exact ⟨AL, m, c, rfl, by rw [← ha.out]; exact ⟨HI.out.1, HI.out.2.1, HI.out.2.2.1⟩, hwb⟩
      | succ g =>
        have hk0 : (0 : Int) ≤ (k : Int) := by omega
        have hkz : (k : Int) < (sz : Int) := by omega
        have hk63 : (k : Int) + 1 ≤ 9223372036854775807 := by omega
        obtain ⟨x, hx⟩ : ∃ x, l[k]? = some x := ⟨_, List.getElem?_eq_getElem (by have := HL.out.1; omega)⟩
        have hdrop : Aside (l.drop k = x :: l.drop (k + 1)) := Lib.drop_at hx
        obtain ⟨b, o, rfl, hlt, hc⟩ := (HL.out.2.1.up hwb) k x hx
        have c0 : wr.cell? ⟨b, o + k * 5, none⟩ = some (.int .i64 x.kind) := hc 0 _ rfl
        have c1 : wr.cell? ⟨b, o + k * 5 + 1, none⟩ = some (.string ⟨x.text.toArray⟩) := hc 1 _ rfl
        have c2 : wr.cell? ⟨b, o + k * 5 + 2, none⟩ = some (.int .i64 x.op) := hc 2 _ rfl
        have c3 : wr.cell? ⟨b, o + k * 5 + 3, none⟩ = some (.bool x.colon) := hc 3 _ rfl
        have c4 : wr.cell? ⟨b, o + k * 5 + 4, none⟩ = some (.slice x.h.1 x.parts.length x.h.2) := hc 4 _ rfl
        have HX : Aside (szPs x.parts ≤ 1048576 ∧ DeepP wr x.h x.parts) := ⟨by have := szPs_kid (List.mem_of_getElem? hx); have := HL.out.2.2.1; omega, (HL.out.2.2.2 x (List.mem_of_getElem? hx)).up hwb⟩
        have IX : Aside (∀ (out : List (List UInt8)) (AO : Option Addr) (mo co : Nat) (w : World), DeepP w x.h x.parts → mo = out.length → mo ≤ co → RdS 1 encS w AO out → out.length + (asgF N x.parts).length ≤ 1048576 →
          Calls Tryz.prog 35 #[.slice AO mo co, .slice x.h.1 x.parts.length x.h.2] w (ListP (addAll (asgF N x.parts) out) w)) := IH.out x (List.mem_of_getElem? hx)
        have hset : Aside (addAll (asgF (N + 1) (l.drop (k + 1))) (addAll (asgF N x.parts) (addAll (asgOwn x) L)) = R ∧ L.length + ((asgOwn x).length + ((asgF N x.parts).length + (asgF (N + 1) (l.drop (k + 1))).length)) ≤ 1048576) := by
          have h1 := HI.out.2.2.2
          rw [hdrop.out, asgF_cons, addAll_app, addAll_app] at h1
          simp only [List.length_append] at h1
          exact h1
        have HBX : Aside (Below wr.heap.size wr (boxP wr x)) := (Below.refl _ _).alloc (Nat.le_refl _) _
        have hxs : Aside (x.text.length ≤ 1048576) := by have := szPs_text (List.mem_of_getElem? hx); have := HL.out.2.2.1; show _ ≤ _; omega
        obtain ⟨z0, z1, z2, z3, z4⟩ := boxP_in (Below.refl (boxP wr x).heap.size (boxP wr x))
        clear hc hx hlt
        by_cases hk4 : x.kind = 4
        · have h4 : (x.kind == 4) = true := by simpa using hk4
          have h6 : (x.kind == 6) = false := by rw [hk4]; rfl
          by_cases ho : x.op = 2
          · have h2 : (x.op == 2) = true := by simpa using ho
            have cn := rname_calls x.text (boxP wr x)
            cases hn : nameB x.text with
            | false =>
              have HO : Aside (asgOwn x = []) := by show _ = _; unfold asgOwn; rw [hk4, hn]; simp
              rw [hn] at cn
              clear hk4 ho hn
              go_wp2_with (first
                | (go_at_call 38; refine cn.mono ?_; rintro e w' ⟨rfl, rfl⟩)
                | (go_at_call 35; refine (IX.out L AL m c _ (HX.out.2.up HBX.out) HI.out.1 HI.out.2.1 (HI.out.2.2.1.up HBX.out) (by have := hset.out.2; omega)).mono ?_; rintro e w5 ⟨A5, m5, c5', rfl, H5, hb5⟩))
              go_roundg g
              case measure => omega
              case rel =>
                have h3 := hset.out
                rw [HO.out] at h3
                have h4 := addAll_len (asgF N x.parts) L
                exact ⟨k + 1, A5, m5, c5', _, by omega, by simp, rfl, ⟨H5.out.1, H5.out.2.1, H5.out.2.2, h3.1, by have := h3.2; simp only [List.length_nil] at this; omega⟩, hwb.trans ((HBX.out.trans (hb5.mono HBX.out.size)).mono hwb.size)⟩
            | true =>
              have HO : Aside (asgOwn x = [x.text]) := by show _ = _; unfold asgOwn; rw [hk4, ho, hn]; simp
              rw [hn] at cn
              have ca := add_calls L x.text AL m c (boxP wr x) HI.out.1 (by have := hset.out.2; omega) HI.out.2.1 (HI.out.2.2.1.up HBX.out)
              rw [show addS x.text L = addAll (asgOwn x) L by rw [HO.out]; rfl] at ca
              clear hk4 ho hn
              go_wp2_with (first
                | (go_at_call 38; refine cn.mono ?_; rintro e w' ⟨rfl, rfl⟩)
                | (go_at_call 34; refine ca.mono ?_; rintro e w2 ⟨A2, m2, c2', rfl, H2, hb2⟩; obtain ⟨y0, y1, y2, y3, y4⟩ := boxP_in hb2)
                | (go_at_call 35; refine (IX.out (addAll (asgOwn x) L) A2 m2 c2' _ (HX.out.2.up (HBX.out.trans (hb2.mono HBX.out.size))) H2.out.1 H2.out.2.1 H2.out.2.2 (by have := hset.out.2; have := addAll_len (asgOwn x) L; omega)).mono ?_; rintro e w5 ⟨A5, m5, c5', rfl, H5, hb5⟩))
              go_roundg g
              case measure => omega
              case rel =>
                have h3 := hset.out
                have h4 := addAll_len (asgF N x.parts) (addAll (asgOwn x) L)
                have h5 := addAll_len (asgOwn x) L
                have hb6 := HBX.out.trans (hb2.mono HBX.out.size)
                exact ⟨k + 1, A5, m5, c5', _, by omega, by simp, rfl, ⟨H5.out.1, H5.out.2.1, H5.out.2.2, h3.1, by have := h3.2; omega⟩, hwb.trans ((hb6.trans (hb5.mono hb6.size)).mono hwb.size)⟩
          · have h2 : (x.op == 2) = false := by simpa using ho
            have HO : Aside (asgOwn x = []) := by show _ = _; unfold asgOwn; rw [if_neg (fun h => ho h.2.1), if_neg (fun h => by rw [hk4] at h; exact absurd h.1 (by decide))]; rfl
            clear hk4 ho
            go_wp2_with (first
              | (go_at_call 35; refine (IX.out L AL m c _ (HX.out.2.up HBX.out) HI.out.1 HI.out.2.1 (HI.out.2.2.1.up HBX.out) (by have := hset.out.2; omega)).mono ?_; rintro e w5 ⟨A5, m5, c5', rfl, H5, hb5⟩))
            go_roundg g
            case measure => omega
            case rel =>
              have h3 := hset.out
              rw [HO.out] at h3
              have h4 := addAll_len (asgF N x.parts) L
              exact ⟨k + 1, A5, m5, c5', _, by omega, by simp, rfl, ⟨H5.out.1, H5.out.2.1, H5.out.2.2, h3.1, by have := h3.2; simp only [List.length_nil] at this; omega⟩, hwb.trans ((HBX.out.trans (hb5.mono HBX.out.size)).mono hwb.size)⟩
        · have h4 : (x.kind == 4) = false := by simpa using hk4
          by_cases hk6 : x.kind = 6
          · have h6 : (x.kind == 6) = true := by simpa using hk6
            have cs := sets_calls x.parts x.h.1 x.h.2 (boxP wr x) HX.out.1 (by obtain ⟨_, _, h1, _⟩ := HX.out.2; exact h1.up HBX.out)
            cases hn : setL x.parts with
            | false =>
              have HO : Aside (asgOwn x = []) := by show _ = _; unfold asgOwn; rw [if_neg (fun h => hk4 h.1), setsB_eq, hn]; simp
              rw [hn] at cs
              clear hk4 hk6 hn
              go_wp2_with (first
                | (go_at_call 73; refine cs.mono ?_; rintro e w' ⟨rfl, rfl⟩)
                | (go_at_call 35; refine (IX.out L AL m c _ (HX.out.2.up HBX.out) HI.out.1 HI.out.2.1 (HI.out.2.2.1.up HBX.out) (by have := hset.out.2; omega)).mono ?_; rintro e w5 ⟨A5, m5, c5', rfl, H5, hb5⟩))
              go_roundg g
              case measure => omega
              case rel =>
                have h3 := hset.out
                rw [HO.out] at h3
                have h4 := addAll_len (asgF N x.parts) L
                exact ⟨k + 1, A5, m5, c5', _, by omega, by simp, rfl, ⟨H5.out.1, H5.out.2.1, H5.out.2.2, h3.1, by have := h3.2; simp only [List.length_nil] at this; omega⟩, hwb.trans ((HBX.out.trans (hb5.mono HBX.out.size)).mono hwb.size)⟩
            | true =>
              have HO : Aside (asgOwn x = calcL x.parts) := by show _ = _; unfold asgOwn; rw [if_neg (fun h => hk4 h.1), setsB_eq, hn, hk6]; simp [calcN_eq]
              rw [hn] at cs
              have cm := names_calls x.parts x.h.1 x.h.2 L AL m c (boxP wr x) HX.out.1 (by obtain ⟨_, _, h1, _⟩ := HX.out.2; exact h1.up HBX.out) HI.out.1 HI.out.2.1 (HI.out.2.2.1.up HBX.out) (by have := hset.out.2; rw [HO.out] at this; omega)
              rw [← HO.out] at cm
              clear hk4 hk6 hn
              go_wp2_with (first
                | (go_at_call 73; refine cs.mono ?_; rintro e w' ⟨rfl, rfl⟩)
                | (go_at_call 74; refine cm.mono ?_; rintro e w2 ⟨A2, m2, c2', rfl, H2, hb2⟩; obtain ⟨y0, y1, y2, y3, y4⟩ := boxP_in hb2)
                | (go_at_call 35; refine (IX.out (addAll (asgOwn x) L) A2 m2 c2' _ (HX.out.2.up (HBX.out.trans (hb2.mono HBX.out.size))) H2.out.1 H2.out.2.1 H2.out.2.2 (by have := hset.out.2; have := addAll_len (asgOwn x) L; omega)).mono ?_; rintro e w5 ⟨A5, m5, c5', rfl, H5, hb5⟩))
              go_roundg g
              case measure => omega
              case rel =>
                have h3 := hset.out
                have h4 := addAll_len (asgF N x.parts) (addAll (asgOwn x) L)
                have h5 := addAll_len (asgOwn x) L
                have hb6 := HBX.out.trans (hb2.mono HBX.out.size)
                exact ⟨k + 1, A5, m5, c5', _, by omega, by simp, rfl, ⟨H5.out.1, H5.out.2.1, H5.out.2.2, h3.1, by have := h3.2; omega⟩, hwb.trans ((hb6.trans (hb5.mono hb6.size)).mono hwb.size)⟩
          · have h6 : (x.kind == 6) = false := by simpa using hk6
            have HO : Aside (asgOwn x = []) := by show _ = _; unfold asgOwn; rw [if_neg (fun h => hk4 h.1), if_neg (fun h => hk6 h.1)]; rfl
            clear hk4 hk6
            go_wp2_with (first
              | (go_at_call 35; refine (IX.out L AL m c _ (HX.out.2.up HBX.out) HI.out.1 HI.out.2.1 (HI.out.2.2.1.up HBX.out) (by have := hset.out.2; omega)).mono ?_; rintro e w5 ⟨A5, m5, c5', rfl, H5, hb5⟩))
            go_roundg g
            case measure => omega
            case rel =>
              have h3 := hset.out
              rw [HO.out] at h3
              have h4 := addAll_len (asgF N x.parts) L
              exact ⟨k + 1, A5, m5, c5', _, by omega, by simp, rfl, ⟨H5.out.1, H5.out.2.1, H5.out.2.2, h3.1, by have := h3.2; simp only [List.length_nil] at this; omega⟩, hwb.trans ((HBX.out.trans (hb5.mono HBX.out.size)).mono hwb.size)⟩
end Go.Proofs.YtfdhkchglacccaaGreatDoor

/-! the reference: used -/
namespace Go.Proofs.YtfdhkchglacccaaGreatDoor
open Go Go.RowKit Go.Mir Go.Syn
set_option maxHeartbeats 400000
set_option maxRecDepth 100000
def useOwn (p : PartT) : List (List UInt8) := (if p.kind = 4 then [p.text] else []) ++ (if p.kind = 6 then calcN p else [])
theorem useF_cons (N : Nat) (p : PartT) (l : List PartT) : useF (N + 1) (p :: l) = useOwn p ++ (useF N p.parts ++ useF (N + 1) l) := by
  simp only [useF, useOwn, List.flatMap_cons, List.append_assoc]
theorem used_calls : ∀ (N : Nat) (l : List PartT) (A : Option Addr) (cap : Nat) (out : List (List UInt8)) (AO : Option Addr) (mo co : Nat) (w : World), szPs l ≤ N → N ≤ 1048576 → DeepP w (A, cap) l →
    mo = out.length → mo ≤ co → RdS 1 encS w AO out → out.length + (useF N l).length ≤ 1048576 →
    Calls Tryz.prog 42 #[.slice AO mo co, .slice A l.length cap] w (ListP (addAll (useF N l) out) w) := by
  intro N
  induction N with
  | zero =>
    intro l A cap out AO mo co w hN _ _ hmo hco hro _
    have hl : l = [] := by
      have := szPs_len l
      exact List.eq_nil_of_length_eq_zero (by omega)
    subst hl
    have HR : Aside (mo = out.length ∧ mo ≤ co ∧ RdS 1 encS w AO out) := ⟨hmo, hco, hro⟩
    clear hmo hco hro hN
    go_enter Tryz.func42, Tryz.ntmps42
    go_wp2
    go_loopg [0, 5] 0 (fun g so si wx => so = .slice AO mo co ∧ si = .int .i64 0 ∧ w = wx)
    case atStart => exact ⟨rfl, rfl, rfl⟩
    case round =>
      obtain ⟨rfl, rfl, rfl⟩ := hrel
      go_wp2
      go_ret
      exact ⟨AO, mo, co, rfl, HR.out, Below.refl _ _⟩
  | succ N ih =>
    intro l A cap out AO mo co w hN hM hd hmo hco hro hb
    obtain ⟨sz, hsz0⟩ : ∃ n, n = l.length := ⟨_, rfl⟩
    have HL : Aside (sz = l.length ∧ RdS 5 encP w A l ∧ szPs l ≤ 1048576 ∧ ∀ p ∈ l, DeepP w p.h p.parts) := by
      obtain ⟨_, _, h1, h2⟩ := hd
      exact ⟨hsz0, h1, by omega, h2⟩
    have IH : Aside (∀ p ∈ l, ∀ (out : List (List UInt8)) (AO : Option Addr) (mo co : Nat) (w : World), DeepP w p.h p.parts → mo = out.length → mo ≤ co → RdS 1 encS w AO out → out.length + (useF N p.parts).length ≤ 1048576 →
        Calls Tryz.prog 42 #[.slice AO mo co, .slice p.h.1 p.parts.length p.h.2] w (ListP (addAll (useF N p.parts) out) w)) :=
      fun p hp out AO mo co w hd h1 h2 h3 h4 => ih p.parts p.h.1 p.h.2 out AO mo co w (by have := szPs_kid hp; omega) (by omega) hd h1 h2 h3 h4
    have hl : sz ≤ 1048576 := by rw [hsz0]; have := szPs_len l; omega
    rw [← hsz0]
    clear hsz0 ih hd hN hM
    obtain ⟨R, hR0⟩ : ∃ R, R = addAll (useF (N + 1) l) out := ⟨_, rfl⟩
    rw [← hR0]
    have HR : Aside (addAll (useF (N + 1) l) out = R ∧ mo = out.length ∧ mo ≤ co ∧ RdS 1 encS w AO out ∧ out.length + (useF (N + 1) l).length ≤ 1048576) := ⟨hR0.symm, hmo, hco, hro, hb⟩
    clear hR0 hmo hco hro hb
    go_enter Tryz.func42, Tryz.ntmps42
    go_wp2
    go_loopg [0, 5] sz (fun g so si wx => ∃ (k : Nat) (AL : Option Addr) (m c : Nat) (L : List (List UInt8)), k + g = sz ∧ si = .int .i64 k ∧ so = .slice AL m c ∧ Aside (m = L.length ∧ m ≤ c ∧ RdS 1 encS wx AL L ∧ addAll (useF (N + 1) (l.drop k)) L = R ∧ L.length + (useF (N + 1) (l.drop k)).length ≤ 1048576) ∧ Below w.heap.size w wx)
    case atStart => exact ⟨0, AO, mo, co, out, by omega, rfl, rfl, ⟨HR.out.2.1, HR.out.2.2.1, HR.out.2.2.2.1, HR.out.1, HR.out.2.2.2.2⟩, Below.refl _ _⟩
    case round =>
      obtain ⟨k, AL, m, c, L, hkg, rfl, rfl, HI, hwb⟩ := hrel
      cases gk with
      | zero =>
        have hkz : ¬ (k : Int) < (sz : Int) := by omega
        have ha : Aside (L = R) := by show _ = _; rw [← HI.out.2.2.2.1, List.drop_eq_nil_of_le (by have := HL.out.1; omega)]; rfl
        go_wp2
        go_ret
        exact ⟨AL, m, c, rfl, by rw [← ha.out]; exact ⟨HI.out.1, HI.out.2.1, HI.out.2.2.1⟩, hwb⟩
      | succ g =>
        have hk0 : (0 : Int) ≤ (k : Int) := by omega
        have hkz : (k : Int) < (sz : Int) := by omega
        have hk63 : (k : Int) + 1 ≤ 9223372036854775807 := by omega
        obtain ⟨x, hx⟩ : ∃ x, l[k]? = some x := ⟨_, List.getElem?_eq_getElem (by have := HL.out.1; omega)⟩
        have hdrop : Aside (l.drop k = x :: l.drop (k + 1)) := Lib.drop_at hx
        obtain ⟨b, o, rfl, hlt, hc⟩ := (HL.out.2.1.up hwb) k x hx
        have c0 : wr.cell? ⟨b, o + k * 5, none⟩ = some (.int .i64 x.kind) := hc 0 _ rfl
        have c1 : wr.cell? ⟨b, o + k * 5 + 1, none⟩ = some (.string ⟨x.text.toArray⟩) := hc 1 _ rfl
        have c2 : wr.cell? ⟨b, o + k * 5 + 2, none⟩ = some (.int .i64 x.op) := hc 2 _ rfl
        have c3 : wr.cell? ⟨b, o + k * 5 + 3, none⟩ = some (.bool x.colon) := hc 3 _ rfl
        have c4 : wr.cell? ⟨b, o + k * 5 + 4, none⟩ = some (.slice x.h.1 x.parts.length x.h.2) := hc 4 _ rfl
        have HX : Aside (szPs x.parts ≤ 1048576 ∧ DeepP wr x.h x.parts) := ⟨by have := szPs_kid (List.mem_of_getElem? hx); have := HL.out.2.2.1; omega, (HL.out.2.2.2 x (List.mem_of_getElem? hx)).up hwb⟩
        have IX : Aside (∀ (out : List (List UInt8)) (AO : Option Addr) (mo co : Nat) (w : World), DeepP w x.h x.parts → mo = out.length → mo ≤ co → RdS 1 encS w AO out → out.length + (useF N x.parts).length ≤ 1048576 →
          Calls Tryz.prog 42 #[.slice AO mo co, .slice x.h.1 x.parts.length x.h.2] w (ListP (addAll (useF N x.parts) out) w)) := IH.out x (List.mem_of_getElem? hx)
        have hset : Aside (addAll (useF (N + 1) (l.drop (k + 1))) (addAll (useF N x.parts) (addAll (useOwn x) L)) = R ∧ L.length + ((useOwn x).length + ((useF N x.parts).length + (useF (N + 1) (l.drop (k + 1))).length)) ≤ 1048576) := by
          have h1 := HI.out.2.2.2
          rw [hdrop.out, useF_cons, addAll_app, addAll_app] at h1
          simp only [List.length_append] at h1
          exact h1
        have HBX : Aside (Below wr.heap.size wr (boxP wr x)) := (Below.refl _ _).alloc (Nat.le_refl _) _
        have hxs : Aside (x.text.length ≤ 1048576) := by have := szPs_text (List.mem_of_getElem? hx); have := HL.out.2.2.1; show _ ≤ _; omega
        obtain ⟨z0, z1, z2, z3, z4⟩ := boxP_in (Below.refl (boxP wr x).heap.size (boxP wr x))
        clear hc hx hlt
        by_cases hk4 : x.kind = 4
        · have h4 : (x.kind == 4) = true := by simpa using hk4
          have h6 : (x.kind == 6) = false := by rw [hk4]; rfl
          have HO : Aside (useOwn x = [x.text]) := by show _ = _; unfold useOwn; rw [hk4]; simp
          have ca := add_calls L x.text AL m c (boxP wr x) HI.out.1 (by have := hset.out.2; omega) HI.out.2.1 (HI.out.2.2.1.up HBX.out)
          rw [show addS x.text L = addAll (useOwn x) L by rw [HO.out]; rfl] at ca
          clear hk4
          go_wp2_with (first
            | (go_at_call 34; refine ca.mono ?_; rintro e w2 ⟨A2, m2, c2', rfl, H2, hb2⟩; obtain ⟨y0, y1, y2, y3, y4⟩ := boxP_in hb2)
            | (go_at_call 42; refine (IX.out (addAll (useOwn x) L) A2 m2 c2' _ (HX.out.2.up (HBX.out.trans (hb2.mono HBX.out.size))) H2.out.1 H2.out.2.1 H2.out.2.2 (by have := hset.out.2; have := addAll_len (useOwn x) L; omega)).mono ?_; rintro e w5 ⟨A5, m5, c5', rfl, H5, hb5⟩))
          go_roundg g
          case measure => omega
          case rel =>
            have h3 := hset.out
            have h4 := addAll_len (useF N x.parts) (addAll (useOwn x) L)
            have h5 := addAll_len (useOwn x) L
            have hb6 := HBX.out.trans (hb2.mono HBX.out.size)
            exact ⟨k + 1, A5, m5, c5', _, by omega, by simp, rfl, ⟨H5.out.1, H5.out.2.1, H5.out.2.2, h3.1, by have := h3.2; omega⟩, hwb.trans ((hb6.trans (hb5.mono hb6.size)).mono hwb.size)⟩
        · have h4 : (x.kind == 4) = false := by simpa using hk4
          by_cases hk6 : x.kind = 6
          · have h6 : (x.kind == 6) = true := by simpa using hk6
            have HO : Aside (useOwn x = calcL x.parts) := by show _ = _; unfold useOwn; rw [if_neg hk4, hk6]; simp [calcN_eq]
            have cm := names_calls x.parts x.h.1 x.h.2 L AL m c (boxP wr x) HX.out.1 (by obtain ⟨_, _, h1, _⟩ := HX.out.2; exact h1.up HBX.out) HI.out.1 HI.out.2.1 (HI.out.2.2.1.up HBX.out) (by have := hset.out.2; rw [HO.out] at this; omega)
            rw [← HO.out] at cm
            clear hk4 hk6
            go_wp2_with (first
              | (go_at_call 74; refine cm.mono ?_; rintro e w2 ⟨A2, m2, c2', rfl, H2, hb2⟩; obtain ⟨y0, y1, y2, y3, y4⟩ := boxP_in hb2)
              | (go_at_call 42; refine (IX.out (addAll (useOwn x) L) A2 m2 c2' _ (HX.out.2.up (HBX.out.trans (hb2.mono HBX.out.size))) H2.out.1 H2.out.2.1 H2.out.2.2 (by have := hset.out.2; have := addAll_len (useOwn x) L; omega)).mono ?_; rintro e w5 ⟨A5, m5, c5', rfl, H5, hb5⟩))
            go_roundg g
            case measure => omega
            case rel =>
              have h3 := hset.out
              have h4 := addAll_len (useF N x.parts) (addAll (useOwn x) L)
              have h5 := addAll_len (useOwn x) L
              have hb6 := HBX.out.trans (hb2.mono HBX.out.size)
              exact ⟨k + 1, A5, m5, c5', _, by omega, by simp, rfl, ⟨H5.out.1, H5.out.2.1, H5.out.2.2, h3.1, by have := h3.2; omega⟩, hwb.trans ((hb6.trans (hb5.mono hb6.size)).mono hwb.size)⟩
          · have h6 : (x.kind == 6) = false := by simpa using hk6
            have HO : Aside (useOwn x = []) := by show _ = _; unfold useOwn; rw [if_neg hk4, if_neg hk6]; rfl
            clear hk4 hk6
            go_wp2_with (first
              | (go_at_call 42; refine (IX.out L AL m c _ (HX.out.2.up HBX.out) HI.out.1 HI.out.2.1 (HI.out.2.2.1.up HBX.out) (by have := hset.out.2; omega)).mono ?_; rintro e w5 ⟨A5, m5, c5', rfl, H5, hb5⟩))
            go_roundg g
            case measure => omega
            case rel =>
              have h3 := hset.out
              rw [HO.out] at h3
              have h4 := addAll_len (useF N x.parts) L
              exact ⟨k + 1, A5, m5, c5', _, by omega, by simp, rfl, ⟨H5.out.1, H5.out.2.1, H5.out.2.2, h3.1, by have := h3.2; simp only [List.length_nil] at this; omega⟩, hwb.trans ((HBX.out.trans (hb5.mono HBX.out.size)).mono hwb.size)⟩
end Go.Proofs.YtfdhkchglacccaaGreatDoor
