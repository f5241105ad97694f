/- The program: sets of names, visitParts. No statement is proved here. -/
import Derived.Test.YtfdhkchglacccaaGreatDoorSnNU
import Derived.Test.YtfdhkchglacccaaGreatDoorSnFS
import Derived.Maps.OwnSet
import Derived.Maps.OwnOps
import Derived.Maps.Own
import Derived.StringKeys
import Derived.Maps.StringElems
import Derived.Maps.Views
import Derived.OneCell
import Derived.Deep.DeepMust
set_option linter.all false
/-! the set of names as a map -/
namespace Go.Proofs.YtfdhkchglacccaaGreatDoor
open Go Go.RowKit Go.Maps Go.Mir Go.Shelf Go.Sort Go.Syn
theorem law9 : Keyed Tryz.prog 9 := string_keyed Tryz.underlying9
noncomputable abbrev RB := plainElem (H := Unit) Tryz.prog 4
/-- the map whose keys are the names of a list -/
noncomputable def setD (L : List (List UInt8)) : DataW Unit := setOf (.lit (.bool true)) (L.map Lit.string)
theorem setD_snoc (L : List (List UInt8)) (x : List UInt8) : setD (L ++ [x]) = (setD L).put (.string x) (.lit (.bool true)) := by
  unfold setD
  rw [List.map_append]
  exact setOf_snoc _ _ _
theorem keylit (x : List UInt8) : WideAt.IsKeyLit (.string x) := by first | trivial | exact True.intro | decide
theorem setD_has (L : List (List UInt8)) (x : List UInt8) : has (setD L) (.string x) = true ↔ x ∈ L := by
  unfold setD
  rw [has_setOf _ _ _ (by intro y hy; obtain ⟨z, _, rfl⟩ := List.mem_map.1 hy; exact keylit z)]
  rw [List.any_eq_true]
  constructor
  · rintro ⟨y, hy, h⟩
    obtain ⟨z, hz, rfl⟩ := List.mem_map.1 hy
    have := WideAt.sameKey_eq h
    injection this with this
    rw [← this]; exact hz
  · intro h
    exact ⟨_, List.mem_map_of_mem h, WideAt.sameKey_self (keylit x)⟩
theorem addKey_len (L : List Lit) : ∀ acc : List Lit, (L.foldl addKey acc).length ≤ acc.length + L.length := by
  induction L with
  | nil => intro acc; simp
  | cons x L ih =>
    intro acc
    have h1 := ih (addKey acc x)
    have h2 : (addKey acc x).length ≤ acc.length + 1 := by unfold addKey; split <;> simp
    rw [List.foldl_cons, List.length_cons]; omega
theorem setD_size (L : List (List UInt8)) : Maps.size (setD L) ≤ L.length := by
  unfold setD
  rw [size_setOf _ _ (by intro y hy; obtain ⟨z, _, rfl⟩ := List.mem_map.1 hy; exact keylit z)]
  have := addKey_len (L.map Lit.string) []
  simpa using this
theorem setD_tidy (L : List (List UInt8)) : Tidy (setD L) := tidy_setOf _ _ (by intro y hy; obtain ⟨z, _, rfl⟩ := List.mem_map.1 hy; exact keylit z)
/-- a set of names lies in block b -/
noncomputable def MapI (b : Nat) (L : List (List UInt8)) (w : World) : Prop := w.ownsMap Tryz.prog 9 RB b L.length (setD L)
theorem MapI.lt {b : Nat} {L : List (List UInt8)} {w : World} (h : MapI b L w) : b < w.heap.size := World.ownsMap.lt h
theorem MapI.kept {b : Nat} {L : List (List UInt8)} {w w' : World} {row : Option Nat} (h : MapI b L w) (hg : w.grownBy w' row) (hne : some b ≠ row) : MapI b L w' := World.ownsMap.kept h hg hne
theorem MapI.below {b : Nat} {L : List (List UInt8)} {w w' : World} (h : MapI b L w) (hb : Below w.heap.size w w') : MapI b L w' :=
  h.kept (row := none) ⟨hb.os, hb.tape, hb.output, hb.size, fun k hk _ => hb.block k hk⟩ (by simp)
theorem MapI.alloc {b : Nat} {L : List (List UInt8)} {w : World} (h : MapI b L w) (o : Obj) : MapI b L (w.alloc o) := World.ownsMap.alloc h o
theorem grown_of_below {w w' : World} {row : Option Nat} (hb : Below w.heap.size w w') : w.grownBy w' row := ⟨hb.os, hb.tape, hb.output, hb.size, fun k hk _ => hb.block k hk⟩
theorem keyS {x : List UInt8} (h : x.length ≤ maxLen) : keyOf Tryz.prog 9 (.string ⟨x.toArray⟩) = some (.string x) := Go.WideMaps.keyOf_string_mk Tryz.underlying9 (by simpa [ByteArray.size] using h)
/-- the set is written; all else is as before -/
def AddP (b : Nat) (L : List (List UInt8)) (W : World) (e : Ending) (w' : World) : Prop := e = .returned (.tuple #[]) ∧ MapI b L w' ∧ W.grownBy w' (some b)
set_option maxHeartbeats 1000000
set_option maxRecDepth 100000
theorem adds_calls (b : Nat) (L0 l : List (List UInt8)) (A : Option Addr) (m c : Nat) (W : World) (hm : m = l.length) (hn : L0.length + l.length ≤ 1048576) (hls : ∀ x ∈ l, x.length ≤ 1048576) (hr : RdS 1 encS W A l) (hM : MapI b L0 W) (hA : ∀ ad, A = some ad → ad.block ≠ b) :
    Calls Tryz.prog 29 #[.map (some b), .slice A m c] W (AddP b (L0 ++ l) W) := by
  have HL : Aside (m = l.length ∧ RdS 1 encS W A l ∧ (∀ x ∈ l, x.length ≤ 1048576) ∧ L0.length + l.length ≤ 1048576) := ⟨hm, hr, hls, hn⟩
  have hm2 : m ≤ 1048576 := by omega
  clear hm hr hls hn
  go_enter Tryz.func29, Tryz.ntmps29
  go_wp2
  go_loopg [8] m (fun g s wx => ∃ k : Nat, k + g = m ∧ s = .int .i64 k ∧ MapI b (L0 ++ l.take k) wx ∧ W.grownBy wx (some b))
  case atStart => exact ⟨0, by omega, rfl, by simpa using hM, World.grownBy.refl _ _⟩
  case round =>
    obtain ⟨k, hkg, rfl, hmo, hgr⟩ := hrel
    cases gk with
    | zero =>
      have hkz : ¬ (k : Int) < (m : Int) := by omega
      have hk : Aside (l.take k = l) := List.take_of_length_le (by have := HL.out.1; omega)
      go_wp2
      go_end0
      exact ⟨rfl, by rw [hk.out] at hmo; exact hmo, hgr⟩
    | succ g =>
      have hkz : (k : Int) < (m : Int) := by omega
      have hk63 : (k : Int) + 1 ≤ 9223372036854775807 := by omega
      obtain ⟨x, hx⟩ : ∃ x, l[k]? = some x := ⟨_, List.getElem?_eq_getElem (by have := HL.out.1; omega)⟩
      have htake : Aside (l.take (k + 1) = l.take k ++ [x]) := by show _ = _; rw [List.take_add_one, hx]; rfl
      have hxl := HL.out.2.2.1 x (List.mem_of_getElem? hx)
      obtain ⟨b1, o1, rfl, hlt, hc⟩ := HL.out.2.1 k x hx
      have c0 : wr.cell? ⟨b1, o1 + k, none⟩ = some (.string ⟨x.toArray⟩) := by
        have h1 := hc 0 _ rfl
        rw [show o1 + k * 1 + 0 = o1 + k by omega] at h1
        have h2 := hgr.block b1 hlt (fun e => hA _ rfl (Option.some.inj e))
        simp only [World.cell?, h2] at h1 ⊢
        exact h1
      have hkey := keyS (x := x) (by unfold maxLen; omega)
      have hml : (L0 ++ l.take k).length < maxLen := by have := HL.out.2.2.2; unfold maxLen; rw [List.length_append, List.length_take]; omega
      clear hc hx hlt
      have hmo' : wr.ownsMap Tryz.prog 9 RB b (L0 ++ l.take k).length (setD (L0 ++ l.take k)) := hmo
      have HK : Aside (keyOf Tryz.prog 9 (.string ⟨x.toArray⟩) = some (.string x)) := hkey
      clear hkey
      go_wp2_with (at_mapUpdate; go_loud (refine wpList_mapUpdate_own _ rfl _ _ _ 53 rfl 9 4 law9 Tryz.underlying53 _ b _ _ rfl hmo' hml _ _ _ rfl rfl HK.out _ [] (plainElem_bool Tryz.underlying4 true) ?_))
      intro w1 hown1 hgrow1
      go_wp2
      go_roundg g
      case measure => omega
      case rel =>
        refine ⟨k + 1, by omega, by simp, ?_, hgr.trans hgrow1⟩
        rw [htake.out, ← List.append_assoc]
        unfold MapI
        rw [setD_snoc]
        simp only [List.length_append, List.length_take, List.length_singleton]
        exact hown1
end Go.Proofs.YtfdhkchglacccaaGreatDoor

/-! visitParts -/
namespace Go.Proofs.YtfdhkchglacccaaGreatDoor
open Go Go.RowKit Go.Maps Go.Mir Go.Shelf Go.Sort Go.Syn
def visF (F : PartT → List (List UInt8)) : Nat → List PartT → List (List UInt8)
  | 0, _ => []
  | f + 1, l => l.flatMap fun p => F p ++ visF F f p.parts
theorem visF_cons (F : PartT → List (List UInt8)) (N : Nat) (p : PartT) (l : List PartT) : visF F (N + 1) (p :: l) = F p ++ (visF F N p.parts ++ visF F (N + 1) l) := by
  simp only [visF, List.flatMap_cons, List.append_assoc]
def ariOwn (p : PartT) : List (List UInt8) := if p.kind = 6 then calcN p else []
theorem asgF_vis : ∀ (N : Nat) (l : List PartT), asgF N l = visF asgOwn N l
  | 0, _ => rfl
  | N + 1, l => by
    simp only [asgF, visF, asgOwn, List.append_assoc]
    congr 1
    funext p
    rw [asgF_vis N p.parts]
theorem ariF_vis : ∀ (N : Nat) (l : List PartT), ariF N l = visF ariOwn N l
  | 0, _ => rfl
  | N + 1, l => by
    simp only [ariF, visF, ariOwn]
    congr 1
    funext p
    rw [ariF_vis N p.parts]
/-- the variable found: block B holds the map in block b -/
def BoxM (B b : Nat) (W : World) : Prop := W.heap[B]? = some (.cells #[.map (some b)] 53 (0, 0))
theorem BoxM.grown {B b : Nat} {W W' : World} (h : BoxM B b W) (hg : W.grownBy W' (some b)) (hne : B ≠ b) : BoxM B b W' := (hg.block B (lt_of_block h) (fun e => hne (Option.some.inj e))).trans h
theorem BoxM.below {B b : Nat} {W W' : World} (h : BoxM B b W) (hb : Below W.heap.size W W') : BoxM B b W' := (hb.block B (lt_of_block h)).trans h
noncomputable abbrev partV (p : PartT) : Value := .agg #[.int .i64 p.kind, .string ⟨p.text.toArray⟩, .int .i64 p.op, .bool p.colon, .slice p.h.1 p.parts.length p.h.2]
theorem below_add {w0 W W' : World} {b : Nat} (hb : Below w0.heap.size w0 W) (hg : W.grownBy W' (some b)) (h : w0.heap.size ≤ b) : Below w0.heap.size w0 W' := hb.grown hg hb.size (fun j hj => by cases hj; exact h)
/-- what a function value that is visited does: it adds names to the set -/
def VisP (g B b : Nat) (F : PartT → List (List UInt8)) (w0 : World) : Prop := ∀ (p : PartT) (L : List (List UInt8)) (W : World), Below w0.heap.size w0 W → DeepP w0 p.h p.parts → szP p ≤ 1048576 → L.length + (F p).length ≤ 1048576 → BoxM B b W → MapI b L W →
  Calls Tryz.prog g #[partV p, .pointer (some ⟨B, 0, none⟩)] W (AddP b (L ++ F p) W)
set_option maxHeartbeats 1000000
set_option maxRecDepth 100000
theorem visit_calls (g B b : Nat) (F : PartT → List (List UInt8)) (w0 : World) (eg : ∀ args w, (callFunc g args).run Tryz.prog w = .ok (.enter g args) w) (hV : VisP g B b F w0) (hB0 : w0.heap.size ≤ B) (hb0 : w0.heap.size ≤ b) (hne : B ≠ b) :
    ∀ (N : Nat) (l : List PartT) (A : Option Addr) (cap : Nat) (L : List (List UInt8)) (W : World), szPs l ≤ N → N ≤ 1048576 → DeepP w0 (A, cap) l → Below w0.heap.size w0 W → BoxM B b W → MapI b L W → L.length + (visF F N l).length ≤ 1048576 →
      Calls Tryz.prog 25 #[.slice A l.length cap, .func (.func g) #[] #[.pointer (some ⟨B, 0, none⟩)]] W (AddP b (L ++ visF F N l) W) := by
  intro N
  induction N with
  | zero =>
    intro l A cap L W hN _ _ hbw hbx hmo hn
    have hl : l = [] := by
      have := szPs_len l
      exact List.eq_nil_of_length_eq_zero (by omega)
    subst hl
    rw [show visF F 0 [] = [] from rfl, List.append_nil]
    clear hV hN hbw hbx hn
    go_enter Tryz.func25, Tryz.ntmps25
    go_wp2
    go_loopg [8] 0 (fun g s wx => s = .int .i64 0 ∧ W = wx)
    case atStart => exact ⟨rfl, rfl⟩
    case round =>
      obtain ⟨rfl, rfl⟩ := hrel
      go_wp2
      go_end0
      exact ⟨rfl, hmo, World.grownBy.refl _ _⟩
  | succ N ih =>
    intro l A cap L W hN hM hd hbw hbx hmo hn
    obtain ⟨sz, hsz0⟩ : ∃ n, n = l.length := ⟨_, rfl⟩
    have HL : Aside (sz = l.length ∧ RdS 5 encP w0 A l ∧ szPs l ≤ 1048576 ∧ (∀ p ∈ l, DeepP w0 p.h p.parts) ∧ L.length + (visF F (N + 1) l).length ≤ 1048576) := by
      obtain ⟨_, _, h1, h2⟩ := hd
      exact ⟨hsz0, h1, by omega, h2, hn⟩
    have hl : sz ≤ 1048576 := by rw [hsz0]; have := szPs_len l; omega
    have HV : Aside (VisP g B b F w0) := hV
    have IH : Aside (∀ p ∈ l, ∀ (L : List (List UInt8)) (W : World), Below w0.heap.size w0 W → BoxM B b W → MapI b L W → L.length + (visF F N p.parts).length ≤ 1048576 →
        Calls Tryz.prog 25 #[.slice p.h.1 p.parts.length p.h.2, .func (.func g) #[] #[.pointer (some ⟨B, 0, none⟩)]] W (AddP b (L ++ visF F N p.parts) W)) :=
      fun p hp L W h1 h2 h3 h4 => ih p.parts p.h.1 p.h.2 L W (by have := szPs_kid hp; omega) (by omega) (by obtain ⟨_, _, _, h⟩ := hd; exact h p hp) h1 h2 h3 h4
    have HB : Aside (Below w0.heap.size w0 W ∧ BoxM B b W) := ⟨hbw, hbx⟩
    rw [← hsz0]
    clear hsz0 ih hd hN hM hV hn hbw hbx
    obtain ⟨R, hR0⟩ : ∃ R, R = L ++ visF F (N + 1) l := ⟨_, rfl⟩
    rw [← hR0]
    have HR : Aside (L ++ visF F (N + 1) l = R) := hR0.symm
    clear hR0
    go_enter Tryz.func25, Tryz.ntmps25
    go_wp2
    go_loopg [8] sz (fun g s wx => ∃ (k : Nat) (L1 : List (List UInt8)), k + g = sz ∧ s = .int .i64 k ∧ Aside (L1 ++ visF F (N + 1) (l.drop k) = R) ∧ MapI b L1 wx ∧ W.grownBy wx (some b))
    case atStart => exact ⟨0, L, by omega, rfl, HR, hmo, World.grownBy.refl _ _⟩
    case round =>
      obtain ⟨k, L1, hkg, rfl, HI, hmo, hgr⟩ := hrel
      cases gk with
      | zero =>
        have hkz : ¬ (k : Int) < (sz : Int) := by omega
        have ha : Aside (L1 = R) := by show _ = _; rw [← HI.out, List.drop_eq_nil_of_le (by have := HL.out.1; omega)]; simp [visF]
        go_wp2
        go_end0
        exact ⟨rfl, by rw [ha.out] at hmo; exact hmo, hgr⟩
      | succ g2 =>
        have hkz : (k : Int) < (sz : Int) := by omega
        have hk63 : (k : Int) + 1 ≤ 9223372036854775807 := by omega
        obtain ⟨x, hx⟩ : ∃ x, l[k]? = some x := ⟨_, List.getElem?_eq_getElem (by have := HL.out.1; omega)⟩
        have h6 : L1 ++ F x ++ visF F N x.parts ++ visF F (N + 1) (l.drop (k + 1)) = R := by
          have h := HI.out
          rw [Lib.drop_at hx, visF_cons] at h
          rw [← h]; simp only [List.append_assoc]
        have hbw : Below w0.heap.size w0 wr := below_add HB.out.1 hgr hb0
        have hbx : BoxM B b wr := HB.out.2.grown hgr hne
        obtain ⟨b1, o1, rfl, hlt, hc⟩ := (HL.out.2.1.up hbw) k x hx
        have c0 : wr.cell? ⟨b1, o1 + k * 5, none⟩ = some (.int .i64 x.kind) := hc 0 _ rfl
        have c1 : wr.cell? ⟨b1, o1 + k * 5 + 1, none⟩ = some (.string ⟨x.text.toArray⟩) := hc 1 _ rfl
        have c2 : wr.cell? ⟨b1, o1 + k * 5 + 2, none⟩ = some (.int .i64 x.op) := hc 2 _ rfl
        have c3 : wr.cell? ⟨b1, o1 + k * 5 + 3, none⟩ = some (.bool x.colon) := hc 3 _ rfl
        have c4 : wr.cell? ⟨b1, o1 + k * 5 + 4, none⟩ = some (.slice x.h.1 x.parts.length x.h.2) := hc 4 _ rfl
        have hszR : Aside (R.length ≤ 1048576) := by show _ ≤ _; rw [← HR.out, List.length_append]; exact HL.out.2.2.2.2
        have hl1 : L1.length + (F x).length ≤ 1048576 := by have := hszR.out; rw [← h6] at this; simp only [List.length_append] at this; omega
        have hl2 : (L1 ++ F x).length + (visF F N x.parts).length ≤ 1048576 := by have := hszR.out; rw [← h6] at this; simp only [List.length_append] at this ⊢; omega
        have HBX : Aside (Below wr.heap.size wr (boxP wr x)) := (Below.refl _ _).alloc (Nat.le_refl _) _
        have hbb : b < wr.heap.size := hmo.lt
        obtain ⟨z0, z1, z2, z3, z4⟩ := boxP_in (Below.refl (boxP wr x).heap.size (boxP wr x))
        have HBB : Aside (BoxM B b (boxP wr x) ∧ Below w0.heap.size w0 (boxP wr x)) := ⟨hbx.below HBX.out, hbw.trans (HBX.out.mono hbw.size)⟩
        have cV := HV.out x L1 (boxP wr x) HBB.out.2 (HL.out.2.2.2.1 x (List.mem_of_getElem? hx)) (by have := szPs_mem (List.mem_of_getElem? hx); have := HL.out.2.2.1; omega) hl1 HBB.out.1 (hmo.below HBX.out)
        have HZ : Aside (∀ W, (boxP wr x).grownBy W (some b) → W.cell? ⟨wr.heap.size, 4, none⟩ = some (.slice x.h.1 x.parts.length x.h.2)) := fun W hg => by
          have h2 := hg.block wr.heap.size (by simp) (fun e => by have := Option.some.inj e; omega)
          simp only [World.cell?, h2] at z4 ⊢
          exact z4
        have HG : Aside (wr.grownBy (boxP wr x) (some b)) := grown_of_below HBX.out
        have cR : Aside (∀ W, Below w0.heap.size w0 W → BoxM B b W → MapI b (L1 ++ F x) W → _) := fun W h1 h2 h3 => IH.out x (List.mem_of_getElem? hx) (L1 ++ F x) W h1 h2 h3 hl2
        have H6 : Aside _ := h6
        clear hc hx hlt h6 hl1 hl2 HI hmo
        go_wp2_with (first
          | (go_at_fn g; go_must (refine cV.mono ?_; rintro e W1 ⟨rfl, hm1, hg1⟩; have y4 := HZ.out W1 hg1))
          | (go_at_call 25; refine (cR.out W1 (below_add HBB.out.2 hg1 hb0) (HBB.out.1.grown hg1 hne) hm1).mono ?_; rintro e W2 ⟨rfl, hm2, hg2⟩))
        go_roundg g2
        case measure => omega
        case rel => exact ⟨k + 1, _, by omega, by simp, H6.out, hm2, (hgr.trans HG.out).trans (hg1.trans hg2)⟩
end Go.Proofs.YtfdhkchglacccaaGreatDoor
