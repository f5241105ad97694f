/- texts of the decoder. -/
import Derived.Test.YtoljigllnhenoaaTakeText
import Derived.Test.YtoljigllnhenoaaSeal
import Derived.Maps.Range
import Derived.Deep.AppendLies
namespace Go.Proofs.Ytoljigllnhenoaa
open Go.RowKit
def takeMany : Nat → List UInt8 → Except Int (List (List UInt8) × Nat)
  | 0, _ => .ok ([], 0)
  | n + 1, l =>
    match takeText l with
    | .error e => .error e
    | .ok (t, k) =>
      match takeMany n (l.drop k) with
      | .error e => .error e
      | .ok (ts, j) => .ok (t :: ts, k + j)
/-- what is told when d has been read already and p bytes are behind -/
def onto (d : List (List UInt8)) (p : Nat) : Except Int (List (List UInt8) × Nat) → Except Int (List (List UInt8) × Nat)
  | .error e => .error e
  | .ok (ts, j) => .ok (d ++ ts, p + j)
theorem onto_more {d : List (List UInt8)} {p m k : Nat} {l t : List UInt8} (h : takeText (l.drop p) = .ok (t, k)) :
    onto d p (takeMany (m + 1) (l.drop p)) = onto (d ++ [t]) (p + k) (takeMany m (l.drop (p + k))) := by
  rw [takeMany, h]
  simp only [List.drop_drop]
  cases takeMany m (l.drop (p + k)) with
  | error e => rfl
  | ok r => simp [onto, Nat.add_assoc]
theorem onto_error {d : List (List UInt8)} {p m : Nat} {l : List UInt8} {e : Int} (h : takeText (l.drop p) = .error e) : onto d p (takeMany (m + 1) (l.drop p)) = .error e := by
  rw [takeMany, h]; rfl
theorem onto_done (d : List (List UInt8)) (p : Nat) (l : List UInt8) : onto d p (takeMany 0 l) = .ok (d, p) := by simp [takeMany, onto]
def takeTexts (l : List UInt8) : Except Int (List (List UInt8) × Nat) :=
  match takeLen l with
  | .error e => .error e
  | .ok (n, k) => if l.length - k < n then .error 28 else onto [] k (takeMany n (l.drop k))
def sv (d : List (List UInt8)) : List Value := d.map fun t => .string ⟨t.toArray⟩
theorem sv_append (a b : List (List UInt8)) : sv (a ++ b) = sv a ++ sv b := List.map_append
theorem sv_length (d : List (List UInt8)) : (sv d).length = d.length := List.length_map _
theorem text_info : (Try.prog.info? 9).map (fun i => (i.zero, i.size, i.bytes)) = some (some (.string ⟨#[]⟩), 1, 16) := by kernel_rfl
theorem one_text (x : ByteArray) : ∀ u ∈ [Value.string x], u.oneCell' = true := by simp [Value.oneCell']

/-- what texts gives at l, from at_ on -/
def TextsPost (w : World) (g : Nat) (A : Option Addr) (c : Nat) (l : List UInt8) (at_ : Nat) (e : Ending) (w' : World) : Prop :=
  w.grownBy w' (some g) ∧
  match takeTexts (l.drop at_) with
  | .ok (ts, k) => ∃ v, e = .returned v ∧ w'.ownsRow w.heap.size 9 1 v ts.length (sv ts) ∧ Dec w' g A c l (at_ + k)
  | .error er => e = Fault er
def TextsRel (w : World) (g : Nat) (A : Option Addr) (c : Nat) (l : List UInt8) (at_ n : Nat) (v i : Value) (wr : World) : Prop :=
  ∃ (j p : Nat) (d : List (List UInt8)), j ≤ n ∧ i = .int .i64 (j : Int) ∧ d.length = j ∧ wr.ownsRow w.heap.size 9 1 v j (sv d) ∧ at_ + p ≤ l.length ∧ Dec wr g A c l (at_ + p) ∧ w.grownBy wr (some g) ∧
    Hid (takeTexts (l.drop at_) = onto d p (takeMany (n - j) ((l.drop at_).drop p)))

theorem texts_fault {w w' : World} {g : Nat} {A : Option Addr} {c : Nat} {l : List UInt8} {at_ : Nat} {er : Int} (hT : takeTexts (l.drop at_) = .error er) (hg : w.grownBy w' (some g)) :
    TextsPost w g A c l at_ (.panicked [{ v := .iface 71 (.agg #[.int .i64 er]), recovered := false }]) w' := by
  refine ⟨hg, ?_⟩
  rw [hT]
  rfl
theorem texts_gives {w w' : World} {g : Nat} {A : Option Addr} {c : Nat} {l : List UInt8} {at_ k : Nat} {ts : List (List UInt8)} {v : Value} (hT : takeTexts (l.drop at_) = .ok (ts, k)) (hg : w.grownBy w' (some g))
    (ho : w'.ownsRow w.heap.size 9 1 v ts.length (sv ts)) (hd : Dec w' g A c l (at_ + k)) : TextsPost w g A c l at_ (.returned v) w' := by
  refine ⟨hg, ?_⟩
  rw [hT]
  exact ⟨v, rfl, ho, hd⟩
theorem dec_only {w w' : World} {g : Nat} {A : Option Addr} {c : Nat} {l : List UInt8} {p : Nat} {row : Option Nat} (h : Dec w g A c l p) (hb : w.grownBy w' row) (hr : ∀ k, row = some k → g < k) : Dec w' g A c l p := by
  have hlt := h.1.lt
  refine ⟨h.1.grown hb (fun e => ?_), ?_, h.2.2⟩
  · have := hr g e.symm; omega
  · refine h.2.1.keep fun p hp => ?_
    refine hb.cell_far p (by omega) (fun e => ?_)
    have := hr _ e.symm; omega

set_option maxRecDepth 100000 in
set_option maxHeartbeats 2000000 in
theorem texts_any (g : Nat) (A : Option Addr) (c : Nat) (l : List UInt8) (at_ : Nat) (w : World) (h : Dec w g A c l at_) (hat : at_ ≤ l.length) (hl : l.length ≤ 1000000) :
    Calls Try.prog 39 #[.pointer (some ⟨g, 0, none⟩)] w (TextsPost w g A c l at_) := by
  obtain ⟨i0, hi0, hz0, hz1, hz2⟩ := info_parts text_info
  have hgl := h.1.lt
  cases hz : takeLen (l.drop at_) with
  | error er =>
    have hT : takeTexts (l.drop at_) = .error er := by unfold takeTexts; rw [hz]
    go_enter Try.func39, Try.ntmps39
    go_wp2_with fail
    refine (length_err g A c l at_ er w h hat (by omega) hz).mono ?_
    rintro e w1 ⟨rfl, hg⟩
    go_wp2
    exact ⟨rfl, texts_fault hT hg⟩
  | ok r =>
    obtain ⟨n, k⟩ := r
    have hle := takeLen_le hz
    rw [List.length_drop] at hle
    have hlen := length_ok g A c l at_ n k w h hat (by omega) hz
    have HL := Lib.hid hlen
    clear hlen
    by_cases hn : l.length - (at_ + k) < n
    · have hT : takeTexts (l.drop at_) = .error 28 := by unfold takeTexts; rw [hz]; simp only; rw [if_pos (by rw [List.length_drop]; omega)]
      have HT := Lib.hid hT
      clear hz hT
      obtain ⟨p, hp⟩ : ∃ p, p = at_ + k := ⟨_, rfl⟩
      rw [← hp] at HL hn
      have hpl : p ≤ l.length := by omega
      clear hp hle
      go_enter Try.func39, Try.ntmps39
      go_wp2_with fail
      refine HL.out.mono ?_
      rintro e w1 ⟨rfl, hd, hg⟩
      go_wp2_with fail
      refine (rest_any g A c l p w1 hd (by omega) (by omega)).mono ?_
      rintro e w2 ⟨rfl, m, rfl⟩
      have hb : decide ((l.length : Int) - (p : Int) < (n : Int)) = true := by simp; omega
      go_wp2
      exact ⟨rfl, texts_fault HT.out (only_drewN hg _)⟩
    · have hT : takeTexts (l.drop at_) = onto [] k (takeMany n ((l.drop at_).drop k)) := by unfold takeTexts; rw [hz]; simp only; rw [if_neg (by rw [List.length_drop]; omega)]
      have HT := Lib.hid hT
      clear hz hT
      have hpl : at_ + k ≤ l.length := by omega
      have hnm : n ≤ 1000000 := by omega
      have hb : decide ((l.length : Int) - ((at_ + k : Nat) : Int) < (n : Int)) = false := by simp; omega
      go_enter Try.func39, Try.ntmps39
      go_wp2_with fail
      refine HL.out.mono ?_
      rintro e w1 ⟨rfl, hd, hg⟩
      go_wp2_with fail
      refine (rest_any g A c l _ w1 hd (by omega) (by omega)).mono ?_
      rintro e w2 ⟨rfl, m, rfl⟩
      go_wp2
      go_loopw [4, 14] (fun v i wr => TextsRel w g A c l at_ n v i wr) (fun _ i _ => n - (intOf i).toNat)
      case atStart => exact ⟨0, k, [], by omega, rfl, rfl, World.ownsRow_nil _ _ _ _, hpl, dec_drewN hd _, only_drewN hg _, HT.out⟩
      case round =>
        obtain ⟨j, p, d, hj, rfl, hdl, hown, hpl2, hdec, hgr, HR⟩ := hrel
        by_cases hjn : j < n
        · obtain ⟨q, hq⟩ : ∃ q, n - j = q + 1 := ⟨n - j - 1, by omega⟩
          have hq' : n - (j + 1) = q := by omega
          cases hz : takeText (l.drop (at_ + p)) with
          | error er =>
            have hT : takeTexts (l.drop at_) = .error er := by rw [HR.out, hq]; exact onto_error (by rw [List.drop_drop]; exact hz)
            have HE := Lib.hid hT
            have HZ := Lib.hid hz
            clear hT hq hq' hz
            go_wp2_with fail
            refine (text_no g A c l (at_ + p) er _ hdec hpl2 (by omega) HZ.out).mono ?_
            rintro e w3 ⟨rfl, hg3⟩
            go_wp2
            exact ⟨rfl, texts_fault HE.out (hgr.trans hg3)⟩
          | ok r =>
            obtain ⟨t, k2⟩ := r
            have hle2 := takeText_le hz
            rw [List.length_drop] at hle2
            have hT : takeTexts (l.drop at_) = onto (d ++ [t]) (p + k2) (takeMany (n - (j + 1)) ((l.drop at_).drop (p + k2))) := by
              rw [HR.out, hq, hq']; exact onto_more (by rw [List.drop_drop]; exact hz)
            have HE := Lib.hid hT
            have HZ := Lib.hid hz
            clear hT hq hq' hz
            go_wp2_with fail
            refine (text_yes g A c l (at_ + p) t k2 _ hdec hpl2 (by omega) HZ.out).mono ?_
            rintro e w3 ⟨rfl, hd3, hg3⟩
            have hb4 : ∀ x, u4.ownBlock = some x → w.heap.size ≤ x := fun x hx => (hown.lt x hx).1
            have ho3 : w3.ownsRow w.heap.size 9 1 u4 j (sv d) := hown.kept hg3 (.inr fun e => by have := hb4 g e; omega)
            have hgr3 := hgr.trans hg3
            have hsz3 := hgr3.size
            go_wp2_with (at_builtin; refine wpList_append_own _ rfl (.tmp 16) (.tmp 19) 38 rfl w.heap.size 9 i0 (.string ⟨#[]⟩) 1 16 Try.underlying38 hi0 hz0 hz1 hz2 rfl (by decide) _ _ _ rfl (ho3.alloc _) ⟨w3.heap.size, 0, none⟩ 1 1 [.string ⟨t.toArray⟩] rfl rfl (cell_one_new _ _ _) (one_text _) (by unfold maxLen; omega) (by omega) (Nat.le_trans hsz3 (by simp)) ?_; intro v' w4 hown4 hg4 _)
            go_roundw
            case rel =>
              refine ⟨j + 1, p + k2, d ++ [t], by omega, by simp, by simp [hdl], ?_, by omega, ?_, ?_, HE.out⟩
              · rw [sv_append]; exact hown4
              · rw [← Nat.add_assoc]
                exact dec_only (dec_only hd3 (World.grownBy_alloc w3 _ none) (fun _ h => by cases h)) hg4 (fun x hx => by have := hb4 x hx; omega)
              · exact (hgr3.andThen (World.grownBy_alloc w3 _ none) (fun _ h => by cases h)).andThen hg4 (fun x hx => .inl (hb4 x hx))
            case measure => simp [intOf]; omega
        · obtain rfl : j = n := by omega
          have hT : takeTexts (l.drop at_) = .ok (d, p) := by rw [HR.out, Nat.sub_self]; exact onto_done _ _ _
          go_wp2
          go_ret
          exact texts_gives hT hgr (by rw [hdl]; exact hown) hdec
theorem texts_no (g : Nat) (A : Option Addr) (c : Nat) (l : List UInt8) (at_ : Nat) (er : Int) (w : World) (h : Dec w g A c l at_) (hat : at_ ≤ l.length) (hl : l.length ≤ 1000000) (hz : takeTexts (l.drop at_) = .error er) :
    Calls Try.prog 39 #[.pointer (some ⟨g, 0, none⟩)] w fun e w' => e = .panicked [{ v := .iface 71 (.agg #[.int .i64 er]), recovered := false }] ∧ w.grownBy w' (some g) := by
  refine (texts_any g A c l at_ w h hat hl).mono fun e w' hp => ?_
  obtain ⟨h1, h2⟩ := hp
  rw [hz] at h2
  exact ⟨h2, h1⟩
theorem texts_yes (g : Nat) (A : Option Addr) (c : Nat) (l : List UInt8) (at_ : Nat) (ts : List (List UInt8)) (k : Nat) (w : World) (h : Dec w g A c l at_) (hat : at_ ≤ l.length) (hl : l.length ≤ 1000000) (hz : takeTexts (l.drop at_) = .ok (ts, k)) :
    Calls Try.prog 39 #[.pointer (some ⟨g, 0, none⟩)] w fun e w' => ∃ A' c', e = .returned (.slice A' ts.length c') ∧ w'.ownsRow w.heap.size 9 1 (.slice A' ts.length c') ts.length (sv ts) ∧ Dec w' g A c l (at_ + k) ∧ w.grownBy w' (some g) := by
  refine (texts_any g A c l at_ w h hat hl).mono fun e w' hp => ?_
  obtain ⟨h1, h2⟩ := hp
  rw [hz] at h2
  obtain ⟨v, he, ho, hd⟩ := h2
  obtain ⟨A', c', rfl, _, _⟩ := own_slice ho
  exact ⟨A', c', he, ho, hd, h1⟩
end Go.Proofs.Ytoljigllnhenoaa
