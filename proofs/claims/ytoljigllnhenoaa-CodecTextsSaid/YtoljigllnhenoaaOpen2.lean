/- Open of the codec, by the plain decoding of a frame. -/
import Derived.Test.YtoljigllnhenoaaOpen
namespace Go.Proofs.Ytoljigllnhenoaa
open Go.RowKit
theorem frame_fails {l : List UInt8} {c : Nat} {er : Int} (hl : l.length ≤ 1000000000) (h : takeFrame l = .error er) : FrameFails er l c := by
  intro g A w hd
  cases l with
  | nil =>
    simp only [takeFrame, Except.error.injEq] at h
    subst h
    exact frame_none g A c w hd
  | cons k t =>
    have h0 : 0 < (k :: t).length := by simp
    unfold takeFrame at h
    simp only at h
    split at h
    · rename_i e hz
      simp only [Except.error.injEq] at h
      subst h
      exact frame_err g A c (k :: t) e w hd h0 hl hz
    · rename_i n j hz
      split at h
      · rename_i hn
        simp only [Except.error.injEq] at h
        subst h
        exact frame_short g A c (k :: t) n j w hd h0 hl hz hn
      · rename_i hn
        split at h
        · rename_i hne
          simp only [Except.error.injEq] at h
          subst h
          refine (frame_main g A c (k :: t) n j w hd h0 hl hz hn).mono fun e w' hp => ?_
          obtain ⟨h1, h2⟩ := hp
          rw [if_neg hne] at h2
          exact ⟨h2, h1⟩
        · cases h
theorem frame_gives {l : List UInt8} {c k s : Nat} {t : List UInt8} (hl : l.length ≤ 1000000000) (h : takeFrame l = .ok (k, t, s)) : FrameGives k t s l c := by
  intro g A w hd
  cases l with
  | nil => cases h
  | cons k' t' =>
    have h0 : 0 < (k' :: t').length := by simp
    unfold takeFrame at h
    simp only at h
    split at h
    · cases h
    · rename_i n j hz
      split at h
      · cases h
      · rename_i hn
        split at h
        · cases h
        · rename_i heq
          simp only [Except.ok.injEq, Prod.mk.injEq] at h
          obtain ⟨rfl, rfl, rfl⟩ := h
          refine (frame_main g A c (k' :: t') n j w hd h0 hl hz hn).mono fun e w' hp => ?_
          obtain ⟨h1, h2⟩ := hp
          rw [if_pos (Decidable.byContradiction fun hne => heq hne)] at h2
          obtain ⟨v, he, hd', hown⟩ := h2
          exact ⟨v, he, hd', hown, h1⟩
theorem open_no (A : Option Addr) (c : Nat) (l : List UInt8) (er : Int) (w : World) (h : Reads w w.heap.size 1 A l.length (bv l)) (hl : l.length ≤ 1000000000) (hlc : l.length ≤ c) (hz : takeFrame l = .error er) :
    Calls Try.prog 31 #[.slice A l.length c] w fun e w' => e = .returned (.tuple #[.int .i64 0, .slice none 0 0, .int .i64 0, .int .i64 er]) ∧ Below w.heap.size w w' :=
  open_fails A c l er w h hlc (frame_fails hl hz)
theorem open_yes (A : Option Addr) (c : Nat) (l : List UInt8) (k s : Nat) (t : List UInt8) (w : World) (h : Reads w w.heap.size 1 A l.length (bv l)) (hl : l.length ≤ 1000000000) (hlc : l.length ≤ c) (hz : takeFrame l = .ok (k, t, s)) :
    Calls Try.prog 31 #[.slice A l.length c] w fun e w' => ∃ v, e = .returned (.tuple #[.int .i64 k, v, .int .i64 s, .int .i64 0]) ∧ w'.ownsRow w.heap.size 5 1 v t.length (bv t) ∧ Below w.heap.size w w' :=
  open_gives A c l k s t w h hlc (frame_gives hl hz)
end Go.Proofs.Ytoljigllnhenoaa
