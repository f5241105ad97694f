/- The walk of the law CodecReads. -/
import Derived.Test.YtoljigllnhenoaaSameTexts
namespace Go.Proofs.Ytoljigllnhenoaa
open Go.RowKit
/-- a call that gives a triple and writes nothing that was there -/
def Gives3 (f : Nat) (A : Option Addr) (n c : Nat) (w : World) (x : Value) (k er : Int) : Prop :=
  Calls Try.prog f #[.slice A n c] w fun e w' => e = .returned (.tuple #[x, .int .i64 k, .int .i64 er]) ∧ Below w.heap.size w w'
theorem ints_out (l : List UInt8) (hl : l.length ≤ 1000000) : ∃ x k er : Int, ∀ (A : Option Addr) (c : Nat) (w : World), Reads w w.heap.size 1 A l.length (bv l) → l.length ≤ c → Gives3 13 A l.length c w (.int .i64 x) k er ∧ Gives3 18 A l.length c w (.int .i64 x) k er := by
  cases hz : takeZ 0 0 l with
  | error er =>
    refine ⟨0, 0, er, fun A c w h hc => ⟨takeInt_err A c l er w h (by omega) hc hz, (refTake_any A c l w h (by omega)).mono fun e w' hp => ?_⟩⟩
    obtain ⟨h1, rfl⟩ := refNum_err hz hp
    exact ⟨h1, Below.refl _ _⟩
  | ok r =>
    obtain ⟨z, k⟩ := r
    refine ⟨unzig z, k, 0, fun A c w h hc => ⟨takeInt_ok A c l z k w h (by omega) hc hz, (refTake_any A c l w h (by omega)).mono fun e w' hp => ?_⟩⟩
    obtain ⟨h1, rfl⟩ := refNum_ok hz hp
    exact ⟨h1, Below.refl _ _⟩
theorem text_out (l : List UInt8) (hl : l.length ≤ 1000000) : ∃ (x : List UInt8) (k er : Int), ∀ (A : Option Addr) (c : Nat) (w : World), Reads w w.heap.size 1 A l.length (bv l) → l.length ≤ c → Gives3 19 A l.length c w (.string ⟨x.toArray⟩) k er ∧ Gives3 20 A l.length c w (.string ⟨x.toArray⟩) k er := by
  cases hz : takeText l with
  | error er =>
    refine ⟨[], 0, er, fun A c w h hc => ⟨takeText_no A c l er w h (by omega) hc hz, (refText_any A c l w h hl hc).mono fun e w' hp => ?_⟩⟩
    obtain ⟨h1, rfl⟩ := refText_err hz hp
    exact ⟨h1, Below.refl _ _⟩
  | ok r =>
    obtain ⟨t, k⟩ := r
    refine ⟨t, k, 0, fun A c w h hc => ⟨takeText_yes A c l t k w h (by omega) hc hz, (refText_any A c l w h hl hc).mono fun e w' hp => ?_⟩⟩
    obtain ⟨h1, rfl⟩ := refText_ok hz hp
    exact ⟨h1, Below.refl _ _⟩
/-- a call that gives a row of texts -/
def GivesTexts (f : Nat) (A : Option Addr) (n c : Nat) (w : World) (ts : List (List UInt8)) (k er : Int) : Prop :=
  Calls Try.prog f #[.slice A n c] w fun e w' => ∃ v, e = .returned (.tuple #[v, .int .i64 k, .int .i64 er]) ∧ w'.ownsRow w.heap.size 9 1 v ts.length (sv ts) ∧ Below w.heap.size w w'
theorem takeMany_length (n : Nat) : ∀ {l : List UInt8} {ts : List (List UInt8)} {k : Nat}, takeMany n l = .ok (ts, k) → ts.length = n ∧ n ≤ k ∧ k ≤ l.length := by
  induction n with
  | zero => intro l ts k h; simp only [takeMany, Except.ok.injEq, Prod.mk.injEq] at h; rw [← h.1, ← h.2]; simp
  | succ n ih =>
    intro l ts k h
    rw [takeMany] at h
    split at h
    · cases h
    · rename_i t k1 hz
      have h1 := takeText_le hz
      split at h
      · cases h
      · rename_i ts' j hm
        have h2 := ih hm
        rw [List.length_drop] at h2
        simp only [Except.ok.injEq, Prod.mk.injEq] at h
        rw [← h.1, ← h.2, List.length_cons]
        omega
theorem takeTexts_le {l : List UInt8} {ts : List (List UInt8)} {k : Nat} (h : takeTexts l = .ok (ts, k)) : ts.length ≤ k ∧ k ≤ l.length := by
  unfold takeTexts at h
  split at h
  · cases h
  · rename_i n k1 hz
    have h1 := takeLen_le hz
    split at h
    · cases h
    · cases hm : takeMany n (l.drop k1) with
      | error e => rw [hm] at h; cases h
      | ok r =>
        obtain ⟨ts', j⟩ := r
        rw [hm] at h
        have h2 := takeMany_length n hm
        rw [List.length_drop] at h2
        simp only [onto, List.nil_append, Except.ok.injEq, Prod.mk.injEq] at h
        rw [← h.1, ← h.2]
        omega
theorem texts_out (l : List UInt8) (hl : l.length ≤ 1000000) : ∃ (ts : List (List UInt8)) (k er : Int), ts.length ≤ 1000000 ∧ ∀ (A : Option Addr) (c : Nat) (w : World), Reads w w.heap.size 1 A l.length (bv l) → l.length ≤ c → GivesTexts 21 A l.length c w ts k er ∧ GivesTexts 22 A l.length c w ts k er := by
  cases hz : takeTexts l with
  | error er =>
    refine ⟨[], 0, er, by simp, fun A c w h hc => ⟨(takeTexts_no A c l er w h hl hc hz).mono fun e w' hp => ⟨_, hp.1, World.ownsRow_nil _ _ _ _, hp.2⟩, (refTexts_any A c l w h hl hc).mono fun e w' hp => ?_⟩⟩
    obtain ⟨h1, h2⟩ := hp
    rw [hz] at h2
    exact ⟨_, h2, World.ownsRow_nil _ _ _ _, h1⟩
  | ok r =>
    obtain ⟨ts, k⟩ := r
    have hle := takeTexts_le hz
    refine ⟨ts, k, 0, by omega, fun A c w h hc => ⟨takeTexts_yes A c l ts k w h hl hc hz, (refTexts_any A c l w h hl hc).mono fun e w' hp => ?_⟩⟩
    obtain ⟨h1, h2⟩ := hp
    rw [hz] at h2
    obtain ⟨v, h3, h4⟩ := h2
    exact ⟨v, h3, h4, h1⟩

theorem reads_long (A : Option Addr) (n c : Nat) (w : World) (h : 200 < n) (_hn : n ≤ 9223372036854775807) :
    Calls Try.prog 5 #[.slice A n c] w (SaysTrue w) := by
  have hl' : decide ((200 : Int) < (n : Int)) = true := by simp; omega
  go_enter Try.func5, Try.ntmps5
  go_wp2_with fail
  refine (says_awake (Below.refl _ _)).mono ?_
  rintro e w' ⟨rfl, hb⟩
  go_wp2
  go_ret
  exact ⟨rfl, hb⟩
set_option maxRecDepth 100000 in
set_option maxHeartbeats 2000000 in
theorem reads_any (A : Option Addr) (c : Nat) (l : List UInt8) (w : World) (hr : Reads w w.heap.size 1 A l.length (bv l)) (hn : l.length ≤ 200) (hc : l.length ≤ c) :
    Calls Try.prog 5 #[.slice A l.length c] w (SaysTrue w) := by
  have hl' : decide ((200 : Int) < (l.length : Int)) = false := by simp; omega
  obtain ⟨x, k, er, hI⟩ := ints_out l (by omega)
  obtain ⟨t, kt, et, hT⟩ := text_out l (by omega)
  obtain ⟨ts, ks, es, htl, hS⟩ := texts_out l (by omega)
  have HI := Lib.hid hI
  have HT := Lib.hid hT
  have HS := Lib.hid hS
  clear hI hT hS
  go_enter Try.func5, Try.ntmps5
  go_wp2_with fail
  refine ((HI.out A c w hr hc).1).mono ?_
  rintro e w1 ⟨rfl, hb1⟩
  have hr1 := (hr.below hb1).more hb1.size
  go_wp2_with fail
  refine ((HI.out A c w1 hr1 hc).2).mono ?_
  rintro e w2 ⟨rfl, hb2⟩
  have hr2 := (hr1.below hb2).more hb2.size
  have hb02 := hb1.trans (hb2.mono hb1.size)
  clear hb1 hb2 hr1
  go_wp2_with fail
  refine ((HT.out A c w2 hr2 hc).1).mono ?_
  rintro e w3 ⟨rfl, hb3⟩
  have hr3 := (hr2.below hb3).more hb3.size
  have hb03 := hb02.trans (hb3.mono hb02.size)
  clear hb02 hb3 hr2
  go_wp2_with fail
  refine ((HT.out A c w3 hr3 hc).2).mono ?_
  rintro e w4 ⟨rfl, hb4⟩
  have hr4 := (hr3.below hb4).more hb4.size
  have hb04 := hb03.trans (hb4.mono hb03.size)
  clear hb03 hb4 hr3
  go_wp2_with fail
  refine ((HS.out A c w4 hr4 hc).1).mono ?_
  rintro e w5 ⟨v5, rfl, hown5, hb5⟩
  have hr5 := (hr4.below hb5).more hb5.size
  have hb05 := hb04.trans (hb5.mono hb04.size)
  clear hb04 hb5 hr4
  obtain ⟨A5, c5, rfl, _, hq5⟩ := own_slice hown5
  go_wp2_with fail
  refine ((HS.out A c w5 hr5 hc).2).mono ?_
  rintro e w6 ⟨v6, rfl, hown6, hb6⟩
  have hb06 := hb05.trans (hb6.mono hb05.size)
  have hq56 := (hq5.below hb6).more hb6.size
  clear hb05 hb6 hr5
  obtain ⟨A6, c6, rfl, _, hq6⟩ := own_slice hown6
  go_wp2_with fail
  refine (sameTexts A5 A6 c5 c6 ts w6 hq56 hq6 htl).mono ?_
  rintro e w7 ⟨rfl, m, rfl⟩
  go_wp2_with fail
  refine (says_awake (hb06.trans (below_drewN (Below.refl _ _) m))).mono ?_
  rintro e w' ⟨rfl, hb⟩
  go_wp2
  go_ret
  exact ⟨rfl, hb⟩
end Go.Proofs.Ytoljigllnhenoaa
