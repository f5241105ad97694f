/- TakeText and TakeTexts of the reference. -/
import Derived.Test.YtoljigllnhenoaaTakeTexts
import Derived.Test.YtoljigllnhenoaaRefOpen
namespace Go.Proofs.Ytoljigllnhenoaa
open Go.RowKit
def RefTextPost (l : List UInt8) (w : World) (e : Ending) (w' : World) : Prop :=
  w = w' ∧ match takeText l with
  | .ok (t, k) => e = .returned (.tuple #[.string ⟨t.toArray⟩, .int .i64 k, .int .i64 0])
  | .error er => e = .returned (.tuple #[.string ⟨#[]⟩, .int .i64 0, .int .i64 er])
theorem refText_no {l : List UInt8} {w : World} {er : Int} (h : takeText l = .error er) : RefTextPost l w (.returned (.tuple #[.string ⟨#[]⟩, .int .i64 0, .int .i64 er])) w := by
  refine ⟨rfl, ?_⟩; rw [h]
theorem refText_yes {l t : List UInt8} {w : World} {k : Nat} (h : takeText l = .ok (t, k)) : RefTextPost l w (.returned (.tuple #[.string ⟨t.toArray⟩, .int .i64 k, .int .i64 0])) w := by
  refine ⟨rfl, ?_⟩; rw [h]
set_option maxRecDepth 100000 in
set_option maxHeartbeats 2000000 in
theorem refText_any (A : Option Addr) (c : Nat) (l : List UInt8) (w : World) (h : Reads w w.heap.size 1 A l.length (bv l)) (hl : l.length ≤ 1000000) (hlc : l.length ≤ c) :
    Calls Try.prog 20 #[.slice A l.length c] w (RefTextPost l w) := by
  have hn := refTake_any A c l w h (by omega)
  cases hz : takeZ 0 0 l with
  | error er =>
    have hn := hn.mono fun e w' hp => refNum_err hz hp
    have hcode := takeZ_code _ hz
    have hT : takeText l = .error er := by simp only [takeText, takeLen, hz]
    have hne : ((er : Int) != 0) = true := by rw [bne_iff_ne]; omega
    have HN := Lib.hid hn
    clear hn hcode hz
    go_enter Try.func20, Try.ntmps20
    go_wp2_with fail
    refine HN.out.mono ?_
    rintro e w' ⟨rfl, rfl⟩
    go_wp2
    go_ret3
    exact refText_no hT
  | ok r =>
    obtain ⟨z, j⟩ := r
    have hn := hn.mono fun e w' hp => refNum_ok hz hp
    have hle := takeZ_le _ hz
    have hzl := takeZ_lt l (by omega) (by simp) hz
    by_cases hodd : z % 2 = 1
    · have hT : takeText l = .error 6 := by simp only [takeText, takeLen, hz, if_pos hodd]
      have hneg : unzig z < 0 := by unfold unzig; rw [if_pos hodd]; omega
      have HN := Lib.hid hn
      clear hn hz
      generalize unzig z = u at *
      go_enter Try.func20, Try.ntmps20
      go_wp2_with fail
      refine HN.out.mono ?_
      rintro e w' ⟨rfl, rfl⟩
      go_wp2
      go_ret3
      exact refText_no hT
    · have hu : unzig z = ((z / 2 : Nat) : Int) := by unfold unzig; rw [if_neg hodd]
      have htl : takeLen l = .ok (z / 2, j) := by simp only [takeLen, hz, if_neg hodd]
      rw [hu] at hn
      have hnb : z / 2 < 9223372036854775808 := by omega
      clear hu hzl
      generalize z / 2 = n at *
      have hn0 : ¬ ((n : Int) < 0) := by omega
      have HN := Lib.hid hn
      clear hn hz
      by_cases hs : l.length - j < n
      · have hT : takeText l = .error 28 := by simp only [takeText, htl, if_pos hs]
        have hb : decide ((l.length : Int) - (j : Int) < (n : Int)) = true := by simp; omega
        go_enter Try.func20, Try.ntmps20
        go_wp2_with fail
        refine HN.out.mono ?_
        rintro e w' ⟨rfl, rfl⟩
        go_wp2
        go_ret3
        exact refText_no hT
      · have hT : takeText l = .ok ((l.drop j).take n, j + n) := by simp only [takeText, htl, if_neg hs]
        have hb : decide ((l.length : Int) - (j : Int) < (n : Int)) = false := by simp; omega
        have hnl : j + n ≤ l.length := by omega
        have hrd := reads_sub h hlc hnl
        rw [sub_length hnl] at hrd
        have hst := bytes_string (l := (l.drop j).take n) (by rw [sub_length hnl]; exact hrd) (c - j) w (fun _ _ => rfl)
        rw [sub_length hnl] at hst
        have h0 : (0 : Int) ≤ (j : Int) := by omega
        have h1 : (j : Int) ≤ (j : Int) + (n : Int) := by omega
        have h2 : (j : Int) + (n : Int) ≤ (c : Int) := by omega
        generalize (l.drop j).take n = t at *
        have HT := Lib.hid hT
        clear hT hrd htl
        by_cases hcp : c = j
        · obtain rfl : n = 0 := by omega
          subst hcp
          simp only [if_true, Nat.sub_self] at hst
          go_enter Try.func20, Try.ntmps20
          go_wp2_with fail
          refine HN.out.mono ?_
          rintro e w' ⟨rfl, rfl⟩
          go_wp2
          go_ret3
          exact refText_yes HT.out
        · rw [if_neg hcp] at hst
          have e1 : IntKind.i64.wrap ((j : Int) + (n : Int)) = (j : Int) + (n : Int) := IntWalk.i64_in _ (by omega)
          have e2 : ((j : Int) + (n : Int)).toNat = j + n := by omega
          go_enter Try.func20, Try.ntmps20
          go_wp2_with fail
          refine HN.out.mono ?_
          rintro e w' ⟨rfl, rfl⟩
          go_wp2
          go_ret3
          exact refText_yes HT.out
theorem refText_err {l : List UInt8} {w w' : World} {e : Ending} {er : Int} (hz : takeText l = .error er) (h : RefTextPost l w e w') : e = .returned (.tuple #[.string ⟨#[]⟩, .int .i64 0, .int .i64 er]) ∧ w = w' := by
  obtain ⟨h1, h2⟩ := h; rw [hz] at h2; exact ⟨h2, h1⟩
theorem refText_ok {l t : List UInt8} {w w' : World} {e : Ending} {k : Nat} (hz : takeText l = .ok (t, k)) (h : RefTextPost l w e w') : e = .returned (.tuple #[.string ⟨t.toArray⟩, .int .i64 k, .int .i64 0]) ∧ w = w' := by
  obtain ⟨h1, h2⟩ := h; rw [hz] at h2; exact ⟨h2, h1⟩
theorem takeLen_code {l : List UInt8} {e : Int} (h : takeLen l = .error e) : e = 28 ∨ e = 6 := by
  unfold takeLen at h
  split at h
  · split at h
    · simp only [Except.error.injEq] at h; omega
    · cases h
  · rename_i hz; simp only [Except.error.injEq] at h; subst h; exact takeZ_code _ hz
theorem takeText_code {l : List UInt8} {e : Int} (h : takeText l = .error e) : e = 28 ∨ e = 6 := by
  unfold takeText at h
  split at h
  · split at h
    · simp only [Except.error.injEq] at h; omega
    · cases h
  · rename_i hz; simp only [Except.error.injEq] at h; subst h; exact takeLen_code hz
/-- TakeText at b[p:] -/
theorem tailText {w w1 : World} {A : Option Addr} {c p : Nat} {l : List UInt8} (h : Reads w w.heap.size 1 A l.length (bv l)) (hb : Below w.heap.size w w1) (hl : l.length ≤ 1000000) (hlc : l.length ≤ c) (hp : p ≤ l.length) :
    Calls Try.prog 20 #[.slice (if c = p then A else A.map (·.add p)) (l.length - p) (c - p)] w1 (RefTextPost (l.drop p) w1) := by
  have h1 := reads_sub (p := p) (n := l.length - p) ((h.below hb).more hb.size) hlc (by omega)
  rw [List.take_of_length_le (by rw [List.length_drop]; exact Nat.le_refl _)] at h1
  have h2 := refText_any _ (c - p) (l.drop p) w1 h1 (by rw [List.length_drop]; omega) (by rw [List.length_drop]; omega)
  rwa [List.length_drop] at h2
def RefTextsPost (l : List UInt8) (w : World) (e : Ending) (w' : World) : Prop :=
  Below w.heap.size w w' ∧ match takeTexts l with
  | .ok (ts, k) => ∃ v, e = .returned (.tuple #[v, .int .i64 k, .int .i64 0]) ∧ w'.ownsRow w.heap.size 9 1 v ts.length (sv ts)
  | .error er => e = .returned (.tuple #[.slice none 0 0, .int .i64 0, .int .i64 er])
theorem refTexts_no {l : List UInt8} {w w' : World} {er : Int} (h : takeTexts l = .error er) (hb : Below w.heap.size w w') : RefTextsPost l w (.returned (.tuple #[.slice none 0 0, .int .i64 0, .int .i64 er])) w' := by
  refine ⟨hb, ?_⟩; rw [h]
theorem refTexts_yes {l : List UInt8} {ts : List (List UInt8)} {w w' : World} {k : Nat} {v : Value} (h : takeTexts l = .ok (ts, k)) (hb : Below w.heap.size w w') (ho : w'.ownsRow w.heap.size 9 1 v ts.length (sv ts)) :
    RefTextsPost l w (.returned (.tuple #[v, .int .i64 k, .int .i64 0])) w' := by
  refine ⟨hb, ?_⟩; rw [h]; exact ⟨v, rfl, ho⟩
def RefTextsRel (w : World) (l : List UInt8) (n : Nat) (at_ v i : Value) (wr : World) : Prop :=
  ∃ (j p : Nat) (d : List (List UInt8)), j ≤ n ∧ i = .int .i64 (j : Int) ∧ at_ = .int .i64 (p : Int) ∧ d.length = j ∧ wr.ownsRow w.heap.size 9 1 v j (sv d) ∧ p ≤ l.length ∧ Below w.heap.size w wr ∧
    Hid (takeTexts l = onto d p (takeMany (n - j) (l.drop p)))
set_option maxRecDepth 100000 in
set_option maxHeartbeats 2000000 in
theorem refTexts_any (A : Option Addr) (c : Nat) (l : List UInt8) (w : World) (h : Reads w w.heap.size 1 A l.length (bv l)) (hl : l.length ≤ 1000000) (hlc : l.length ≤ c) :
    Calls Try.prog 22 #[.slice A l.length c] w (RefTextsPost l w) := by
  obtain ⟨i0, hi0, hz0, hz1, hz2⟩ := info_parts text_info
  have hn := refTake_any A c l w h (by omega)
  cases hz : takeZ 0 0 l with
  | error er =>
    have hn := hn.mono fun e w' hp => refNum_err hz hp
    have hcode := takeZ_code _ hz
    have hT : takeTexts l = .error er := by simp only [takeTexts, takeLen, hz]
    have hne : ((er : Int) != 0) = true := by rw [bne_iff_ne]; omega
    have HN := Lib.hid hn
    clear hn hcode hz
    go_enter Try.func22, Try.ntmps22
    go_wp2_with fail
    refine HN.out.mono ?_
    rintro e w' ⟨rfl, rfl⟩
    go_wp2
    go_ret3
    exact refTexts_no hT (Below.refl _ _)
  | ok r =>
    obtain ⟨z, j⟩ := r
    have hn := hn.mono fun e w' hp => refNum_ok hz hp
    have hle := takeZ_le _ hz
    have hzl := takeZ_lt l (by omega) (by simp) hz
    by_cases hodd : z % 2 = 1
    · have hT : takeTexts l = .error 6 := by simp only [takeTexts, takeLen, hz, if_pos hodd]
      have hneg : unzig z < 0 := by unfold unzig; rw [if_pos hodd]; omega
      have HN := Lib.hid hn
      clear hn hz
      generalize unzig z = u at *
      go_enter Try.func22, Try.ntmps22
      go_wp2_with fail
      refine HN.out.mono ?_
      rintro e w' ⟨rfl, rfl⟩
      go_wp2
      go_ret3
      exact refTexts_no hT (Below.refl _ _)
    · have hu : unzig z = ((z / 2 : Nat) : Int) := by unfold unzig; rw [if_neg hodd]
      have htl : takeLen l = .ok (z / 2, j) := by simp only [takeLen, hz, if_neg hodd]
      rw [hu] at hn
      have hnb : z / 2 < 9223372036854775808 := by omega
      clear hu hzl
      generalize z / 2 = n at *
      have hn0 : ¬ ((n : Int) < 0) := by omega
      have HN := Lib.hid hn
      clear hn hz
      by_cases hs : l.length - j < n
      · have hT : takeTexts l = .error 28 := by simp only [takeTexts, htl, if_pos hs]
        have hb : decide ((l.length : Int) - (j : Int) < (n : Int)) = true := by simp; omega
        go_enter Try.func22, Try.ntmps22
        go_wp2_with fail
        refine HN.out.mono ?_
        rintro e w' ⟨rfl, rfl⟩
        go_wp2
        go_ret3
        exact refTexts_no hT (Below.refl _ _)
      · have hT : takeTexts l = onto [] j (takeMany n (l.drop j)) := by simp only [takeTexts, htl, if_neg hs]
        have hb : decide ((l.length : Int) - (j : Int) < (n : Int)) = false := by simp; omega
        have hnm : n ≤ 1000000 := by omega
        have HT := Lib.hid hT
        clear hT htl
        go_enter Try.func22, Try.ntmps22
        go_wp2_with fail
        refine HN.out.mono ?_
        rintro e w' ⟨rfl, rfl⟩
        go_wp2
        go_loopw [6, 8, 9] (fun a v i wr => RefTextsRel w l n a v i wr) (fun _ _ i _ => n - (intOf i).toNat)
        case atStart => exact ⟨0, j, [], by omega, rfl, rfl, rfl, World.ownsRow_nil _ _ _ _, by omega, Below.refl _ _, HT.out⟩
        case round =>
          obtain ⟨i, p, d, hi, rfl, rfl, hdl, hown, hpl, hbel, HR⟩ := hrel
          by_cases hjn : i < n
          · obtain ⟨q, hq⟩ : ∃ q, n - i = q + 1 := ⟨n - i - 1, by omega⟩
            have hq' : n - (i + 1) = q := by omega
            have htext := tailText h hbel hl hlc hpl
            have hin : decide ((i : Int) < (n : Int)) = true := by simp; omega
            have hp0 : (0 : Int) ≤ (p : Int) := by omega
            have hp1 : (p : Int) ≤ (l.length : Int) := by omega
            cases hz : takeText (l.drop p) with
            | error er =>
              have hcode := takeText_code hz
              have hne : ((er : Int) != 0) = true := by rw [bne_iff_ne]; omega
              have hT : takeTexts l = .error er := by rw [HR.out, hq]; exact onto_error hz
              have htext := htext.mono fun e w' hp => refText_err hz hp
              clear hcode hz hq hq'
              by_cases hcp : c = p
              · subst hcp
                rw [if_pos rfl, Nat.sub_self, show l.length - c = 0 by omega] at htext
                have HTX := Lib.hid htext
                clear htext
                go_wp2_with fail
                refine HTX.out.mono ?_
                rintro e w3 ⟨rfl, rfl⟩
                go_wp2
                go_ret3
                exact refTexts_no hT hbel
              · rw [if_neg hcp] at htext
                have HTX := Lib.hid htext
                clear htext
                go_wp2_with fail
                refine HTX.out.mono ?_
                rintro e w3 ⟨rfl, rfl⟩
                go_wp2
                go_ret3
                exact refTexts_no hT hbel
            | ok r =>
              obtain ⟨t, k2⟩ := r
              have hle2 := takeText_le hz
              rw [List.length_drop] at hle2
              have hcp : ¬ c = p := by omega
              have hT : takeTexts l = onto (d ++ [t]) (p + k2) (takeMany (n - (i + 1)) (l.drop (p + k2))) := by
                rw [HR.out, hq, hq']; exact onto_more hz
              have htext := htext.mono fun e w' hp => refText_ok hz hp
              rw [if_neg hcp] at htext
              have HTX := Lib.hid htext
              have HE := Lib.hid hT
              clear htext hT hz hq hq'
              have hsz3 := hbel.size
              go_wp2_with fail
              refine HTX.out.mono ?_
              rintro e w3 ⟨rfl, rfl⟩
              go_wp2_with (at_builtin; refine wpList_append_own _ rfl (.tmp 46) (.tmp 48) 38 rfl w.heap.size 9 i0 (.string ⟨#[]⟩) 1 16 Try.underlying38 hi0 hz0 hz1 hz2 rfl (by decide) _ _ _ rfl (hown.alloc _) ⟨wr.heap.size, 0, none⟩ 1 1 [.string ⟨t.toArray⟩] rfl rfl (cell_one_new _ _ _) (one_text _) (by unfold maxLen; omega) (by omega) (Nat.le_trans hsz3 (by simp)) ?_; intro v' w4 hown4 hg4 _)
              go_roundw
              case rel =>
                refine ⟨i + 1, p + k2, d ++ [t], by omega, by simp, by simp, by simp [hdl], ?_, by omega, ?_, HE.out⟩
                · rw [sv_append]; exact hown4
                · exact (hbel.alloc hbel.size _).grown hg4 (Nat.le_trans hbel.size (by simp)) (fun k hk => (hown.lt k hk).1)
              case measure => simp [intOf]; omega
          · have hin : decide ((i : Int) < (n : Int)) = false := by simp; omega
            obtain rfl : i = n := by omega
            have hT : takeTexts l = .ok (d, p) := by rw [HR.out, Nat.sub_self]; exact onto_done _ _ _
            go_wp2
            go_ret3
            exact refTexts_yes hT hbel (by rw [hdl]; exact hown)
end Go.Proofs.Ytoljigllnhenoaa
