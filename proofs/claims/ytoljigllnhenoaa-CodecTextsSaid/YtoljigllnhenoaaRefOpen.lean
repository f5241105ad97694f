/- Open of the reference. -/
import Derived.Test.YtoljigllnhenoaaPlain3
import Derived.Test.YtoljigllnhenoaaRefTake
import Derived.Test.YtoljigllnhenoaaLaws4
import Derived.Deep.RegionWith
import Derived.Deep.RegionLaw
namespace Go.Proofs.Ytoljigllnhenoaa
open Go.RowKit
theorem four_same {X T : List UInt8} (hT : T.length = 4) : (four (crc X) == T) = decide (beN T = crc X) := by
  rw [Bool.eq_iff_iff, beq_iff_eq, decide_eq_true_iff]
  constructor
  · rintro rfl; exact beN_four (crc_lt _)
  · intro h
    refine beN_inj (by rw [hT]; rfl) ?_
    rw [beN_four (crc_lt _), h]
theorem reads_heap {w W : World} {B n : Nat} {A : Option Addr} {xs : List Value} (hW : W.heap = w.heap) (h : Reads w B 1 A n xs) : Reads W B 1 A n xs := by
  exact h.keep fun p _ => by unfold World.cell?; rw [hW]
theorem reads_tail {w : World} {B c : Nat} {A : Option Addr} {l : List UInt8} (h : Reads w B 1 A l.length (bv l)) (hc : l.length ≤ c) (h0 : 0 < l.length) :
    Reads w B 1 (if c = 1 then A else A.map (·.add 1)) (l.drop 1).length (bv (l.drop 1)) := by
  have h1 := reads_sub (p := 1) (n := l.length - 1) h hc (by omega)
  rwa [List.take_of_length_le (by rw [List.length_drop]; omega)] at h1
/-- what the reference's TakeInt gives at b[1:] -/
def TailNum (l : List UInt8) (c : Nat) (A : Option Addr) (w : World) : Prop :=
  Calls Try.prog 18 #[.slice (if c = 1 then A else A.map (·.add 1)) (l.length - 1) (c - 1)] w (RefNumPost (l.drop 1) w)
theorem tailNum {l : List UInt8} {c : Nat} {A : Option Addr} {w : World} (h : Reads w w.heap.size 1 A l.length (bv l)) (hc : l.length ≤ c) (h0 : 0 < l.length) (hl : l.length ≤ 1000000) : TailNum l c A w := by
  have := refTake_any _ (c - 1) (l.drop 1) w (reads_tail h hc h0) (by rw [List.length_drop]; omega)
  rw [List.length_drop] at this
  exact this
theorem takeZ_code (l : List UInt8) : ∀ {i z : Nat} {e : Int}, takeZ i z l = .error e → e = 28 ∨ e = 6 := by
  induction l with
  | nil => intro i z e h; simp only [takeZ, Except.error.injEq] at h; omega
  | cons c l ih =>
    intro i z e h
    rw [takeZ] at h
    split at h
    · simp only [Except.error.injEq] at h; omega
    · split at h
      · exact ih h
      · split at h
        · simp only [Except.error.injEq] at h; omega
        · cases h
theorem refNum_err {l : List UInt8} {w w' : World} {e : Ending} {er : Int} (hz : takeZ 0 0 l = .error er) (h : RefNumPost l w e w') : e = .returned (.tuple #[.int .i64 0, .int .i64 0, .int .i64 er]) ∧ w = w' := by
  obtain ⟨h1, h2⟩ := h; rw [hz] at h2; exact ⟨h2, h1⟩
theorem refNum_ok {l : List UInt8} {w w' : World} {e : Ending} {z k : Nat} (hz : takeZ 0 0 l = .ok (z, k)) (h : RefNumPost l w e w') : e = .returned (.tuple #[.int .i64 (unzig z), .int .i64 k, .int .i64 0]) ∧ w = w' := by
  obtain ⟨h1, h2⟩ := h; rw [hz] at h2; exact ⟨h2, h1⟩
theorem refOpen_none (A : Option Addr) (c : Nat) (w : World) :
    Calls Try.prog 32 #[.slice A 0 c] w fun e w' => e = .returned (.tuple #[.int .i64 0, .slice none 0 0, .int .i64 0, .int .i64 28]) ∧ Below w.heap.size w w' := by
  go_enter Try.func32, Try.ntmps32
  go_wp2
  exact bodyPost_ret (v := .tuple #[.int .i64 0, .slice none 0 0, .int .i64 0, .int .i64 28]) (by simp [results, Try.results32]) rfl ⟨rfl, Below.refl _ _⟩

theorem refOpen_num (b off : Nat) (c : Nat) (l : List UInt8) (er : Int) (w : World) (h : Reads w w.heap.size 1 (some ⟨b, off, none⟩) l.length (bv l)) (h0 : 0 < l.length) (hl : l.length ≤ 1000000) (hlc : l.length ≤ c) (hz : takeZ 0 0 (l.drop 1) = .error er) :
    Calls Try.prog 32 #[.slice (some ⟨b, off, none⟩) l.length c] w fun e w' => e = .returned (.tuple #[.int .i64 0, .slice none 0 0, .int .i64 0, .int .i64 er]) ∧ Below w.heap.size w w' := by
  have hn := (tailNum h hlc h0 hl).mono fun e w' hp => refNum_err hz hp
  have hcode := takeZ_code _ hz
  have hl0 : ((l.length : Int) == 0) = false := by rw [beq_eq_false_iff_ne]; omega
  have hl1 : (1 : Int) ≤ (l.length : Int) := by omega
  have hlN : 1 ≤ l.length := h0
  have hne : ((er : Int) != 0) = true := by rw [bne_iff_ne]; omega
  clear hz hcode
  by_cases hc1 : c = 1
  · obtain rfl : c = 1 := hc1
    have hl11 : l.length - 1 = 0 := by omega
    rw [hl11] at hn
    clear hl11
    rw [if_pos rfl, Nat.sub_self] at hn
    have HN := Lib.hid hn
    clear hn
    go_enter Try.func32, Try.ntmps32
    go_wp2_with fail
    refine HN.out.mono ?_
    rintro e w' ⟨rfl, rfl⟩
    go_wp2
    exact bodyPost_ret (v := .tuple #[.int .i64 0, .slice none 0 0, .int .i64 0, .int .i64 er]) (by simp [results, Try.results32]) rfl ⟨rfl, Below.refl _ _⟩
  · rw [if_neg hc1, Option.map_some, addr_add] at hn
    have HN := Lib.hid hn
    clear hn
    go_enter Try.func32, Try.ntmps32
    go_wp2_with fail
    refine HN.out.mono ?_
    rintro e w' ⟨rfl, rfl⟩
    go_wp2
    exact bodyPost_ret (v := .tuple #[.int .i64 0, .slice none 0 0, .int .i64 0, .int .i64 er]) (by simp [results, Try.results32]) rfl ⟨rfl, Below.refl _ _⟩

/-- the reference has read the number z in j bytes behind the first one -/
theorem refOpen_neg (b off : Nat) (c : Nat) (l : List UInt8) (z j : Nat) (w : World) (h : Reads w w.heap.size 1 (some ⟨b, off, none⟩) l.length (bv l)) (h0 : 0 < l.length) (hl : l.length ≤ 1000000) (hlc : l.length ≤ c) (hz : takeZ 0 0 (l.drop 1) = .ok (z, j)) (hodd : z % 2 = 1) :
    Calls Try.prog 32 #[.slice (some ⟨b, off, none⟩) l.length c] w fun e w' => e = .returned (.tuple #[.int .i64 0, .slice none 0 0, .int .i64 0, .int .i64 6]) ∧ Below w.heap.size w w' := by
  have hn := (tailNum h hlc h0 hl).mono fun e w' hp => refNum_ok hz hp
  have hle := takeZ_le _ hz
  rw [List.length_drop] at hle
  have hl0 : ((l.length : Int) == 0) = false := by rw [beq_eq_false_iff_ne]; omega
  have hl1 : (1 : Int) ≤ (l.length : Int) := by omega
  have hneg : unzig z < 0 := by unfold unzig; rw [if_pos hodd]; omega
  have hc1 : ¬ c = 1 := by omega
  rw [if_neg hc1, Option.map_some, addr_add] at hn
  generalize unzig z = u at *
  have HN := Lib.hid hn
  clear hn hz
  go_enter Try.func32, Try.ntmps32
  go_wp2_with fail
  refine HN.out.mono ?_
  rintro e w' ⟨rfl, rfl⟩
  go_wp2
  exact bodyPost_ret (v := .tuple #[.int .i64 0, .slice none 0 0, .int .i64 0, .int .i64 6]) (by simp [results, Try.results32]) rfl ⟨rfl, Below.refl _ _⟩

theorem refOpen_short (b off : Nat) (c : Nat) (l : List UInt8) (z j n : Nat) (w : World) (h : Reads w w.heap.size 1 (some ⟨b, off, none⟩) l.length (bv l)) (h0 : 0 < l.length) (hl : l.length ≤ 1000000) (hlc : l.length ≤ c) (hz : takeZ 0 0 (l.drop 1) = .ok (z, j)) (hu : unzig z = (n : Int)) (hnb : n < 9223372036854775808) (hs : l.length < 1 + j + n + 4) :
    Calls Try.prog 32 #[.slice (some ⟨b, off, none⟩) l.length c] w fun e w' => e = .returned (.tuple #[.int .i64 0, .slice none 0 0, .int .i64 0, .int .i64 28]) ∧ Below w.heap.size w w' := by
  have hn := (tailNum h hlc h0 hl).mono fun e w' hp => refNum_ok hz hp
  have hle := takeZ_le _ hz
  rw [List.length_drop] at hle
  have hl0 : ((l.length : Int) == 0) = false := by rw [beq_eq_false_iff_ne]; omega
  have hl1 : (1 : Int) ≤ (l.length : Int) := by omega
  have hc1 : ¬ c = 1 := by omega
  rw [if_neg hc1, Option.map_some, addr_add, hu] at hn
  have hn0 : ¬ ((n : Int) < 0) := by omega
  have HN := Lib.hid hn
  clear hn hz hu
  by_cases h4 : (l.length : Int) - (1 + (j : Int)) < 4
  · have h4b : decide ((l.length : Int) - (1 + (j : Int)) < 4) = true := by simp; omega
    go_enter Try.func32, Try.ntmps32
    go_wp2_with fail
    refine HN.out.mono ?_
    rintro e w' ⟨rfl, rfl⟩
    go_wp2
    exact bodyPost_ret (v := .tuple #[.int .i64 0, .slice none 0 0, .int .i64 0, .int .i64 28]) (by simp [results, Try.results32]) rfl ⟨rfl, Below.refl _ _⟩
  · have h4b : decide ((l.length : Int) - (1 + (j : Int)) < 4) = false := by simp; omega
    have h5b : decide ((l.length : Int) - (1 + (j : Int)) - 4 < (n : Int)) = true := by simp; omega
    go_enter Try.func32, Try.ntmps32
    go_wp2_with fail
    refine HN.out.mono ?_
    rintro e w' ⟨rfl, rfl⟩
    go_wp2
    exact bodyPost_ret (v := .tuple #[.int .i64 0, .slice none 0 0, .int .i64 0, .int .i64 28]) (by simp [results, Try.results32]) rfl ⟨rfl, Below.refl _ _⟩

def RefOpenPost (w : World) (l : List UInt8) (p n k : Nat) (e : Ending) (w' : World) : Prop :=
  Below w.heap.size w w' ∧
  if beN ((l.drop (p + n)).take 4) = crc (l.take (p + n)) then
    ∃ v, e = .returned (.tuple #[.int .i64 k, v, .int .i64 ((p + n + 4 : Nat) : Int), .int .i64 0]) ∧ w'.ownsRow w.heap.size 5 1 v ((l.drop p).take n).length (bv ((l.drop p).take n))
  else e = .returned (.tuple #[.int .i64 0, .slice none 0 0, .int .i64 0, .int .i64 29])

end Go.Proofs.Ytoljigllnhenoaa
