/- letterbaglaw20.written: the text that is made of bytes. -/
import Derived.Test.YtofheegapiicoaaBarsB
import Derived.Laws.DeepStrings4
set_option linter.unusedVariables false
set_option linter.unusedSimpArgs false
namespace Go.Proofs.Ytofheegapiicoaa
open Go.RowKit Go.Shelf Go.Proofs.YtofheegapiicoaaW.PrintWords

def lets (l : List Int) : List UInt8 := l.map fun b => lb (b % 5)
theorem lets_append (a b : List Int) : lets (a ++ b) = lets a ++ lets b := List.map_append
theorem lets_length (a : List Int) : (lets a).length = a.length := List.length_map _
def writtenL (l : List Int) : List UInt8 := lets (l.take 190)
def writtenW (l : List Int) : ByteArray := ⟨(writtenL l).toArray⟩

theorem slice_letter (x : Int) (h0 : 0 ≤ x) (h5 : x < 5) (wx : World) :
    (Instr.slice 9 (.string ⟨#[84, 65, 68, 70, 63]⟩) (some (.int .u8 x)) (some (.int .u8 (x + 1))) none).run Try.prog wx = .ok (.string ⟨#[lb x]⟩) wx := by
  have hsz : ((⟨#[84, 65, 68, 70, 63]⟩ : ByteArray).size : Int) = 5 := rfl
  rw [run_slice_string_if (h := Try.underlying9), if_pos ⟨by omega, by omega⟩, if_pos ⟨by omega, by omega⟩]
  obtain ⟨n, rfl⟩ := Int.eq_ofNat_of_zero_le h0
  have : n < 5 := by omega
  match n, this with
  | 0, _ => rfl
  | 1, _ => rfl
  | 2, _ => rfl
  | 3, _ => rfl
  | 4, _ => rfl
theorem bytes_snoc (l : List UInt8) (b : UInt8) : (⟨l.toArray⟩ : ByteArray) ++ ⟨#[b]⟩ = ⟨(l ++ [b]).toArray⟩ := by
  apply ByteArray.ext
  simp

set_option maxHeartbeats 2000000 in
set_option maxRecDepth 100000 in
theorem written_any (A0 : Option Addr) (c0 : Nat) (l0 : List Int) (w : World) (hr0 : Kd.C (Kd.int .u8) w A0 l0.length l0) (hc0 : l0.length ≤ c0) (hpos : ∀ x ∈ l0, 0 ≤ x ∧ x < 256) :
    Calls Try.prog 11 #[.slice A0 l0.length c0] w fun e w' => e = .returned (.string (writtenW l0)) ∧ Drawn0 w w' := by
  have HR := Aside0.mk hr0
  have HP := Aside0.mk hpos
  clear hr0 hpos
  obtain ⟨m, hm⟩ : ∃ m, min l0.length 190 = m := ⟨_, rfl⟩
  have hmin : min (l0.length : Int) 190 = (m : Int) := by omega
  have hmax : max (m : Int) 0 = (m : Int) := by omega
  have hml : m ≤ l0.length := by omega
  have hm190 : m ≤ 190 := by omega
  have HW : Aside0 (writtenW l0 = ⟨(lets (l0.take m)).toArray⟩) := ⟨by
    unfold writtenW writtenL
    rw [← hm]
    rcases Nat.le_total l0.length 190 with h | h
    · rw [Nat.min_eq_left h, List.take_of_length_le h, List.take_of_length_le (Nat.le_refl _)]
    · rw [Nat.min_eq_right h]⟩
  clear hm
  go_enter Try.func11, Try.ntmps11
  go_wp2_with fail
  go_loop [3, 12] (fun o i => ∃ k : Nat, k ≤ m ∧ i = .int .i64 k ∧ o = .string ⟨(lets (l0.take k)).toArray⟩) (fun _ i => m - (intOf i).toNat)
  case atStart => exact ⟨0, Nat.zero_le _, rfl, rfl⟩
  case round =>
    obtain ⟨k, hk, rfl, rfl⟩ := hrel
    by_cases hp : k < m
    · obtain ⟨ad, rfl, hx⟩ := Kd.at_int HR.out k (by omega) (by omega)
      have hx0 := HP.out _ (rd_mem l0 k (by omega))
      have HT := Aside0.mk (take_snoc_rd l0 k (by omega))
      simp only [Int.toNat_natCast] at hx
      generalize rd l0 k = x at hx hx0 HT
      obtain ⟨hx0, hx1⟩ := hx0
      have hsl : ∀ wx : World, (Instr.slice 9 (.string ⟨#[84, 65, 68, 70, 63]⟩) (some (.int .u8 (x % 5))) (some (.int .u8 (x % 5 + 1))) none).run Try.prog wx = .ok (.string ⟨#[lb (x % 5)]⟩) wx := slice_letter (x % 5) (by omega) (by omega)
      have hn : Aside0 ((lets (l0.take k)).length ≤ 190) := ⟨by rw [lets_length, List.length_take]; omega⟩
      generalize hL : (lets (l0.take k)) = L at hn ⊢
      have HL := Aside0.mk hL
      clear hL
      have hLn : L.length ≤ 190 := hn.out
      go_wp2_with fail
      go_round
      case rel =>
        refine ⟨k + 1, by omega, by go_num, ?_⟩
        rw [HT.out, lets_append, HL.out]
        exact congrArg Value.string (bytes_snoc L (lb (x % 5)))
      case measure => simp [intOf]; omega
    · obtain rfl : k = m := by omega
      go_wp2
      go_ret
      exact ⟨by rw [HW.out]; rfl, Drawn0.refl _⟩
def letterbaglaw20_written.f (l : List Int) : Option ByteArray := if ∀ x ∈ l, 0 ≤ x ∧ x < 256 then some (writtenW l) else none
theorem letterbaglaw20_written.calls (A0 : Option Addr) (c0 : Nat) (l0 : List Int) (r : ByteArray) (w : World) (hr0 : Kd.C (Kd.int .u8) w A0 l0.length l0) (hc0 : l0.length ≤ c0) (h : letterbaglaw20_written.f l0 = some r) :
    Calls Try.prog 11 #[.slice A0 l0.length c0] w fun e w' => e = .returned (.string r) ∧ Drawn0 w w' := by
  unfold letterbaglaw20_written.f at h
  split at h
  · obtain rfl := Option.some.inj h
    exact written_any A0 c0 l0 w hr0 hc0 (by assumption)
  · cases h
end Go.Proofs.Ytofheegapiicoaa
