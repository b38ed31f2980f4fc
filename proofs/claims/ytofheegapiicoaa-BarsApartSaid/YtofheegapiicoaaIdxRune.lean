/- strings.IndexRune(letters, c): for every rune that is a code point. -/
import Derived.Test.YtofheegapiicoaaShelf
import Derived.Test.YtofheegapiicoaaWWords
import Derived.WalkKit
import Derived.Outline
import Derived.Deep.QuietTactic
import Derived.BigQuiet
import Derived.WalkLawsBesides
set_option linter.unusedVariables false
set_option linter.unusedSimpArgs false
namespace Go.Proofs.Ytofheegapiicoaa
open Go.RowKit Go.Shelf Go.Proofs.YtofheegapiicoaaW.PrintWords

set_option maxHeartbeats 1000000 in
set_option maxRecDepth 100000 in
theorem idxRune_ascii (c : Int) (w : World) (h0 : 0 ≤ c) (h1 : c < 128) :
    Calls Try.prog 24 #[.string ⟨#[84, 65, 68, 70, 63]⟩, .int .i32 c] w fun e w' => e = .returned (.int .i64 (Lib.indexByte [84, 65, 68, 70, 63] c.toNat.toUInt8)) ∧ w' = w := by
  go_enter Try.func24, Try.ntmps24
  go_wp2_with fail
  refine (Any.strings_IndexByte lays137 _ c w).mono ?_
  rintro e w' ⟨rfl, rfl⟩
  go_wp2
  go_ret
  exact ⟨rfl, rfl⟩

set_option maxHeartbeats 1000000 in
set_option maxRecDepth 100000 in
theorem idxRune_invalid (c : Int) (w : World) (h0 : 128 ≤ c) (h2 : c ≠ 65533) (hv : Lib.validRune c = false) :
    Calls Try.prog 24 #[.string ⟨#[84, 65, 68, 70, 63]⟩, .int .i32 c] w fun e w' => e = .returned (.int .i64 (-1)) ∧ w' = w := by
  go_enter Try.func24, Try.ntmps24
  go_wp2_with fail
  refine (Any.utf8_ValidRune lays119 c w).mono ?_
  rintro e w' ⟨rfl, rfl⟩
  rw [hv]
  go_wp2
  go_ret
  exact ⟨rfl, rfl⟩

theorem encode_cases (c : Int) (h0 : 128 ≤ c) :
    (∃ a b : UInt8, Utf8.encode c = ⟨#[a, b]⟩ ∧ 128 ≤ (b.toNat : Int)) ∨ (∃ a b d : UInt8, Utf8.encode c = ⟨#[a, b, d]⟩ ∧ 128 ≤ (d.toNat : Int)) ∨ (∃ a b d e : UInt8, Utf8.encode c = ⟨#[a, b, d, e]⟩ ∧ 128 ≤ (e.toNat : Int)) := by
  have hb : ∀ n : Nat, 128 ≤ ((UInt8.ofNat (128 + n % 64)).toNat : Int) := fun n => by
    rw [UInt8.toNat_ofNat']
    omega
  have hc : 128 ≤ (if Utf8.valid c then c.toNat else Utf8.runeError) := by
    split
    · omega
    · decide
  simp only [Utf8.encode]
  generalize (if Utf8.valid c then c.toNat else Utf8.runeError) = k at hc ⊢
  rw [if_neg (by omega)]
  split
  · exact .inl ⟨_, _, rfl, hb _⟩
  · split
    · exact .inr (.inl ⟨_, _, _, rfl, hb _⟩)
    · exact .inr (.inr ⟨_, _, _, _, rfl, hb _⟩)

theorem noByte (y : UInt8) (l : List UInt8) (hy : 128 ≤ y.toNat) (hl : ∀ z ∈ l, z.toNat < 128) : Lib.indexByte l y = -1 := by
  induction l with
  | nil => rfl
  | cons z l ih =>
    have hz : (z == y) = false := by
      rw [beq_eq_false_iff_ne]
      intro h
      have := hl z (by simp)
      rw [h] at this
      omega
    simp only [Lib.indexByte, hz, ih (fun x hx => hl x (by simp [hx]))]
    rfl

set_option maxHeartbeats 1000000 in
set_option maxRecDepth 100000 in
theorem idxRune_valid (c : Int) (w : World) (h0 : 128 ≤ c) (h2 : c ≠ 65533) (hv : Lib.validRune c = true) :
    Calls Try.prog 24 #[.string ⟨#[84, 65, 68, 70, 63]⟩, .int .i32 c] w fun e w' => e = .returned (.int .i64 (-1)) ∧ Drawn0 w w' := by
  rcases encode_cases c h0 with ⟨a, b, he, hb⟩ | ⟨a, b, d, he, hb⟩ | ⟨a, b, d, e, he, hb⟩
  · have n1 : ((((⟨#[84, 65, 68, 70, 63]⟩ : ByteArray)[1]'(by decide)).toNat : Int) != (((⟨#[a, b]⟩ : ByteArray)[1]'(Nat.lt_add_one 1)).toNat : Int)) = true := by
      show ((65 : Int) != (b.toNat : Int)) = true
      simp; omega
    have n2 : decide (Lib.indexByte [68, 70, 63] ((⟨#[a, b]⟩ : ByteArray)[1]'(Nat.lt_add_one 1)) < 0) = true := by
      show decide (Lib.indexByte [68, 70, 63] b < 0) = true
      rw [noByte b _ (by omega) (by decide)]
      rfl
    go_enter Try.func24, Try.ntmps24
    go_wp2_with fail
    refine (Any.utf8_ValidRune lays119 c w).mono ?_
    rintro e_ w' ⟨rfl, rfl⟩
    rw [hv]
    go_wp2_with fail
    go_step3
    go_wp2_with fail
    refine wp_loop_rounds 1 ?_
    simp only [rounds_succ]
    go_wp2_with fail
    go_step3
    go_wp2_with fail
    go_quiet (fail)
    generalize hW1 : World.drewN _ nq = W1
    have D1 : Drawn0 w' W1 := ⟨nq, hW1.symm⟩
    clear hW1
    have wr : IntKind.i64.wrap 2 = 2 := by decide
    go_wp2_with fail
    go_quiet ((go_at_call 29; exact Calls.quiet_of_same (Any.strings_IndexByte lays137 _ _ _)))
    go_wp2_with fail
    rw [Exit.noGoto_ret]
    go_wp2_with fail
    rw [Exit.noGoto_ret]
    go_ret
    exact ⟨rfl, D1.step _⟩
  · have n1 : ((((⟨#[84, 65, 68, 70, 63]⟩ : ByteArray)[2]'(by decide)).toNat : Int) != (((⟨#[a, b, d]⟩ : ByteArray)[2]'(Nat.lt_add_one 2)).toNat : Int)) = true := by
      show ((68 : Int) != (d.toNat : Int)) = true
      simp; omega
    have n2 : decide (Lib.indexByte [70, 63] ((⟨#[a, b, d]⟩ : ByteArray)[2]'(Nat.lt_add_one 2)) < 0) = true := by
      show decide (Lib.indexByte [70, 63] d < 0) = true
      rw [noByte d _ (by omega) (by decide)]
      rfl
    go_enter Try.func24, Try.ntmps24
    go_wp2_with fail
    refine (Any.utf8_ValidRune lays119 c w).mono ?_
    rintro e_ w' ⟨rfl, rfl⟩
    rw [hv]
    go_wp2_with fail
    go_step3
    go_wp2_with fail
    refine wp_loop_rounds 1 ?_
    simp only [rounds_succ]
    go_wp2_with fail
    go_step3
    go_wp2_with fail
    go_quiet (fail)
    generalize hW1 : World.drewN _ nq = W1
    have D1 : Drawn0 w' W1 := ⟨nq, hW1.symm⟩
    clear hW1
    have wr : IntKind.i64.wrap 3 = 3 := by decide
    go_wp2_with fail
    go_quiet ((go_at_call 29; exact Calls.quiet_of_same (Any.strings_IndexByte lays137 _ _ _)))
    go_wp2_with fail
    rw [Exit.noGoto_ret]
    go_wp2_with fail
    rw [Exit.noGoto_ret]
    go_ret
    exact ⟨rfl, D1.step _⟩
  · have n1 : ((((⟨#[84, 65, 68, 70, 63]⟩ : ByteArray)[3]'(by decide)).toNat : Int) != (((⟨#[a, b, d, e]⟩ : ByteArray)[3]'(Nat.lt_add_one 3)).toNat : Int)) = true := by
      show ((70 : Int) != (e.toNat : Int)) = true
      simp; omega
    have n2 : decide (Lib.indexByte [63] ((⟨#[a, b, d, e]⟩ : ByteArray)[3]'(Nat.lt_add_one 3)) < 0) = true := by
      show decide (Lib.indexByte [63] e < 0) = true
      rw [noByte e _ (by omega) (by decide)]
      rfl
    go_enter Try.func24, Try.ntmps24
    go_wp2_with fail
    refine (Any.utf8_ValidRune lays119 c w).mono ?_
    rintro e_ w' ⟨rfl, rfl⟩
    rw [hv]
    go_wp2_with fail
    go_step3
    go_wp2_with fail
    refine wp_loop_rounds 1 ?_
    simp only [rounds_succ]
    go_wp2_with fail
    go_step3
    go_wp2_with fail
    go_quiet (fail)
    generalize hW1 : World.drewN _ nq = W1
    have D1 : Drawn0 w' W1 := ⟨nq, hW1.symm⟩
    clear hW1
    have wr : IntKind.i64.wrap 4 = 4 := by decide
    go_wp2_with fail
    go_quiet ((go_at_call 29; exact Calls.quiet_of_same (Any.strings_IndexByte lays137 _ _ _)))
    go_wp2_with fail
    rw [Exit.noGoto_ret]
    go_wp2_with fail
    rw [Exit.noGoto_ret]
    go_ret
    exact ⟨rfl, D1.step _⟩

set_option maxHeartbeats 1000000 in
set_option maxRecDepth 100000 in
theorem idxRune_error (w : World) :
    Calls Try.prog 24 #[.string ⟨#[84, 65, 68, 70, 63]⟩, .int .i32 65533] w fun e w' => e = .returned (.int .i64 (-1)) ∧ w' = w.iter ⟨#[84, 65, 68, 70, 63]⟩ 5 := by
  have n0 : ∀ ty, (Instr.next (.pointer (some ⟨w.heap.size, 0, none⟩)) true ty).run Try.prog (w.iter ⟨#[84, 65, 68, 70, 63]⟩ 0) = .ok (.tuple #[.bool true, .int .i64 0, .int .i32 84]) (w.iter ⟨#[84, 65, 68, 70, 63]⟩ 1) := fun ty => run_next_ascii w _ 0 ty (by decide) (by decide)
  have n1 : ∀ ty, (Instr.next (.pointer (some ⟨w.heap.size, 0, none⟩)) true ty).run Try.prog (w.iter ⟨#[84, 65, 68, 70, 63]⟩ 1) = .ok (.tuple #[.bool true, .int .i64 1, .int .i32 65]) (w.iter ⟨#[84, 65, 68, 70, 63]⟩ 2) := fun ty => run_next_ascii w _ 1 ty (by decide) (by decide)
  have n2 : ∀ ty, (Instr.next (.pointer (some ⟨w.heap.size, 0, none⟩)) true ty).run Try.prog (w.iter ⟨#[84, 65, 68, 70, 63]⟩ 2) = .ok (.tuple #[.bool true, .int .i64 2, .int .i32 68]) (w.iter ⟨#[84, 65, 68, 70, 63]⟩ 3) := fun ty => run_next_ascii w _ 2 ty (by decide) (by decide)
  have n3 : ∀ ty, (Instr.next (.pointer (some ⟨w.heap.size, 0, none⟩)) true ty).run Try.prog (w.iter ⟨#[84, 65, 68, 70, 63]⟩ 3) = .ok (.tuple #[.bool true, .int .i64 3, .int .i32 70]) (w.iter ⟨#[84, 65, 68, 70, 63]⟩ 4) := fun ty => run_next_ascii w _ 3 ty (by decide) (by decide)
  have n4 : ∀ ty, (Instr.next (.pointer (some ⟨w.heap.size, 0, none⟩)) true ty).run Try.prog (w.iter ⟨#[84, 65, 68, 70, 63]⟩ 4) = .ok (.tuple #[.bool true, .int .i64 4, .int .i32 63]) (w.iter ⟨#[84, 65, 68, 70, 63]⟩ 5) := fun ty => run_next_ascii w _ 4 ty (by decide) (by decide)
  have n5 : ∀ ty, (Instr.next (.pointer (some ⟨w.heap.size, 0, none⟩)) true ty).run Try.prog (w.iter ⟨#[84, 65, 68, 70, 63]⟩ 5) = .ok (.tuple #[.bool false]) (w.iter ⟨#[84, 65, 68, 70, 63]⟩ 5) := fun ty => run_next_end w _ 5 ty (by decide)
  go_enter Try.func24, Try.ntmps24
  go_wp2_with fail
  refine wp_loop_rounds 6 ?_
  iterate 6 (rw [rounds_succ]; go_wp2)
  go_ret
  exact ⟨rfl, rfl⟩
end Go.Proofs.Ytofheegapiicoaa
