/- BarM: of the parts Shelf, IdxRune, BarsA, BarsB, BarsC, BarsD, BarsF; each part tells what it proves. -/
import Derived.Shelf.Lay
import Derived.Shelf.Strings.Builder1
import Derived.Shelf.Strings.BuilderF
import Derived.Shelf.Strings.BuilderK
import Derived.Shelf.Small.Utf8
import Derived.Shelf.Small.Strs
import Derived.Shelf.Strings.Search1
import Derived.Test.YtajccgmeminlhaaGreatDoorProg
import Derived.Test.YtajccgmeminlhaaGreatDoorWWords
import Derived.WalkKit
import Derived.Outline
import Derived.Deep.QuietTactic
import Derived.BigQuiet
import Derived.WalkLawsBesides
import Derived.Lib.OthersKept
import Derived.BigCall
import Derived.Laws.BitsLemmas
import Derived.Laws.DeepStrings4
import Derived.WalkSmall
import Derived.RangeFuncNested
import Derived.RangeFuncBound
import Derived.RangeFuncCalls
import Derived.RangeFuncLeaves
import Derived.Shelf.Abstract
import Derived.Shelf.RegionOpen
import Derived.OwnWalkIn
import Derived.TacticsInMore
import Derived.LoopNIn
import Derived.LoopIn
section
/- The shelf's contracts that our proofs use, laid at this translation: builders that the call itself has made, IndexByte, ValidRune. -/
namespace Go.Proofs.YtajccgmeminlhaaGreatDoor.Br
open Go.Shelf Go.RowKit
def lays240_ren : Go.Shelf.Ren := ⟨fun | 240 => 96 | 276 => 125 | n => n, fun | 0 => 0 | 4 => 4 | 9 => 9 | 20 => 20 | 70 => 118 | 72 => 120 | 164 => 190 | 37 => 48 | n => n, fun | n => n⟩
theorem lays240 : Go.Proofs.Lays.n240 Tryz.prog lays240_ren := {
  mixed := by kernel_rfl
  f240 := Tryz.func96.trans (congrArg some (by kernel_rfl))
  f276 := Tryz.func125.trans (congrArg some (by kernel_rfl))
  t0 := Tryz.underlying0
  a0 := Tryz.isAgg0
  z0 := Tryz.sizeOf0
  v0 := Tryz.zeroValue0
  t4 := Tryz.underlying4
  a4 := Tryz.isAgg4
  z4 := Tryz.sizeOf4
  v4 := Tryz.zeroValue4
  t9 := Tryz.underlying9
  a9 := Tryz.isAgg9
  z9 := Tryz.sizeOf9
  v9 := Tryz.zeroValue9
  t20 := Tryz.underlying20
  a20 := Tryz.isAgg20
  z20 := Tryz.sizeOf20
  v20 := Tryz.zeroValue20
  t70 := Tryz.underlying118
  a70 := Tryz.isAgg118
  z70 := Tryz.sizeOf118
  v70 := Tryz.zeroValue118
  t72 := Tryz.underlying120
  a72 := Tryz.isAgg120
  z72 := Tryz.sizeOf120
  v72 := Tryz.zeroValue120
  t164 := Tryz.underlying190
  a164 := Tryz.isAgg190
  z164 := Tryz.sizeOf190
  v164 := Tryz.zeroValue190 }
def lays167_ren : Go.Shelf.Ren := ⟨fun | 167 => 63 | 240 => 96 | 276 => 125 | n => n, fun | 0 => 0 | 4 => 4 | 5 => 5 | 9 => 9 | 20 => 20 | 37 => 48 | 70 => 118 | 72 => 120 | 75 => 123 | 164 => 190 | 80 => 127 | n => n, fun | n => n⟩
theorem lays167 : Go.Proofs.Lays.n167 Tryz.prog lays167_ren := {
  mixed := by kernel_rfl
  f167 := Tryz.func63.trans (congrArg some (by kernel_rfl))
  f240 := Tryz.func96.trans (congrArg some (by kernel_rfl))
  f276 := Tryz.func125.trans (congrArg some (by kernel_rfl))
  t0 := Tryz.underlying0
  a0 := Tryz.isAgg0
  z0 := Tryz.sizeOf0
  v0 := Tryz.zeroValue0
  t4 := Tryz.underlying4
  a4 := Tryz.isAgg4
  z4 := Tryz.sizeOf4
  v4 := Tryz.zeroValue4
  t5 := Tryz.underlying5
  a5 := Tryz.isAgg5
  z5 := Tryz.sizeOf5
  v5 := Tryz.zeroValue5
  t9 := Tryz.underlying9
  a9 := Tryz.isAgg9
  z9 := Tryz.sizeOf9
  v9 := Tryz.zeroValue9
  t20 := Tryz.underlying20
  a20 := Tryz.isAgg20
  z20 := Tryz.sizeOf20
  v20 := Tryz.zeroValue20
  t37 := Tryz.underlying48
  a37 := Tryz.isAgg48
  z37 := Tryz.sizeOf48
  v37 := Tryz.zeroValue48
  t70 := Tryz.underlying118
  a70 := Tryz.isAgg118
  z70 := Tryz.sizeOf118
  v70 := Tryz.zeroValue118
  t72 := Tryz.underlying120
  a72 := Tryz.isAgg120
  z72 := Tryz.sizeOf120
  v72 := Tryz.zeroValue120
  t75 := Tryz.underlying123
  a75 := Tryz.isAgg123
  z75 := Tryz.sizeOf123
  v75 := Tryz.zeroValue123
  t164 := Tryz.underlying190
  a164 := Tryz.isAgg190
  z164 := Tryz.sizeOf190
  v164 := Tryz.zeroValue190 }
theorem extra167 : Builder.Extra Tryz.prog lays167_ren := {
  sizeBuilder := by kernel_rfl
  liesBuilder := by kernel_rfl
  t5 := Tryz.underlying5
  a5 := Tryz.isAgg5
  z5 := Tryz.sizeOf5
  v5 := Tryz.zeroValue5
  infoByte := by kernel_rfl
  cellsByte := by kernel_rfl
  sizeByte := by kernel_rfl
  neB5 := by decide }
def lays169_ren : Go.Shelf.Ren := ⟨fun | 169 => 58 | n => n, fun | 0 => 0 | 3 => 3 | 9 => 9 | 37 => 48 | 70 => 118 | 72 => 120 | 127 => 170 | 5 => 5 | n => n, fun | n => n⟩
theorem lays169 : Go.Proofs.Lays.n169 Tryz.prog lays169_ren := {
  mixed := by kernel_rfl
  f169 := Tryz.func58.trans (congrArg some (by kernel_rfl))
  t0 := Tryz.underlying0
  a0 := Tryz.isAgg0
  z0 := Tryz.sizeOf0
  v0 := Tryz.zeroValue0
  t3 := Tryz.underlying3
  a3 := Tryz.isAgg3
  z3 := Tryz.sizeOf3
  v3 := Tryz.zeroValue3
  t9 := Tryz.underlying9
  a9 := Tryz.isAgg9
  z9 := Tryz.sizeOf9
  v9 := Tryz.zeroValue9
  t37 := Tryz.underlying48
  a37 := Tryz.isAgg48
  z37 := Tryz.sizeOf48
  v37 := Tryz.zeroValue48
  t70 := Tryz.underlying118
  a70 := Tryz.isAgg118
  z70 := Tryz.sizeOf118
  v70 := Tryz.zeroValue118
  t72 := Tryz.underlying120
  a72 := Tryz.isAgg120
  z72 := Tryz.sizeOf120
  v72 := Tryz.zeroValue120
  t127 := Tryz.underlying170
  a127 := Tryz.isAgg170
  z127 := Tryz.sizeOf170
  v127 := Tryz.zeroValue170 }
theorem extra169 : Builder.Extra Tryz.prog lays169_ren := {
  sizeBuilder := by kernel_rfl
  liesBuilder := by kernel_rfl
  t5 := Tryz.underlying5
  a5 := Tryz.isAgg5
  z5 := Tryz.sizeOf5
  v5 := Tryz.zeroValue5
  infoByte := by kernel_rfl
  cellsByte := by kernel_rfl
  sizeByte := by kernel_rfl
  neB5 := by decide }
def lays119_ren : Go.Shelf.Ren := ⟨fun | 119 => 136 | n => n, fun | 4 => 4 | 21 => 21 | n => n, fun | n => n⟩
theorem lays119 : Go.Proofs.Lays.n119 Tryz.prog lays119_ren := {
  mixed := by kernel_rfl
  f119 := Tryz.func136.trans (congrArg some (by kernel_rfl))
  t4 := Tryz.underlying4
  a4 := Tryz.isAgg4
  z4 := Tryz.sizeOf4
  v4 := Tryz.zeroValue4
  t21 := Tryz.underlying21
  a21 := Tryz.isAgg21
  z21 := Tryz.sizeOf21
  v21 := Tryz.zeroValue21 }
def lays137_ren : Go.Shelf.Ren := ⟨fun | 137 => 61 | 217 => 98 | 266 => 127 | n => n, fun | 3 => 3 | 5 => 5 | 9 => 9 | n => n, fun | n => n⟩
theorem lays137 : Go.Proofs.Lays.n137 Tryz.prog lays137_ren := {
  mixed := by kernel_rfl
  f137 := Tryz.func61.trans (congrArg some (by kernel_rfl))
  f217 := Tryz.func98.trans (congrArg some (by kernel_rfl))
  f266 := Tryz.func127.trans (congrArg some (by kernel_rfl))
  t3 := Tryz.underlying3
  a3 := Tryz.isAgg3
  z3 := Tryz.sizeOf3
  v3 := Tryz.zeroValue3
  t5 := Tryz.underlying5
  a5 := Tryz.isAgg5
  z5 := Tryz.sizeOf5
  v5 := Tryz.zeroValue5
  t9 := Tryz.underlying9
  a9 := Tryz.isAgg9
  z9 := Tryz.sizeOf9
  v9 := Tryz.zeroValue9 }
theorem bWriteByte (B b : Nat) (bs : List Value) (c : Int) (w : World) (h : Lib.IsBuilder 120 5 B b bs w) (hlen : bs.length + 1 ≤ 140737488355328) (hBw : B ≤ w.heap.size) :
    Calls Tryz.prog 63 #[.pointer (some ⟨b, 0, none⟩), .int .u8 c] w fun e w' => e = .returned .nilIface ∧ (Lib.BuilderAt 120 5 B b (.pointer (some ⟨b, 0, none⟩)) (bs ++ [.int .u8 c]) w' ∧ Below B w w') := Any.Builder_WriteByte lays167 extra167 B b bs c w h hlen hBw
theorem bWriteByteK (B b : Nat) (bs : List Value) (c : Int) (w : World) (h : Lib.IsBuilderF 120 5 B b bs w) (hlen : bs.length + 1 ≤ 140737488355328) (hBw : B ≤ w.heap.size) :
    Calls Tryz.prog 63 #[.pointer (some ⟨b, 0, none⟩), .int .u8 c] w fun e w' => e = .returned .nilIface ∧ Lib.BuilderAtF 120 5 B b (.pointer (some ⟨b, 0, none⟩)) (bs ++ [.int .u8 c]) w' ∧ Below B w w' ∧ Lib.OthersKept 5 (some b) w w' := Any.Builder_WriteByte_k lays167 extra167 B b bs c w h hlen hBw
theorem bString (B b : Nat) (l : List UInt8) (w : World) (h : Lib.IsBuilder 120 5 B b (Lib.byteCells l) w) (hBw : B ≤ w.heap.size) :
    Calls Tryz.prog 58 #[.pointer (some ⟨b, 0, none⟩)] w fun e w' => e = .returned (.string ⟨l.toArray⟩) ∧ Below B w w' := Any.Builder_String_any lays169 extra169 B b l w h hBw
theorem bStringK (B b : Nat) (l : List UInt8) (w : World) (h : Lib.IsBuilderF 120 5 B b (Lib.byteCells l) w) (hBw : B ≤ w.heap.size) :
    Calls Tryz.prog 58 #[.pointer (some ⟨b, 0, none⟩)] w fun e w' => e = .returned (.string ⟨l.toArray⟩) ∧ Lib.IsBuilderF 120 5 B b (Lib.byteCells l) w' ∧ Below B w w' ∧ Lib.OthersKept 5 (some b) w w' := Any.Builder_String_any_k lays169 extra169 B b l w h hBw
theorem sIndexByte (s : ByteArray) (c : Int) (w : World) :
    Calls Tryz.prog 61 #[.string s, .int .u8 c] w fun e w' => e = .returned (.int .i64 (Lib.indexByte s.data.toList c.toNat.toUInt8)) ∧ w' = w := Any.strings_IndexByte lays137 s c w
end Go.Proofs.YtajccgmeminlhaaGreatDoor.Br
end
section
/- strings.IndexRune(letters, c): for every rune that is a code point. -/
set_option linter.unusedVariables false
set_option linter.unusedSimpArgs false
namespace Go.Proofs.YtajccgmeminlhaaGreatDoor.Br
open Go.RowKit Go.Shelf Go.Proofs.YtajccgmeminlhaaGreatDoorW.PrintWords

set_option maxHeartbeats 1000000 in
set_option maxRecDepth 100000 in
theorem idxRune_ascii (c : Int) (w : World) (h0 : 0 ≤ c) (h1 : c < 128) :
    Calls Tryz.prog 115 #[.string ⟨#[84, 65, 68, 70, 63]⟩, .int .i32 c] w fun e w' => e = .returned (.int .i64 (Lib.indexByte [84, 65, 68, 70, 63] c.toNat.toUInt8)) ∧ w' = w := by
  go_enter Tryz.func115, Tryz.ntmps115
  go_wp2_with fail
  refine (Any.strings_IndexByte lays137 _ c w).mono ?_
  rintro e w' ⟨rfl, rfl⟩
  go_wp2
  go_ret
  exact ⟨rfl, rfl⟩

set_option maxHeartbeats 1000000 in
set_option maxRecDepth 100000 in
theorem idxRune_invalid (c : Int) (w : World) (h0 : 128 ≤ c) (h2 : c ≠ 65533) (hv : Lib.validRune c = false) :
    Calls Tryz.prog 115 #[.string ⟨#[84, 65, 68, 70, 63]⟩, .int .i32 c] w fun e w' => e = .returned (.int .i64 (-1)) ∧ w' = w := by
  go_enter Tryz.func115, Tryz.ntmps115
  go_wp2_with fail
  refine (Any.utf8_ValidRune lays119 c w).mono ?_
  rintro e w' ⟨rfl, rfl⟩
  rw [hv]
  go_wp2
  go_ret
  exact ⟨rfl, rfl⟩

theorem encode_cases (c : Int) (h0 : 128 ≤ c) :
    (∃ a b : UInt8, Utf8.encode c = ⟨#[a, b]⟩ ∧ 128 ≤ (b.toNat : Int)) ∨ (∃ a b d : UInt8, Utf8.encode c = ⟨#[a, b, d]⟩ ∧ 128 ≤ (d.toNat : Int)) ∨ (∃ a b d e : UInt8, Utf8.encode c = ⟨#[a, b, d, e]⟩ ∧ 128 ≤ (e.toNat : Int)) := by
  have hb : ∀ n : Nat, 128 ≤ ((UInt8.ofNat (128 + n % 64)).toNat : Int) := fun n => by
    rw [UInt8.toNat_ofNat']
    omega
  have hc : 128 ≤ (if Utf8.valid c then c.toNat else Utf8.runeError) := by
    split
    · omega
    · decide
  simp only [Utf8.encode]
  generalize (if Utf8.valid c then c.toNat else Utf8.runeError) = k at hc ⊢
  rw [if_neg (by omega)]
  split
  · exact .inl ⟨_, _, rfl, hb _⟩
  · split
    · exact .inr (.inl ⟨_, _, _, rfl, hb _⟩)
    · exact .inr (.inr ⟨_, _, _, _, rfl, hb _⟩)

theorem noByte (y : UInt8) (l : List UInt8) (hy : 128 ≤ y.toNat) (hl : ∀ z ∈ l, z.toNat < 128) : Lib.indexByte l y = -1 := by
  induction l with
  | nil => rfl
  | cons z l ih =>
    have hz : (z == y) = false := by
      rw [beq_eq_false_iff_ne]
      intro h
      have := hl z (by simp)
      rw [h] at this
      omega
    simp only [Lib.indexByte, hz, ih (fun x hx => hl x (by simp [hx]))]
    rfl

set_option maxHeartbeats 1000000 in
set_option maxRecDepth 100000 in
theorem idxRune_valid (c : Int) (w : World) (h0 : 128 ≤ c) (h2 : c ≠ 65533) (hv : Lib.validRune c = true) :
    Calls Tryz.prog 115 #[.string ⟨#[84, 65, 68, 70, 63]⟩, .int .i32 c] w fun e w' => e = .returned (.int .i64 (-1)) ∧ Drawn0 w w' := by
  rcases encode_cases c h0 with ⟨a, b, he, hb⟩ | ⟨a, b, d, he, hb⟩ | ⟨a, b, d, e, he, hb⟩
  · have n1 : ((((⟨#[84, 65, 68, 70, 63]⟩ : ByteArray)[1]'(by decide)).toNat : Int) != (((⟨#[a, b]⟩ : ByteArray)[1]'(Nat.lt_add_one 1)).toNat : Int)) = true := by
      show ((65 : Int) != (b.toNat : Int)) = true
      simp; omega
    have n2 : decide (Lib.indexByte [68, 70, 63] ((⟨#[a, b]⟩ : ByteArray)[1]'(Nat.lt_add_one 1)) < 0) = true := by
      show decide (Lib.indexByte [68, 70, 63] b < 0) = true
      rw [noByte b _ (by omega) (by decide)]
      rfl
    go_enter Tryz.func115, Tryz.ntmps115
    go_wp2_with fail
    refine (Any.utf8_ValidRune lays119 c w).mono ?_
    rintro e_ w' ⟨rfl, rfl⟩
    rw [hv]
    go_wp2_with fail
    go_step3
    go_wp2_with fail
    refine wp_loop_rounds 1 ?_
    simp only [rounds_succ]
    go_wp2_with fail
    go_step3
    go_wp2_with fail
    go_quiet (fail)
    generalize hW1 : World.drewN _ nq = W1
    have D1 : Drawn0 w' W1 := ⟨nq, hW1.symm⟩
    clear hW1
    have wr : IntKind.i64.wrap 2 = 2 := by decide
    go_wp2_with fail
    go_quiet ((go_at_call 61; exact Calls.quiet_of_same (Any.strings_IndexByte lays137 _ _ _)))
    go_wp2_with fail
    rw [Exit.noGoto_ret]
    go_wp2_with fail
    rw [Exit.noGoto_ret]
    go_ret
    exact ⟨rfl, D1.step _⟩
  · have n1 : ((((⟨#[84, 65, 68, 70, 63]⟩ : ByteArray)[2]'(by decide)).toNat : Int) != (((⟨#[a, b, d]⟩ : ByteArray)[2]'(Nat.lt_add_one 2)).toNat : Int)) = true := by
      show ((68 : Int) != (d.toNat : Int)) = true
      simp; omega
    have n2 : decide (Lib.indexByte [70, 63] ((⟨#[a, b, d]⟩ : ByteArray)[2]'(Nat.lt_add_one 2)) < 0) = true := by
      show decide (Lib.indexByte [70, 63] d < 0) = true
      rw [noByte d _ (by omega) (by decide)]
      rfl
    go_enter Tryz.func115, Tryz.ntmps115
    go_wp2_with fail
    refine (Any.utf8_ValidRune lays119 c w).mono ?_
    rintro e_ w' ⟨rfl, rfl⟩
    rw [hv]
    go_wp2_with fail
    go_step3
    go_wp2_with fail
    refine wp_loop_rounds 1 ?_
    simp only [rounds_succ]
    go_wp2_with fail
    go_step3
    go_wp2_with fail
    go_quiet (fail)
    generalize hW1 : World.drewN _ nq = W1
    have D1 : Drawn0 w' W1 := ⟨nq, hW1.symm⟩
    clear hW1
    have wr : IntKind.i64.wrap 3 = 3 := by decide
    go_wp2_with fail
    go_quiet ((go_at_call 61; exact Calls.quiet_of_same (Any.strings_IndexByte lays137 _ _ _)))
    go_wp2_with fail
    rw [Exit.noGoto_ret]
    go_wp2_with fail
    rw [Exit.noGoto_ret]
    go_ret
    exact ⟨rfl, D1.step _⟩
  · have n1 : ((((⟨#[84, 65, 68, 70, 63]⟩ : ByteArray)[3]'(by decide)).toNat : Int) != (((⟨#[a, b, d, e]⟩ : ByteArray)[3]'(Nat.lt_add_one 3)).toNat : Int)) = true := by
      show ((70 : Int) != (e.toNat : Int)) = true
      simp; omega
    have n2 : decide (Lib.indexByte [63] ((⟨#[a, b, d, e]⟩ : ByteArray)[3]'(Nat.lt_add_one 3)) < 0) = true := by
      show decide (Lib.indexByte [63] e < 0) = true
      rw [noByte e _ (by omega) (by decide)]
      rfl
    go_enter Tryz.func115, Tryz.ntmps115
    go_wp2_with fail
    refine (Any.utf8_ValidRune lays119 c w).mono ?_
    rintro e_ w' ⟨rfl, rfl⟩
    rw [hv]
    go_wp2_with fail
    go_step3
    go_wp2_with fail
    refine wp_loop_rounds 1 ?_
    simp only [rounds_succ]
    go_wp2_with fail
    go_step3
    go_wp2_with fail
    go_quiet (fail)
    generalize hW1 : World.drewN _ nq = W1
    have D1 : Drawn0 w' W1 := ⟨nq, hW1.symm⟩
    clear hW1
    have wr : IntKind.i64.wrap 4 = 4 := by decide
    go_wp2_with fail
    go_quiet ((go_at_call 61; exact Calls.quiet_of_same (Any.strings_IndexByte lays137 _ _ _)))
    go_wp2_with fail
    rw [Exit.noGoto_ret]
    go_wp2_with fail
    rw [Exit.noGoto_ret]
    go_ret
    exact ⟨rfl, D1.step _⟩

set_option maxHeartbeats 1000000 in
set_option maxRecDepth 100000 in
theorem idxRune_error (w : World) :
    Calls Tryz.prog 115 #[.string ⟨#[84, 65, 68, 70, 63]⟩, .int .i32 65533] w fun e w' => e = .returned (.int .i64 (-1)) ∧ w' = w.iter ⟨#[84, 65, 68, 70, 63]⟩ 5 := by
  have n0 : ∀ ty, (Instr.next (.pointer (some ⟨w.heap.size, 0, none⟩)) true ty).run Tryz.prog (w.iter ⟨#[84, 65, 68, 70, 63]⟩ 0) = .ok (.tuple #[.bool true, .int .i64 0, .int .i32 84]) (w.iter ⟨#[84, 65, 68, 70, 63]⟩ 1) := fun ty => run_next_ascii w _ 0 ty (by decide) (by decide)
  have n1 : ∀ ty, (Instr.next (.pointer (some ⟨w.heap.size, 0, none⟩)) true ty).run Tryz.prog (w.iter ⟨#[84, 65, 68, 70, 63]⟩ 1) = .ok (.tuple #[.bool true, .int .i64 1, .int .i32 65]) (w.iter ⟨#[84, 65, 68, 70, 63]⟩ 2) := fun ty => run_next_ascii w _ 1 ty (by decide) (by decide)
  have n2 : ∀ ty, (Instr.next (.pointer (some ⟨w.heap.size, 0, none⟩)) true ty).run Tryz.prog (w.iter ⟨#[84, 65, 68, 70, 63]⟩ 2) = .ok (.tuple #[.bool true, .int .i64 2, .int .i32 68]) (w.iter ⟨#[84, 65, 68, 70, 63]⟩ 3) := fun ty => run_next_ascii w _ 2 ty (by decide) (by decide)
  have n3 : ∀ ty, (Instr.next (.pointer (some ⟨w.heap.size, 0, none⟩)) true ty).run Tryz.prog (w.iter ⟨#[84, 65, 68, 70, 63]⟩ 3) = .ok (.tuple #[.bool true, .int .i64 3, .int .i32 70]) (w.iter ⟨#[84, 65, 68, 70, 63]⟩ 4) := fun ty => run_next_ascii w _ 3 ty (by decide) (by decide)
  have n4 : ∀ ty, (Instr.next (.pointer (some ⟨w.heap.size, 0, none⟩)) true ty).run Tryz.prog (w.iter ⟨#[84, 65, 68, 70, 63]⟩ 4) = .ok (.tuple #[.bool true, .int .i64 4, .int .i32 63]) (w.iter ⟨#[84, 65, 68, 70, 63]⟩ 5) := fun ty => run_next_ascii w _ 4 ty (by decide) (by decide)
  have n5 : ∀ ty, (Instr.next (.pointer (some ⟨w.heap.size, 0, none⟩)) true ty).run Tryz.prog (w.iter ⟨#[84, 65, 68, 70, 63]⟩ 5) = .ok (.tuple #[.bool false]) (w.iter ⟨#[84, 65, 68, 70, 63]⟩ 5) := fun ty => run_next_end w _ 5 ty (by decide)
  go_enter Tryz.func115, Tryz.ntmps115
  go_wp2_with fail
  refine wp_loop_rounds 6 ?_
  iterate 6 (rw [rounds_succ]; go_wp2)
  go_ret
  exact ⟨rfl, rfl⟩
end Go.Proofs.YtajccgmeminlhaaGreatDoor.Br
end
section
/- bars.state and bars.check: what they return at every rune and every text. -/
set_option linter.unusedVariables false
set_option linter.unusedSimpArgs false
namespace Go.Proofs.YtajccgmeminlhaaGreatDoor.Br
open Go.RowKit Go.Shelf Go.Proofs.YtajccgmeminlhaaGreatDoorW.PrintWords

/-- The number of a letter, -1 of what is none. -/
def st (c : Int) : Int := if c = 84 then 0 else if c = 65 then 1 else if c = 68 then 2 else if c = 70 then 3 else if c = 63 then 4 else -1
theorem st_ascii : ∀ n : Fin 128, Lib.indexByte [84, 65, 68, 70, 63] (n.val.toUInt8) = st n.val := by decide
theorem st_high (c : Int) (h : 128 ≤ c) : st c = -1 := by
  unfold st
  rw [if_neg (by omega), if_neg (by omega), if_neg (by omega), if_neg (by omega), if_neg (by omega)]
theorem st_range (c : Int) : -1 ≤ st c ∧ st c ≤ 4 := by
  unfold st
  repeat' split
  all_goals omega
theorem st_lt (c : Int) (h : 0 ≤ st c) : 0 ≤ c ∧ c < 128 := by
  unfold st at h
  repeat' split at h
  all_goals omega

set_option maxHeartbeats 1000000 in
set_option maxRecDepth 100000 in
theorem state_any (c : Int) (w : World) (h0 : 0 ≤ c) :
    Calls Tryz.prog 78 #[.int .i32 c] w fun e w' => e = .returned (.int .i64 (st c)) ∧ Below w.heap.size w w' := by
  by_cases h1 : c < 128
  · have hs : Lib.indexByte [84, 65, 68, 70, 63] c.toNat.toUInt8 = st c := by
      have := st_ascii ⟨c.toNat, by omega⟩
      simp only at this
      rw [this, Int.toNat_of_nonneg h0]
    go_enter Tryz.func78, Tryz.ntmps78
    go_wp2_with fail
    refine (idxRune_ascii c w h0 h1).mono ?_
    rintro e w' ⟨rfl, rfl⟩
    go_wp2
    go_ret
    exact ⟨rfl, Below.refl _ _⟩
  · have h2 : 128 ≤ c := by omega
    have hs := st_high c h2
    rw [hs]
    clear hs h1
    by_cases h3 : c = 65533
    · subst h3
      go_enter Tryz.func78, Tryz.ntmps78
      go_wp2_with fail
      refine (idxRune_error w).mono ?_
      rintro e w' ⟨rfl, rfl⟩
      go_wp2
      go_ret
      exact ⟨rfl, (Below.refl _ _).alloc (Nat.le_refl _) _⟩
    · by_cases h4 : Lib.validRune c = true
      · go_enter Tryz.func78, Tryz.ntmps78
        go_wp2_with fail
        refine (idxRune_valid c w h2 h3 h4).mono ?_
        rintro e w' ⟨rfl, hd⟩
        have hb := hd.below
        clear hd
        go_wp2
        go_ret
        exact ⟨rfl, hb⟩
      · have h5 : Lib.validRune c = false := by simpa using h4
        go_enter Tryz.func78, Tryz.ntmps78
        go_wp2_with fail
        refine (idxRune_invalid c w h2 h3 h5).mono ?_
        rintro e w' ⟨rfl, rfl⟩
        go_wp2
        go_ret
        exact ⟨rfl, Below.refl _ _⟩

def bars_state.f (c : Int) : Option Int := if 0 ≤ c then some (st c) else none
theorem bars_state.calls (a0 : Int) (r : Int) (w : World) (h : bars_state.f a0 = some r) :
    Calls Tryz.prog 78 #[.int .i32 a0] w fun e w' => e = .returned (.int .i64 r) ∧ Below w.heap.size w w' := by
  unfold bars_state.f at h
  split at h
  · obtain rfl := Option.some.inj h
    exact state_any a0 w (by assumption)
  · cases h

/-- Whether all bytes from a place on are letters. -/
def lettersAll (s : ByteArray) : Bool := s.data.toList.all fun b => decide (0 ≤ st b.toNat)
theorem lettersAll_at {s : ByteArray} (h : lettersAll s = true) (k : Nat) (hk : k < s.size) : 0 ≤ st (s[k]'hk).toNat := by
  unfold lettersAll at h
  rw [List.all_eq_true] at h
  have := h (s[k]'hk) (by
    show s.data[k] ∈ s.data.toList
    simp)
  simpa using this
theorem lettersAll_of {s : ByteArray} (h : ∀ k, (hk : k < s.size) → 0 ≤ st (s[k]'hk).toNat) : lettersAll s = true := by
  unfold lettersAll
  rw [List.all_eq_true]
  intro b hb
  obtain ⟨k, hk, rfl⟩ := List.getElem_of_mem hb
  have := h k (by simpa using hk)
  exact decide_eq_true this
theorem lettersAll_not {s : ByteArray} (k : Nat) (hk : k < s.size) (h : st (s[k]'hk).toNat < 0) : lettersAll s = false := by
  rw [← Bool.not_eq_true]
  intro h1
  have := lettersAll_at h1 k hk
  omega

def checkW (s : ByteArray) (more : Int) : Int := if (s.size : Int) + more > 200 then 3 else if lettersAll s = true then 0 else 2

set_option maxHeartbeats 2000000 in
set_option maxRecDepth 100000 in
theorem check_any (s : ByteArray) (more : Int) (w : World) (hs : s.size ≤ 140737488351232) (h0 : 0 ≤ more) (h1 : more ≤ 1000) :
    Calls Tryz.prog 51 #[.string s, .int .i64 more] w fun e w' => e = .returned (.int .i64 (checkW s more)) ∧ Below w.heap.size w w' := by
  by_cases hl : 200 < (s.size : Int) + more
  · have hc : checkW s more = 3 := by unfold checkW; rw [if_pos hl]
    rw [hc]
    clear hc
    go_enter Tryz.func51, Tryz.ntmps51
    go_wp2
    go_ret
    exact ⟨rfl, Below.refl _ _⟩
  · have hl' : (s.size : Int) + more ≤ 200 := by omega
    have hc : Aside0 (checkW s more = if lettersAll s = true then 0 else 2) := ⟨by unfold checkW; rw [if_neg hl]⟩
    clear hl
    go_enter Tryz.func51, Tryz.ntmps51
    go_wp2
    go_loopw [14, 15, 6, 17, 18, 19] (fun _ _ _ _ _ _ wr => ∃ k : Nat, k ≤ s.size ∧ (∀ i, (hi : i < s.size) → i < k → 0 ≤ st (s[i]'hi).toNat) ∧ wr.heap[w.heap.size]? = some (.stringIter s k) ∧ Below w.heap.size w wr) (fun _ _ _ _ _ _ wr => s.size - wr.iterPos w.heap.size)
    case atStart => exact ⟨0, Nat.zero_le _, by intro i _ h; omega, World.iter_heap w s 0, (Below.refl _ w).alloc (Nat.le_refl _) _⟩
    case round =>
      obtain ⟨k, hk, hall, hit, hb⟩ := hrel
      have hsz : w.heap.size < wr.heap.size := (Array.getElem?_eq_some_iff.1 hit).1
      by_cases hp : k < s.size
      · have hnx : ∀ ty, (Instr.next (.pointer (some ⟨w.heap.size, 0, none⟩)) true ty).run Tryz.prog wr = _ := fun ty => Lib.run_next_any_at wr w.heap.size s k ty hit hp
        have hit2 := Aside0.mk (Lib.iterAt_heap wr w.heap.size s k (k + (Utf8.decode s k).2) hit)
        have hb2 := Aside0.mk (Lib.below_iterAt hb (k := w.heap.size) (Nat.le_refl _) s (k + (Utf8.decode s k).2))
        have HA := Aside0.mk hall
        have HI := Aside0.mk hit
        clear hall hit hb
        go_wp2_with (go_at_call 78; refine (state_any _ _ (by omega)).mono ?_; rintro e w1 ⟨rfl, hb3⟩; replace hb3 := Aside0.mk hb3)
        · have hneg : st ↑(Utf8.decode s k).fst < 0 := by assumption
          have H2 : Aside0 (checkW s more = 2) := ⟨by
            rw [hc.out, if_neg]
            rw [Bool.not_eq_true]
            refine lettersAll_not k hp ?_
            by_cases ha : (s[k]'hp).toNat < 128
            · rw [decode_ascii s k hp ha] at hneg
              exact hneg
            · rw [st_high _ (by omega)]
              decide⟩
          go_ret
          exact ⟨by rw [H2.out]; rfl, hb2.out.trans (hb3.out.mono (by rw [Lib.iterAt_size]; omega))⟩
        · have hpos : 0 ≤ st ↑(Utf8.decode s k).fst := by assumption
          have ha : (s[k]'hp).toNat < 128 := by
            rcases Nat.lt_or_ge (s[k]'hp).toNat 128 with h | h
            · exact h
            · have := (decode_high s k hp h).1
              have := (st_lt _ hpos).2
              omega
          have hd := decode_ascii s k hp ha
          rw [hd] at hpos hit2 hb3
          have hi3 : w1.heap[w.heap.size]? = some (.stringIter s (k + 1)) := (hb3.out.block _ (by rw [Lib.iterAt_size]; omega)).trans hit2.out
          go_roundw
          case rel =>
            refine ⟨k + 1, by omega, ?_, hi3, ?_⟩
            · intro i hi hik
              rcases Nat.lt_or_ge i k with h | h
              · exact HA.out i hi h
              · obtain rfl : i = k := by omega
                exact hpos
            · rw [hd] at hb2
              exact hb2.out.trans (hb3.out.mono (by rw [Lib.iterAt_size]; omega))
          case measure =>
            simp only [World.iterPos, hi3, HI.out]
            omega
      · have hnx : ∀ ty, (Instr.next (.pointer (some ⟨w.heap.size, 0, none⟩)) true ty).run Tryz.prog wr = _ := fun ty => Lib.run_next_end_at wr w.heap.size s k ty hit hp
        have H0 : Aside0 (checkW s more = 0) := ⟨by rw [hc.out, if_pos (lettersAll_of fun i hi => hall i hi (by omega))]⟩
        go_wp2
        go_ret
        exact ⟨by rw [H0.out]; rfl, hb⟩
end Go.Proofs.YtajccgmeminlhaaGreatDoor.Br
end
section
/- bars.Write: the letters of symbols. -/
set_option linter.unusedVariables false
set_option linter.unusedSimpArgs false
namespace Go.Proofs.YtajccgmeminlhaaGreatDoor.Br
open Go.RowKit Go.Shelf Go.Proofs.YtajccgmeminlhaaGreatDoorW.PrintWords

/-- The letter of a number. -/
def lb (i : Int) : UInt8 := [84, 65, 68, 70, 63].getD i.toNat 0
/-- The letters of symbols. -/
def writeText : List Int → List UInt8
  | [] => []
  | n :: l => lb (n / 16) :: lb (n / 4 % 4) :: lb (n % 4) :: writeText l
theorem writeText_append (a b : List Int) : writeText (a ++ b) = writeText a ++ writeText b := by
  induction a with
  | nil => rfl
  | cons x a ih => simp [writeText, ih]
theorem writeText_length (a : List Int) : (writeText a).length = 3 * a.length := by
  induction a with
  | nil => rfl
  | cons x a ih => simp [writeText, ih]; omega
theorem u8_and3 (x : Int) (h₀ : 0 ≤ x) (h₁ : x < 256) : bits .and .u8 x 3 = x % 4 := bits_mask .u8 8 (by decide) wraps_u8 2 (by decide) x h₀ h₁
theorem lb_at (i : Int) (h0 : 0 ≤ i) (h1 : i < 5) (h : i.toNat < (⟨#[84, 65, 68, 70, 63]⟩ : ByteArray).size) : (((⟨#[84, 65, 68, 70, 63]⟩ : ByteArray)[i.toNat]'h).toNat : Int) = ((lb i).toNat : Int) := by
  obtain ⟨n, rfl⟩ := Int.eq_ofNat_of_zero_le h0
  have : n < 5 := by omega
  match n, this with
  | 0, _ => rfl
  | 1, _ => rfl
  | 2, _ => rfl
  | 3, _ => rfl
  | 4, _ => rfl
theorem take_snoc_rd (l : List Int) (k : Nat) (h : k < l.length) : l.take (k + 1) = l.take k ++ [rd l k] := by
  rw [List.take_succ_eq_append_getElem h]
  simp [rd, List.getD_eq_getElem?_getD, List.getElem?_eq_getElem h]

/-- Whether all symbols fit. -/
def symsOK (l : List Int) : Bool := l.all fun x => decide (x ≤ 63)
theorem rd_mem (l : List Int) (k : Nat) (h : k < l.length) : rd l k ∈ l := by
  have : rd l k = l[k] := by simp [rd, List.getD_eq_getElem?_getD, List.getElem?_eq_getElem h]
  rw [this]
  exact List.getElem_mem h

def writeW (l : List Int) : ByteArray × Int := if l.length > 66 then (⟨#[]⟩, 3) else if symsOK l = true then (⟨(writeText l).toArray⟩, 0) else (⟨#[]⟩, 2)

set_option maxHeartbeats 2000000 in
set_option maxRecDepth 100000 in
theorem write_any (A0 : Option Addr) (c0 : Nat) (l0 : List Int) (w : World) (hr0 : Kd.C (Kd.int .u8) w A0 l0.length l0) (hc0 : l0.length ≤ c0) (hpos : ∀ x ∈ l0, 0 ≤ x) :
    Calls Tryz.prog 41 #[.slice A0 l0.length c0] w fun e w' => e = .returned (.tuple #[.string (writeW l0).1, .int .i64 (writeW l0).2]) ∧ Below w.heap.size w w' := by
  have HR := Aside0.mk hr0
  have HP := Aside0.mk hpos
  clear hr0 hpos
  by_cases hl : 66 < (l0.length : Int)
  · have hw : writeW l0 = (⟨#[]⟩, 3) := by unfold writeW; rw [if_pos (by omega)]
    rw [hw]
    clear hw
    go_enter Tryz.func41, Tryz.ntmps41
    go_wp2
    go_ret2
    exact ⟨rfl, by first | exact Below.refl _ _ | exact (Below.refl _ _).alloc (Nat.le_refl _) _⟩
  · have HW := Aside0.mk (show writeW l0 = if symsOK l0 = true then (⟨(writeText l0).toArray⟩, 0) else (⟨#[]⟩, 2) by unfold writeW; rw [if_neg (by omega)])
    go_enter Tryz.func41, Tryz.ntmps41
    go_wp2
    go_loopw [12] (fun i wr => ∃ k : Nat, i = .int .i64 k ∧ k ≤ l0.length ∧ (∀ x ∈ l0.take k, x ≤ 63) ∧ Lib.IsBuilder 120 5 w.heap.size w.heap.size (Lib.byteCells (writeText (l0.take k))) wr ∧ Below w.heap.size w wr) (fun i _ => l0.length - (intOf i).toNat)
    case atStart => exact ⟨0, rfl, Nat.zero_le _, by simp, Lib.fresh_isBuilder _ _ w, (Below.refl _ _).alloc (Nat.le_refl _) _⟩
    case round =>
      obtain ⟨k, rfl, hk, hall, hI, hb⟩ := hrel
      have HA := Aside0.mk hall
      have HI := Aside0.mk hI
      have HB := Aside0.mk hb
      have HS := Aside0.mk hb.size
      clear hall hI hb
      by_cases hp : k < l0.length
      · obtain ⟨ad, rfl, hx⟩ := Kd.at_int HR.out k (by omega) (by omega)
        have hx2 := pw_cell_below HB.out hx
        clear hx
        have hx0 : 0 ≤ rd l0 k := HP.out _ (rd_mem l0 k hp)
        have HT := Aside0.mk (take_snoc_rd l0 k hp)
        have HM := Aside0.mk (rd_mem l0 k hp)
        simp only [Int.toNat_natCast] at hx2
        generalize rd l0 k = x at hx2 hx0 HT HM
        by_cases h63 : 63 < x
        · have hw : Aside0 (writeW l0 = (⟨#[]⟩, 2)) := ⟨by
            rw [HW.out, if_neg]
            intro h
            unfold symsOK at h
            rw [List.all_eq_true] at h
            have := h x HM.out
            simp at this
            omega⟩
          go_wp2
          go_ret2
          exact ⟨by rw [hw.out]; rfl, HB.out⟩
        · have hs1 : 0 ≤ x / 16 := by omega
          have hs2 : x / 16 < 5 := by omega
          have hs3 : 0 ≤ x / 4 := by omega
          have hs4 : x / 4 < 256 := by omega
          have ha1 : bits .and .u8 (x / 4) 3 = x / 4 % 4 := u8_and3 _ (by omega) (by omega)
          have ha2 : bits .and .u8 x 3 = x % 4 := u8_and3 _ (by omega) (by omega)
          have HL : Aside0 ((Lib.byteCells (writeText (l0.take k))).length ≤ 300) := ⟨by rw [Lib.byteCells_length, writeText_length, List.length_take]; omega⟩
          go_wp2_with fail
          rw [lb_at (x / 16) hs1 hs2]
          refine (bWriteByte w.heap.size w.heap.size _ _ _ HI.out (by have := HL.out; omega) HS.out).mono ?_
          rintro e w1 ⟨rfl, hI1, hb1⟩
          replace hI1 := Aside0.mk hI1
          replace hb1 := Aside0.mk hb1
          go_wp2_with fail
          rw [lb_at (x / 4 % 4) (by omega) (by omega)]
          refine (bWriteByte w.heap.size w.heap.size _ _ _ (.inr hI1.out) (by have := HL.out; simp only [List.length_append, List.length_cons, List.length_nil]; omega) (Nat.le_trans HS.out hb1.out.size)).mono ?_
          rintro e w2 ⟨rfl, hI2, hb2⟩
          replace hI2 := Aside0.mk hI2
          replace hb2 := Aside0.mk hb2
          go_wp2_with fail
          rw [lb_at (x % 4) (by omega) (by omega)]
          refine (bWriteByte w.heap.size w.heap.size _ _ _ (.inr hI2.out) (by have := HL.out; simp only [List.length_append, List.length_cons, List.length_nil]; omega) (Nat.le_trans HS.out (Nat.le_trans hb1.out.size hb2.out.size))).mono ?_
          rintro e w3 ⟨rfl, hI3, hb3⟩
          replace hI3 := Aside0.mk hI3
          replace hb3 := Aside0.mk hb3
          go_wp2_with fail
          go_roundw
          case rel =>
            refine ⟨k + 1, by go_num, by omega, ?_, ?_, (HB.out.trans hb1.out).trans (hb2.out.trans hb3.out)⟩
            · rw [HT.out]
              intro y hy
              rcases List.mem_append.1 hy with h | h
              · exact HA.out y h
              · obtain rfl := List.mem_singleton.1 h
                omega
            · rw [HT.out, writeText_append, Lib.byteCells_append]
              have := hI3.out
              refine .inr ?_
              simpa [writeText, Lib.byteCells] using this
          case measure => simp [intOf]; omega
      · obtain rfl : k = l0.length := by omega
        have HA2 := Aside0.mk (show symsOK l0 = true from by
          unfold symsOK
          rw [List.all_eq_true]
          intro y hy
          have := HA.out y (by simpa using hy)
          simpa using this)
        have HW2 := Aside0.mk (show writeW l0 = (⟨(writeText l0).toArray⟩, 0) by rw [HW.out, if_pos HA2.out])
        go_wp2_with fail
        refine (bString w.heap.size w.heap.size _ _ (by have := HI.out; rw [List.take_length] at this; exact this) HS.out).mono ?_
        rintro e w1 ⟨rfl, hb1⟩
        replace hb1 := Aside0.mk hb1
        go_wp2
        go_ret2
        exact ⟨by rw [HW2.out]; rfl, HB.out.trans hb1.out⟩
end Go.Proofs.YtajccgmeminlhaaGreatDoor.Br
end
section
/- bars.Read: the symbols of a text, and those that are not clear. -/
set_option linter.unusedVariables false
set_option linter.unusedSimpArgs false
namespace Go.Proofs.YtajccgmeminlhaaGreatDoor.Br
open Go.RowKit Go.Shelf Go.Proofs.YtajccgmeminlhaaGreatDoorW.PrintWords

theorem slice_mid (s : ByteArray) (a b : Nat) (h1 : a ≤ b) (h2 : b ≤ s.size) (wx : World) :
    (Instr.slice 9 (.string s) (some (.int .i64 (a : Int))) (some (.int .i64 (b : Int))) none).run Tryz.prog wx = .ok (.string (s.extract a b)) wx := by
  rw [run_slice_string_if (h := Tryz.underlying9), if_pos ⟨by omega, by omega⟩, if_pos ⟨by omega, by omega⟩]
  simp

theorem info_int : (Tryz.prog.info? 3).map (fun i => (i.zero, i.size, i.bytes)) = some (some (.int .i64 0), 1, 8) := by kernel_rfl
theorem info_u8 : (Tryz.prog.info? 5).map (fun i => (i.zero, i.size, i.bytes)) = some (some (.int .u8 0), 1, 1) := by kernel_rfl

/-- The number of the letter at a place. -/
def gl (s : ByteArray) (i : Nat) : Int := st (s.data.toList.getD i 0).toNat
theorem gl_at (s : ByteArray) (i : Nat) (h : i < s.size) : gl s i = st (s[i]'h).toNat := by
  have hl : i < s.data.toList.length := by simpa using h
  unfold gl
  rw [List.getD_eq_getElem?_getD, List.getElem?_eq_getElem hl]
  rfl
theorem check_zero {s : ByteArray} (h : checkW s 0 = 0) : s.size ≤ 200 ∧ lettersAll s = true := by
  unfold checkW at h
  split at h
  · omega
  · split at h
    · exact ⟨by omega, by assumption⟩
    · omega
def symOf (a b c : Int) : Int := if a = 4 ∨ b = 4 ∨ c = 4 then 0 else 16 * a + 4 * b + c
def unclear (g : Nat → Int) (j : Nat) : Bool := decide (g (3 * j) = 4 ∨ g (3 * j + 1) = 4 ∨ g (3 * j + 2) = 4)
def symsOf (g : Nat → Int) (k : Nat) : List Int := (List.range k).map fun j => symOf (g (3 * j)) (g (3 * j + 1)) (g (3 * j + 2))
def erasedOf (g : Nat → Int) (k : Nat) : List Int := ((List.range k).filter (unclear g)).map fun (j : Nat) => (j : Int)
theorem symsOf_succ (g : Nat → Int) (k : Nat) : symsOf g (k + 1) = symsOf g k ++ [symOf (g (3 * k)) (g (3 * k + 1)) (g (3 * k + 2))] := by
  simp [symsOf, List.range_succ]
theorem erasedOf_yes (g : Nat → Int) (k : Nat) (h : unclear g k = true) : erasedOf g (k + 1) = erasedOf g k ++ [(k : Int)] := by
  simp [erasedOf, List.range_succ, List.filter_append, List.filter_cons, h]
theorem erasedOf_no (g : Nat → Int) (k : Nat) (h : unclear g k = false) : erasedOf g (k + 1) = erasedOf g k := by
  simp [erasedOf, List.range_succ, List.filter_append, List.filter_cons, h]
theorem erasedOf_le (g : Nat → Int) (k : Nat) : (erasedOf g k).length ≤ k := by
  have := List.length_filter_le (unclear g) (List.range k)
  simpa [erasedOf] using this
theorem symsOf_length (g : Nat → Int) (k : Nat) : (symsOf g k).length = k := by simp [symsOf]

/-- What is read of some letters, one behind the other. -/
def valOf (g : Nat → Int) : Nat → Int
  | 0 => 0
  | j + 1 => valOf g j * 4 + g j % 4
def clrOf (g : Nat → Int) : Nat → Bool
  | 0 => true
  | j + 1 => clrOf g j && (g j != 4)
theorem valOf_lt (g : Nat → Int) : ∀ j, j ≤ 3 → 0 ≤ valOf g j ∧ valOf g j < 4 ^ j := by
  intro j
  induction j with
  | zero => intro _; simp [valOf]
  | succ j ih =>
    intro h
    have := ih (by omega)
    simp only [valOf, Int.pow_succ]
    omega
theorem u8_step (n s : Int) (h0 : 0 ≤ n) (h1 : n < 64) (h2 : 0 ≤ s) (h3 : s < 256) : bits .or .u8 ((n * 4) % 256) (bits .and .u8 s 3) = n * 4 + s % 4 := by
  rw [u8_and3 s h2 h3, Int.emod_eq_of_lt (by omega) (by omega)]
  have h4 : ∀ (a : Fin 64) (b : Fin 4), bits .or .u8 ((a.val : Int) * 4) (b.val : Int) = (a.val : Int) * 4 + (b.val : Int) := by decide +kernel
  obtain ⟨a, rfl⟩ := Int.eq_ofNat_of_zero_le h0
  obtain ⟨b, hb⟩ := Int.eq_ofNat_of_zero_le (show 0 ≤ s % 4 by omega)
  have := h4 ⟨a, by omega⟩ ⟨b, by omega⟩
  rw [hb]
  exact this

def readW (s : ByteArray) : List Int × List Int × Int :=
  if checkW s 0 = 0 then (if s.size % 3 = 0 then (symsOf (gl s) (s.size / 3), erasedOf (gl s) (s.size / 3), 0) else ([], [], 2)) else ([], [], checkW s 0)

set_option maxHeartbeats 4000000 in
set_option maxRecDepth 100000 in
theorem read_any (s : ByteArray) (w : World) (hs : s.size ≤ 140737488351232) :
    Calls Tryz.prog 44 #[.string s] w fun e w' => ∃ v0_ v1_ : Value, e = .returned (.tuple #[v0_, v1_, .int .i64 (readW s).2.2]) ∧ Kd.R (Kd.int .u8) 5 w' w.heap.size (fun _ => True) v0_ (readW s).1 ∧ Kd.R (Kd.int .i64) 3 w' w.heap.size (fun _ => True) v1_ (readW s).2.1 ∧ Below w.heap.size w w' := by
  have HS := Aside0.mk hs
  by_cases hc : checkW s 0 = 0
  · by_cases h3 : s.size % 3 = 0
    · have HW := Aside0.mk (show readW s = (symsOf (gl s) (s.size / 3), erasedOf (gl s) (s.size / 3), 0) by unfold readW; rw [if_pos hc, if_pos h3])
      rw [HW.out]
      have hcb : (checkW s 0 != 0) = false := by simpa using hc
      have h3b : ((s.size : Int) % 3 != 0) = false := by simp; omega
      have HC := Aside0.mk hc
      have H3 := Aside0.mk h3
      clear hc h3
      go_enter Tryz.func44, Tryz.ntmps44
      go_wp2_with fail
      refine (check_any s 0 w hs (by omega) (by omega)).mono ?_
      rintro e w1 ⟨rfl, hb1⟩
      have HB1 := Aside0.mk hb1
      clear hb1
      go_wp2_with fail
      go_loopw [6, 7, 8] (fun o er i wr => ∃ k m : Nat, Aside0 (m = 3 * k) ∧ i = .int .i64 m ∧ m ≤ s.size ∧ wr.ownsRow w.heap.size 5 1 o (symsOf (gl s) k).length (nums .u8 (symsOf (gl s) k)) ∧ wr.ownsRow w.heap.size 3 1 er (erasedOf (gl s) k).length (nums .i64 (erasedOf (gl s) k)) ∧ Below w.heap.size w wr) (fun _ _ i _ => s.size - (intOf i).toNat)
      case atStart => exact ⟨0, 0, ⟨rfl⟩, rfl, Nat.zero_le _, World.ownsRow_nil _ _ _ _, World.ownsRow_nil _ _ _ _, HB1.out⟩
      case round =>
        obtain ⟨k, m, hm, rfl, hk, ho, he, hb⟩ := hrel
        have HO := Aside0.mk ho
        have HE := Aside0.mk he
        have HB := Aside0.mk hb
        clear ho he hb HB1
        by_cases hp : m < s.size
        · have hk3 : m + 3 ≤ s.size := by have := H3.out; have := hm.out; omega
          have hsl : ∀ wx : World, (Instr.slice 9 (.string s) (some (.int .i64 (m : Int))) (some (.int .i64 ((m : Int) + 3))) none).run Tryz.prog wx = .ok (.string (s.extract m (m + 3))) wx := fun wx => slice_mid s m (m + 3) (by omega) hk3 wx
          have HSUB := Aside0.mk (show (s.extract m (m + 3)).size = 3 by simp; omega)
          have HG := Aside0.mk (show ∀ j, (hj : j < (s.extract m (m + 3)).size) → ((s.extract m (m + 3))[j]'hj).toNat < 128 ∧ st ((s.extract m (m + 3))[j]'hj).toNat = gl s (m + j) ∧ 0 ≤ gl s (m + j) by
            intro j hj
            have hj3 : m + j < s.size := by have := HSUB.out; omega
            have hl := lettersAll_at (check_zero HC.out).2 (m + j) hj3
            rw [ByteArray.getElem_extract, gl_at s (m + j) hj3]
            have := st_lt _ hl
            exact ⟨by omega, rfl, hl⟩)
          have hgl := Aside0.mk (show ∀ i, gl s i ≤ 4 from fun i => (st_range _).2)
          go_wp2_with fail
          obtain ⟨wo, rfl⟩ : ∃ wo, wo = wr := ⟨_, rfl⟩
          generalize s.extract m (m + 3) = sub at HSUB HG hsl ⊢
          have HSZ := Aside0.mk HB.out.size
          obtain ⟨W0, hW0⟩ : ∃ W0, wo.iter sub 0 = W0 := ⟨_, rfl⟩
          have HI0 := Aside0.mk (show W0.heap[wo.heap.size]? = some (.stringIter sub 0) by rw [← hW0]; exact World.iter_heap wo sub 0)
          have HB0 := Aside0.mk (show Below wo.heap.size wo W0 by rw [← hW0]; exact (Below.refl _ _).alloc (Nat.le_refl _) _)
          rw [hW0]
          clear hW0
          go_loopw [9, 10] (fun n c wr => ∃ j : Nat, j ≤ 3 ∧ n = .int .u8 (valOf (fun i => gl s (m + i)) j) ∧ c = .bool (clrOf (fun i => gl s (m + i)) j) ∧ wr.heap[wo.heap.size]? = some (.stringIter sub j) ∧ Below wo.heap.size wo wr) (fun _ _ wr => 3 - wr.iterPos wo.heap.size)
          case atStart => exact ⟨0, by omega, rfl, rfl, HI0.out, HB0.out⟩
          case round =>
            obtain ⟨j, hj, rfl, rfl, hit, hbq⟩ := hrel
            have HIT := Aside0.mk hit
            have HBQ := Aside0.mk hbq
            have hqs : wo.heap.size < wr.heap.size := (Array.getElem?_eq_some_iff.1 hit).1
            clear hit hbq
            by_cases hj3 : j < 3
            · have hj' : j < sub.size := by rw [HSUB.out]; exact hj3
              obtain ⟨hasc, hst, hnn⟩ := HG.out j hj'
              have hnx : ∀ ty, (Instr.next (.pointer (some ⟨wo.heap.size, 0, none⟩)) true ty).run Tryz.prog wr = _ := fun ty => Lib.run_next_ascii_at wr wo.heap.size sub j ty HIT.out hj' hasc
              have hit2 := Aside0.mk (Lib.iterAt_heap wr wo.heap.size sub j (j + 1) HIT.out)
              have hb2 := Aside0.mk (Lib.below_iterAt HBQ.out (k := wo.heap.size) (Nat.le_refl _) sub (j + 1))
              have hv := valOf_lt (fun i => gl s (m + i)) j hj
              have HST := Aside0.mk hst
              have hle := hgl.out (m + j)
              clear hst
              go_wp2_with fail
              refine (state_any _ _ (by omega)).mono ?_
              rintro e w2 ⟨rfl, hb3⟩
              have HB3 := Aside0.mk hb3
              clear hb3
              rw [HST.out]
              have hi3 : Aside0 (w2.heap[wo.heap.size]? = some (.stringIter sub (j + 1))) := ⟨(HB3.out.block _ (by rw [Lib.iterAt_size]; omega)).trans hit2.out⟩
              have HBN := Aside0.mk (hb2.out.trans (HB3.out.mono (by rw [Lib.iterAt_size]; omega)))
              have e1 : Aside0 (bits .or .u8 (valOf (fun i => gl s (m + i)) j * 4 % 256) (bits .and .u8 (gl s (m + j)) 3) = valOf (fun i => gl s (m + i)) (j + 1)) := ⟨by
                simp only [valOf]
                refine u8_step _ _ hv.1 ?_ hnn (by omega)
                have : (4 : Int) ^ j ≤ 16 := by
                  match j, hj3 with
                  | 0, _ => decide
                  | 1, _ => decide
                  | 2, _ => decide
                omega⟩
              go_wp2_with fail
              all_goals
                go_roundw
                case rel =>
                  refine ⟨j + 1, by omega, by rw [e1.out], ?_, hi3.out, HBN.out⟩
                  congr 1
                  simp_all [clrOf]
                case measure =>
                  simp only [World.iterPos, hi3.out, HIT.out]
                  omega
            · obtain rfl : j = 3 := by omega
              have hnx : ∀ ty, (Instr.next (.pointer (some ⟨wo.heap.size, 0, none⟩)) true ty).run Tryz.prog wr = _ := fun ty => Lib.run_next_end_at wr wo.heap.size sub 3 ty HIT.out (by rw [HSUB.out]; omega)
              have HO2 := Aside0.mk (pw_own_below HO.out HBQ.out)
              have HE2 := Aside0.mk (pw_own_below HE.out HBQ.out)
              have HB2 := Aside0.mk (HB.out.trans (HBQ.out.mono HSZ.out))
              have HS2 := Aside0.mk HB2.out.size
              have hcl : Aside0 (clrOf (fun i => gl s (m + i)) 3 = !unclear (gl s) k) := ⟨by
                rw [Bool.eq_iff_iff]
                simp only [clrOf, unclear, hm.out]
                simp [and_assoc]⟩
              have hkk := (check_zero HC.out).1
              have HLE := Aside0.mk (show ((erasedOf (gl s) k).length + 1) * 8 ≤ 140737488355328 by have := erasedOf_le (gl s) k; have := hm.out; omega)
              have HLO := Aside0.mk (show ((symsOf (gl s) k).length + 1) * 1 ≤ 140737488355328 by have := symsOf_length (gl s) k; have := hm.out; omega)
              by_cases hun : unclear (gl s) k = true
              · have hcl2 : clrOf (fun i => gl s (m + i)) 3 = false := by rw [hcl.out, hun]; rfl
                rw [hcl2]
                have hsy : Aside0 (symsOf (gl s) (k + 1) = symsOf (gl s) k ++ [0]) := ⟨by
                  rw [symsOf_succ]
                  congr 2
                  unfold unclear at hun
                  exact if_pos (by simpa using hun)⟩
                go_wp2_with (first | (at_builtin; refine print_append_num (w0 := w) w.heap.size rfl _ _ 29 3 .i64 8 rfl Tryz.underlying29 info_int (by decide) u7 (erasedOf (gl s) k) _ rfl rfl HE2.out HB2.out HS2.out HLE.out ?_; intro v1 w3 hown hB3 hg hat; have HO3 := Aside0.mk (own_other HO2.out hg (own_type_ne HO2.out HE2.out (by decide))); have HE3 := Aside0.mk hown; have HB3 := Aside0.mk hB3; have HS3 := Aside0.mk hB3.size; clear hown hB3 hg hat) | (at_builtin; refine print_append_num (w0 := w) w.heap.size rfl _ _ 48 5 .u8 1 rfl Tryz.underlying48 info_u8 (by decide) u6 (symsOf (gl s) k) _ rfl rfl HO3.out HB3.out HS3.out HLO.out ?_; intro v2 w4 hown4 hB4 hg4 hat4; have HO4 := Aside0.mk hown4; have HB4 := Aside0.mk hB4; have HG4 := Aside0.mk hg4; clear hown4 hB4 hg4 hat4))
                go_roundw
                case rel =>
                  have hm3 : m = 3 * k := hm.out
                  refine ⟨k + 1, m + 3, ⟨by omega⟩, by go_num, hk3, ?_, ?_, HB4.out⟩
                  · rw [hsy.out]; exact HO4.out
                  · rw [erasedOf_yes _ _ hun, ← show ((m : Int) / 3) = (k : Int) by omega]
                    exact own_other HE3.out HG4.out (own_type_ne HE3.out HO3.out (by decide))
                case measure => simp [intOf]; omega
              · have hcl2 : clrOf (fun i => gl s (m + i)) 3 = true := by rw [hcl.out]; simpa using hun
                rw [hcl2]
                have hsy : Aside0 (symsOf (gl s) (k + 1) = symsOf (gl s) k ++ [valOf (fun i => gl s (m + i)) 3]) := ⟨by
                  rw [symsOf_succ]
                  congr 2
                  unfold unclear at hun
                  have h1 : ¬ (gl s (3 * k) = 4 ∨ gl s (3 * k + 1) = 4 ∨ gl s (3 * k + 2) = 4) := by simpa using hun
                  rw [symOf, if_neg h1]
                  have a0 := hgl.out (3 * k)
                  have a1 := hgl.out (3 * k + 1)
                  have a2 := hgl.out (3 * k + 2)
                  have b0 := (HG.out 0 (by rw [HSUB.out]; omega)).2.2
                  have b1 := (HG.out 1 (by rw [HSUB.out]; omega)).2.2
                  have b2 := (HG.out 2 (by rw [HSUB.out]; omega)).2.2
                  rw [hm.out] at b0 b1 b2
                  rw [Nat.add_zero] at b0
                  simp only [valOf, hm.out, Nat.add_zero]
                  omega⟩
                go_wp2_with (first | (at_builtin; refine print_append_num (w0 := w) w.heap.size rfl _ _ 48 5 .u8 1 rfl Tryz.underlying48 info_u8 (by decide) u6 (symsOf (gl s) k) _ rfl rfl HO2.out HB2.out HS2.out HLO.out ?_; intro v2 w4 hown4 hB4 hg4 hat4; have HO4 := Aside0.mk hown4; have HB4 := Aside0.mk hB4; have HG4 := Aside0.mk hg4; clear hown4 hB4 hg4 hat4))
                go_roundw
                case rel =>
                  have hm3 : m = 3 * k := hm.out
                  refine ⟨k + 1, m + 3, ⟨by omega⟩, by go_num, hk3, ?_, ?_, HB4.out⟩
                  · rw [hsy.out]; exact HO4.out
                  · rw [erasedOf_no _ _ (by simpa using hun)]
                    exact own_other HE2.out HG4.out (own_type_ne HE2.out HO2.out (by decide))
                case measure => simp [intOf]; omega
        · have hmk : m = s.size := by omega
          have hk2 : Aside0 (k = s.size / 3) := ⟨by have := hm.out; omega⟩
          clear hmk
          go_wp2
          exact bodyPost_ret (v := .tuple #[u6, u7, .int .i64 0]) (by simp [results, Tryz.results44, go_sem]) rfl ⟨u6, u7, rfl, by rw [← hk2.out]; exact Kd.R_of_own HO.out (fun _ _ => trivial), by rw [← hk2.out]; exact Kd.R_of_own HE.out (fun _ _ => trivial), HB.out⟩
    · have HW := Aside0.mk (show readW s = ([], [], 2) by unfold readW; rw [if_pos hc, if_neg h3])
      rw [HW.out]
      have hcb : (checkW s 0 != 0) = false := by simpa using hc
      have h3b : ((s.size : Int) % 3 != 0) = true := by simp; omega
      clear hc h3
      go_enter Tryz.func44, Tryz.ntmps44
      go_wp2_with fail
      refine (check_any s 0 w hs (by omega) (by omega)).mono ?_
      rintro e w1 ⟨rfl, hb1⟩
      have HB1 := Aside0.mk hb1
      clear hb1
      go_wp2
      exact bodyPost_ret (v := .tuple #[.slice none 0 0, .slice none 0 0, .int .i64 2]) (by simp [results, Tryz.results44, go_sem]) rfl ⟨_, _, rfl, Kd.R_nil _ _ _ _ _, Kd.R_nil _ _ _ _ _, HB1.out⟩
  · have HW := Aside0.mk (show readW s = ([], [], checkW s 0) by unfold readW; rw [if_neg hc])
    rw [HW.out]
    have hcb : (checkW s 0 != 0) = true := by simpa using hc
    clear hc
    go_enter Tryz.func44, Tryz.ntmps44
    go_wp2_with fail
    refine (check_any s 0 w hs (by omega) (by omega)).mono ?_
    rintro e w1 ⟨rfl, hb1⟩
    have HB1 := Aside0.mk hb1
    clear hb1
    go_wp2
    exact bodyPost_ret (v := .tuple #[.slice none 0 0, .slice none 0 0, .int .i64 (checkW s 0)]) (by simp [results, Tryz.results44, go_sem]) rfl ⟨_, _, rfl, Kd.R_nil _ _ _ _ _, Kd.R_nil _ _ _ _ _, HB1.out⟩

/-! ### the contracts as the callers want them -/
def bars_check.f (s : ByteArray) (more : Int) : Option Int := if s.size ≤ 140737488351232 ∧ 0 ≤ more ∧ more ≤ 1000 then some (checkW s more) else none
theorem bars_check.calls (a0 : ByteArray) (a1 : Int) (r : Int) (w : World) (h : bars_check.f a0 a1 = some r) :
    Calls Tryz.prog 51 #[.string a0, .int .i64 a1] w fun e w' => e = .returned (.int .i64 r) ∧ Below w.heap.size w w' := by
  unfold bars_check.f at h
  split at h
  · obtain rfl := Option.some.inj h
    exact check_any a0 a1 w (by omega) (by omega) (by omega)
  · cases h
def bars_Write.f (l : List Int) : Option (ByteArray × Int) := if ∀ x ∈ l, 0 ≤ x then some (writeW l) else none
theorem bars_Write.calls (A0 : Option Addr) (c0 : Nat) (l0 : List Int) (r1 : ByteArray) (r2 : Int) (w : World) (hr0 : Kd.C (Kd.int .u8) w A0 l0.length l0) (hc0 : l0.length ≤ c0) (h : bars_Write.f l0 = some (r1, r2)) :
    Calls Tryz.prog 41 #[.slice A0 l0.length c0] w fun e w' => e = .returned (.tuple #[.string r1, .int .i64 r2]) ∧ Below w.heap.size w w' := by
  unfold bars_Write.f at h
  split at h
  · have h2 := Option.some.inj h
    have h3 : r1 = (writeW l0).1 := by rw [h2]
    have h4 : r2 = (writeW l0).2 := by rw [h2]
    rw [h3, h4]
    exact write_any A0 c0 l0 w hr0 hc0 (by assumption)
  · cases h
def bars_Read.f (s : ByteArray) : Option (List Int × List Int × Int) := if s.size ≤ 140737488351232 then some (readW s) else none
theorem bars_Read.calls (a0 : ByteArray) (r1 : List Int) (r2 : List Int) (r3 : Int) (w : World) (h : bars_Read.f a0 = some (r1, r2, r3)) :
    Calls Tryz.prog 44 #[.string a0] w fun e w' => ∃ v0_ v1_ : Value, e = .returned (.tuple #[v0_, v1_, .int .i64 r3]) ∧ Kd.R (Kd.int .u8) 5 w' w.heap.size (fun _ => True) v0_ r1 ∧ Kd.R (Kd.int .i64) 3 w' w.heap.size (fun _ => True) v1_ r2 ∧ Below w.heap.size w w' := by
  unfold bars_Read.f at h
  split at h
  · have h2 := Option.some.inj h
    have h3 : r1 = (readW a0).1 := by rw [h2]
    have h4 : r2 = (readW a0).2.1 := by rw [h2]
    have h5 : r3 = (readW a0).2.2 := by rw [h2]
    rw [h3, h4, h5]
    exact read_any a0 w (by assumption)
  · cases h
end Go.Proofs.YtajccgmeminlhaaGreatDoor.Br
end
section
/- bars.turn: a text upside down, by an iterator over its states. -/
set_option linter.unusedVariables false
set_option linter.unusedSimpArgs false
namespace Go.Proofs.YtajccgmeminlhaaGreatDoor.Br
open Go.RowKit Go.Shelf Go.Proofs.YtajccgmeminlhaaGreatDoorW.PrintWords
attribute [local go_sem] Oper.semAt_some

/-- A state upside down. -/
def fl (n : Int) : Int := if n = 1 then 2 else if n = 2 then 1 else n
abbrev St5 := { x : Int // 0 ≤ x ∧ x ≤ 4 }
/-- The state of the letter before place j, upside down; 0 where there is none. -/
def flAt (s : ByteArray) (j : Nat) : St5 := if h : 0 ≤ fl (gl s (j - 1)) ∧ fl (gl s (j - 1)) ≤ 4 then ⟨fl (gl s (j - 1)), h⟩ else ⟨0, by omega⟩
/-- The states that have come when j letters are left. -/
def came (s : ByteArray) : Nat → Nat → List St5
  | _, 0 => []
  | j, d + 1 => came s (j + 1) d ++ [flAt s (j + 1)]
theorem came_length (s : ByteArray) : ∀ d j, (came s j d).length = d := by
  intro d
  induction d with
  | zero => intro j; rfl
  | succ d ih => intro j; simp [came, ih]

set_option maxHeartbeats 2000000 in
set_option maxRecDepth 100000 in
theorem around1 (n : Nat) (hn : 1 ≤ n) (s : ByteArray) (hs : s.size ≤ 140737488351232) (hl : lettersAll s = true) (Bt : Nat) (w : World) (hB : Boxed w Bt 9 (.string s)) :
    SeqStopsK Fence.wide n Tryz.prog 124 #[.pointer (some ⟨Bt, 0, none⟩)] (fun x : St5 => #[.int .i64 x.1]) (fun W W' => ∀ v, Boxed W Bt 9 v → Boxed W' Bt 9 v) (fun xs => xs = came s 0 s.size) (fun _ => True) s.size w := by
  intro l J Jx W hW hJ hJx hY h0
  have hBW : Boxed W Bt 9 (.string s) := (hW.block _ hB.lt).trans hB
  clear hB
  refine callsIn_of_wp Tryz.func124 rfl trivial ?_ rfl
  simp only [Tryz.ntmps124, List.size_toArray, List.length_cons, List.length_nil, Nat.reduceAdd, Nat.reduceSub, Array.replicate_succ, Array.replicate_zero, List.push_toArray, List.append_toArray, List.nil_append, List.cons_append]
  have hc := hBW.cell
  gi_wp2
  gi_loopw [3] (fun i wr => ∃ j : Nat, j ≤ s.size ∧ i = .int .i64 ((j : Int) - 1) ∧ J (came s j (s.size - j)) wr ∧ Boxed wr Bt 9 (.string s)) (fun i _ => (intOf i + 1).toNat)
  case atStart =>
    refine ⟨s.size, Nat.le_refl _, rfl, ?_, hBW⟩
    rw [Nat.sub_self]
    exact h0
  case round =>
    obtain ⟨j, hj, rfl, hJs, hBr⟩ := hrel
    have HJ := Aside0.mk hJs
    have HBr := Aside0.mk hBr
    have hcr := hBr.cell
    clear hJs hBr
    cases j with
    | zero =>
      gi_wp2
      go_end0
      exact ⟨⟨_, rfl⟩, .inl ⟨_, rfl, HJ.out⟩⟩
    | succ j =>
      have ej : ((j + 1 : Nat) : Int) - 1 = (j : Int) := by omega
      rw [ej]
      have hl1 := lettersAll_at hl j (by omega)
      have hg := gl_at s j (by omega)
      have hg4 := (st_range ((s[j]'(by omega)).toNat : Int)).2
      have hw32 : wrap32 ((s[j]'(by omega)).toNat : Int) = ((s[j]'(by omega)).toNat : Int) := by
        have := (s[j]'(by omega)).toNat_lt
        unfold wrap32
        omega
      have hsub : Aside0 (s.size - j = s.size - (j + 1) + 1) := ⟨by omega⟩
      have hcame : Aside0 (came s j (s.size - j) = came s (j + 1) (s.size - (j + 1)) ++ [flAt s (j + 1)]) := ⟨by rw [hsub.out]; rfl⟩
      have hfl : Aside0 ((flAt s (j + 1)).1 = fl (st ((s[j]'(by omega)).toNat : Int))) := ⟨by
        have e : j + 1 - 1 = j := by omega
        unfold flAt
        rw [e, hg, dif_pos]
        unfold fl
        split
        · omega
        · split
          · omega
          · omega⟩
      clear hg
      gi_wp2
      refine ⟨trivial, callsIn_wide.2 ?_⟩
      rw [hw32]
      refine (state_any _ wr (by omega)).mono ?_
      rintro e w2 ⟨rfl, hb2⟩
      have HJ2 : Aside0 (J (came s (j + 1) (s.size - (j + 1))) w2) := ⟨hJ _ _ _ none HJ.out (grown_of_below hb2 none) (by simp)⟩
      have hB2 : Boxed w2 Bt 9 (.string s) := (hb2.block _ HBr.out.lt).trans HBr.out
      have HB2 := Aside0.mk hB2
      have hs2 := hb2.size
      obtain ⟨fn, tmps, assign, body, hy, hR⟩ := hY _ (flAt s (j + 1)) w2 HJ2.out (by rw [came_length]; omega)
      rw [hfl.out] at hy
      have HR := Aside0.mk hR
      clear hR hb2 hB2 hw32
      generalize st ((s[j]'(by omega)).toNat : Int) = c at hl1 hg4 hy hfl ⊢
      by_cases c1 : c = 1
      · subst c1
        rw [show fl 1 = 2 from rfl] at hy
        gi_wp2
        refine HR.out.mono ?_
        rintro e w3 (⟨rfl, hJ3, hk3⟩ | ⟨rfl, hJx3⟩)
        · gi_wp2
          exact ⟨⟨j, by omega, rfl, by rw [hcame.out]; exact hJ3, hk3 _ HB2.out⟩, by simp [intOf]⟩
        · gi_wp2
          exact bodyPost_ret (v := .tuple #[]) (by simp [results, Tryz.results124, go_sem]) rfl ⟨⟨_, rfl⟩, .inr ⟨_, trivial, hJx3⟩⟩
      · by_cases c2 : c = 2
        · subst c2
          rw [show fl 2 = 1 from rfl] at hy
          gi_wp2
          refine HR.out.mono ?_
          rintro e w3 (⟨rfl, hJ3, hk3⟩ | ⟨rfl, hJx3⟩)
          · gi_wp2
            exact ⟨⟨j, by omega, rfl, by rw [hcame.out]; exact hJ3, hk3 _ HB2.out⟩, by simp [intOf]⟩
          · gi_wp2
            exact bodyPost_ret (v := .tuple #[]) (by simp [results, Tryz.results124, go_sem]) rfl ⟨⟨_, rfl⟩, .inr ⟨_, trivial, hJx3⟩⟩
        · rw [show fl c = c by unfold fl; rw [if_neg c1, if_neg c2]] at hy
          have d1 : (c == 1) = false := by simpa using c1
          have d2 : (c == 2) = false := by simpa using c2
          gi_wp2
          refine HR.out.mono ?_
          rintro e w3 (⟨rfl, hJ3, hk3⟩ | ⟨rfl, hJx3⟩)
          · gi_wp2
            exact ⟨⟨j, by omega, rfl, by rw [hcame.out]; exact hJ3, hk3 _ HB2.out⟩, by simp [intOf]⟩
          · gi_wp2
            exact bodyPost_ret (v := .tuple #[]) (by simp [results, Tryz.results124, go_sem]) rfl ⟨⟨_, rfl⟩, .inr ⟨_, trivial, hJx3⟩⟩

theorem around_any (s : ByteArray) (w : World) :
    Calls Tryz.prog 92 #[.string s] w fun e w' => e = .returned (.func (.func 124) #[] #[.pointer (some ⟨w.heap.size, 0, none⟩)]) ∧ w.alloc (.cells #[.string s] 9) = w' := by
  have hmf : ∀ (fn : Fn) (first cap : Array Value) (w : World), (Instr.makeFunc fn first cap).run Tryz.prog w = .ok (.func fn first cap) w := fun _ _ _ _ => rfl
  go_enter Tryz.func92, Tryz.ntmps92
  go_wp2
  go_ret
  exact ⟨rfl, rfl⟩

theorem builderF_cells {T e : TypeId} {B b : Nat} {p : Value} {bs : List Value} {w w' : World} (h : Lib.BuilderAtF T e B b p bs w) (hk : ∀ (k : Nat) (o : Obj), w.heap[k]? = some o → o.isCells = true → w'.heap[k]? = some o) : Lib.BuilderAtF T e B b p bs w' := by
  obtain ⟨hB, v, hb, hown, hne⟩ := h
  refine ⟨hB, v, hk _ _ hb rfl, ⟨hown.1, ?_⟩, hne⟩
  rcases hown.2 with hn | ⟨g, cap, cur, fz, hv, hbg, hg, rest⟩
  · exact .inl hn
  · exact .inr ⟨g, cap, cur, fz, hv, hbg, hk _ _ hg rfl, rest⟩
theorem isBuilderF_cells {T e : TypeId} {B b : Nat} {bs : List Value} {w w' : World} (h : Lib.IsBuilderF T e B b bs w) (hk : ∀ (k : Nat) (o : Obj), w.heap[k]? = some o → o.isCells = true → w'.heap[k]? = some o) : Lib.IsBuilderF T e B b bs w' :=
  h.elim (fun x => .inl (builderF_cells x hk)) (fun x => .inr (builderF_cells x hk))
theorem keepsOthers_of {e : TypeId} {B b : Nat} {bs : List Value} {T : TypeId} {w w' : World} (hb : Lib.IsBuilderF T e B b bs w) (hs : w.heap.size ≤ w'.heap.size) (h : Lib.OthersKept e (some b) w w') : KeepsOthers w w' := by
  refine ⟨hs, fun k o hk ho => h k o hk ?_ ?_⟩
  · rintro h1
    cases h1
    rcases hb with ⟨_, v, hv, _⟩ | ⟨_, v, hv, _⟩
    all_goals
      rw [hk] at hv
      cases hv
      simp [Obj.isCells] at ho
  · rintro c fz rfl
    simp [Obj.isCells] at ho

def turnText (s : ByteArray) : List UInt8 := (came s 0 s.size).map fun x => lb x.1

set_option maxHeartbeats 2000000 in
set_option maxRecDepth 100000 in
theorem turn_any (s : ByteArray) (w : World) (hs : s.size ≤ 200) (hl : lettersAll s = true) :
    Calls Tryz.prog 52 #[.string s] w fun e w' => e = .returned (.string ⟨(turnText s).toArray⟩) ∧ Below w.heap.size w w' := by
  refine (callsIn_wide (n := 5)).1 ?_
  refine callsIn_of_wp_marks Tryz.func52 rfl trivial ?_ rfl
  simp only [Tryz.ntmps52, List.size_toArray, List.length_cons, List.length_nil, Nat.reduceAdd, Nat.reduceSub, Array.replicate_succ, Array.replicate_zero, List.push_toArray, List.append_toArray, List.nil_append, List.cons_append]
  gi_wp2
  refine ⟨trivial, callsIn_wide.2 ((around_any s _).mono ?_)⟩
  rintro e w1 ⟨rfl, rfl⟩
  gi_wp2
  obtain ⟨W, hW⟩ : ∃ W, (w.alloc (.cells #[.pointer none, .slice none 0 0] 120)).alloc (.cells #[.string s] 9) = W := ⟨_, rfl⟩
  have hsz : W.heap.size = w.heap.size + 2 := by rw [← hW]; simp
  have hB1 : Boxed W (w.heap.size + 1) 9 (.string s) := by
    rw [← hW]
    have := Boxed.new (w.alloc (.cells #[.pointer none, .slice none 0 0] 120)) 9 (.string s)
    rw [World.size_alloc] at this
    exact this
  have hbl : Below w.heap.size w W := by rw [← hW]; exact ((Below.refl _ w).alloc (Nat.le_refl _) _).alloc (by simp) _
  have hbu : Lib.IsBuilderF 120 5 w.heap.size w.heap.size (Lib.byteCells []) W := by rw [← hW]; exact (Lib.IsBuilderF.of (Lib.fresh_isBuilder _ _ w)).alloc _
  have hlen : Aside0 ((came s 0 s.size).length ≤ 200) := ⟨by rw [came_length]; exact hs⟩
  have hown : OwnFrom W.heap.size (fun (pre : List St5) (X : World) => Lib.IsBuilderF 120 5 w.heap.size w.heap.size (Lib.byteCells (pre.map fun x => lb x.1)) X) := by
    intro pre X Y row hI hg hr
    exact isBuilderF_cells hI (fun k o hk hc => (grownBy_keeps_cells hg (fun r e => (hr r e).2) hk hc).trans hk)
  rw [hW]
  refine wpIn_rangeFunc_ownF rfl (by omega) (gf := 124) (lb := #[.pointer (some ⟨w.heap.size + 1, 0, none⟩)]) rfl trivial (enters_of Tryz.func124 (by kernel_rfl) rfl)
    (around1 _ (by omega) s (by omega) hl (w.heap.size + 1) W hB1) (fun h k v hv => k v (h v hv))
    (fun X l o o' hl' ho hc _ v hv => by
      have hne : l ≠ w.heap.size + 1 := by omega
      unfold Boxed at hv ⊢
      rw [World.putObj_heap_other (fun e => hne e.symm)]
      exact hv) (Below.refl _ _) (fun _ => rfl)
    (fun pre X => pre.length ≤ 200 ∧ Lib.IsBuilderF 120 5 w.heap.size w.heap.size (Lib.byteCells (pre.map fun x => lb x.1)) X ∧ Below w.heap.size w X)
    (fun _ _ _ => False)
    (OwnFrom.and (fun _ _ _ _ hs _ _ => hs) (OwnFrom.and hown (ownFrom_below (Nat.le_refl _) (by omega))))
    (fun _ _ _ _ _ hs _ _ => hs)
    ⟨by simp, hbu, hbl⟩
    (fun x => { tmps := #[.string s, undef, .string ⟨#[]⟩, .pointer (some ⟨w.heap.size, 0, none⟩), .int .i64 x.1, .string s, .func (.func 124) #[] #[.pointer (some ⟨w.heap.size + 1, 0, none⟩)], .int .i64 x.1, undef, undef, undef, undef], defers := [] }) ?assign ?body ?done ?stop
  case assign =>
    intro l x X K hK
    gi_wp2
    exact hK
  case body =>
    rintro l pre x X ⟨hp, hI, hb⟩ hpre
    obtain ⟨x, hx⟩ := x
    have hx0 : 0 ≤ x := hx.1
    have hx5 : x < 5 := by omega
    have HI := Aside0.mk hI
    have HB := Aside0.mk hb
    have hs := hb.size
    have hlb := lb_at x hx0 hx5
    gi_wp2
    refine ⟨trivial, CallsIn.inRound l (callsIn_wide.2 ((bWriteByteK w.heap.size w.heap.size _ _ _ HI.out (by rw [Lib.byteCells_length, List.length_map]; omega) hs).mono ?_))⟩
    rintro e X2 ⟨rfl, hI2, hb2, ho2⟩
    have HI2 := Aside0.mk hI2
    have HB2 := Aside0.mk hb2
    have HO2 := Aside0.mk ho2
    clear hI2 hb2 ho2 hI hb
    gi_wp2
    refine ⟨keepsOthers_of HI.out HB2.out.size HO2.out, ?_, ?_, ?_, HB.out.trans HB2.out⟩
    · intro v hv
      refine HO2.out _ _ hv (by simp) ?_
      intro c fz h
      cases h
    · simp; omega
    · have := HI2.out
      rw [List.map_append, Lib.byteCells_append]
      exact .inr this
  case done =>
    rintro D ys X hD rfl ⟨hp, hI, hb⟩ hK
    have HB := Aside0.mk hb
    have HS := Aside0.mk hb.size
    have HK := Aside0.mk hK
    clear hK
    gi_wp2
    refine ⟨trivial, callsIn_wide.2 ((bStringK w.heap.size w.heap.size _ _ hI HS.out).mono ?_)⟩
    rintro e X2 ⟨rfl, _, hb2, ho2⟩
    have HB2 := Aside0.mk hb2
    have hK2 : X2.heap[D]? = some (.deferred (some [])) := by
      refine ho2 _ _ HK.out ?_ (by intro c fz h; cases h)
      intro h
      cases h
      omega
    have HK2 := Aside0.mk hK2
    clear hb2 ho2 hK2 hI hb
    gi_wp2
    refine ⟨by simp, .inl ⟨_, _, rfl, run_takeDeferred HK2.out, ?_⟩⟩
    exact ⟨_, results_tmp rfl _ _ _, by simp [turnText], (HB.out.trans HB2.out).trans (belowK_b (w := w) (Nat.le_refl _) X2 D _ _ (by omega) HK2.out rfl rfl)⟩
  case stop =>
    rintro D c pre X _ _ h _
    exact h.elim

/-! ### the contract, and plain words on the text turned -/
theorem lb_st (c : Int) (h : 0 ≤ st c) : ((lb (st c)).toNat : Int) = c := by
  have h2 := st_lt c h
  unfold st at h ⊢
  repeat' split
  all_goals first | (subst_vars; decide) | (exfalso; simp_all) | omega
def turnW (s : ByteArray) : ByteArray := ⟨(turnText s).toArray⟩
def bars_turn.f (s : ByteArray) : Option ByteArray := if s.size ≤ 200 ∧ lettersAll s = true then some (turnW s) else none
theorem bars_turn.calls (a0 : ByteArray) (r : ByteArray) (w : World) (h : bars_turn.f a0 = some r) :
    Calls Tryz.prog 52 #[.string a0] w fun e w' => e = .returned (.string r) ∧ Below w.heap.size w w' := by
  unfold bars_turn.f at h
  split at h
  · obtain rfl := Option.some.inj h
    exact turn_any a0 w (by omega) (by simp_all)
  · cases h
end Go.Proofs.YtajccgmeminlhaaGreatDoor.Br
end
section
/- bars.Frame: a text between its ends. Rows of literals. -/
set_option linter.unusedVariables false
set_option linter.unusedSimpArgs false
namespace Go.Proofs.YtajccgmeminlhaaGreatDoor.Br
open Go.RowKit Go.Shelf Go.Proofs.YtajccgmeminlhaaGreatDoorW.PrintWords

def frameW (s : ByteArray) : ByteArray × Int := if checkW s 4 = 0 then (((⟨#[65, 84]⟩ : ByteArray) ++ s) ++ ⟨#[70, 68]⟩, 0) else (⟨#[]⟩, checkW s 4)
set_option maxHeartbeats 2000000 in
set_option maxRecDepth 100000 in
theorem frame_any (s : ByteArray) (w : World) (hs : s.size ≤ 140737488351232) :
    Calls Tryz.prog 42 #[.string s] w fun e w' => e = .returned (.tuple #[.string (frameW s).1, .int .i64 (frameW s).2]) ∧ Below w.heap.size w w' := by
  by_cases hc : checkW s 4 = 0
  · have HW := Aside0.mk (show frameW s = (((⟨#[65, 84]⟩ : ByteArray) ++ s) ++ ⟨#[70, 68]⟩, 0) by unfold frameW; rw [if_pos hc])
    rw [HW.out]
    have hcb : (checkW s 4 != 0) = false := by simpa using hc
    have h2 : ((⟨#[65, 84]⟩ : ByteArray).size : Int) = 2 := rfl
    have h3 : ((⟨#[70, 68]⟩ : ByteArray).size : Int) = 2 := rfl
    clear hc
    go_enter Tryz.func42, Tryz.ntmps42
    go_wp2_with fail
    refine (check_any s 4 w hs (by omega) (by omega)).mono ?_
    rintro e w1 ⟨rfl, hb1⟩
    have HB1 := Aside0.mk hb1
    clear hb1
    go_wp2
    go_ret2
    exact ⟨rfl, HB1.out⟩
  · have HW := Aside0.mk (show frameW s = (⟨#[]⟩, checkW s 4) by unfold frameW; rw [if_neg hc])
    rw [HW.out]
    have hcb : (checkW s 4 != 0) = true := by simpa using hc
    clear hc
    go_enter Tryz.func42, Tryz.ntmps42
    go_wp2_with fail
    refine (check_any s 4 w hs (by omega) (by omega)).mono ?_
    rintro e w1 ⟨rfl, hb1⟩
    have HB1 := Aside0.mk hb1
    clear hb1
    go_wp2
    go_ret2
    exact ⟨rfl, HB1.out⟩
def bars_Frame.f (s : ByteArray) : Option (ByteArray × Int) := if s.size ≤ 140737488351232 then some (frameW s) else none
theorem bars_Frame.calls (a0 : ByteArray) (r1 : ByteArray) (r2 : Int) (w : World) (h : bars_Frame.f a0 = some (r1, r2)) :
    Calls Tryz.prog 42 #[.string a0] w fun e w' => e = .returned (.tuple #[.string r1, .int .i64 r2]) ∧ Below w.heap.size w w' := by
  unfold bars_Frame.f at h
  split at h
  · have h2 := Option.some.inj h
    rw [show r1 = (frameW a0).1 by rw [h2], show r2 = (frameW a0).2 by rw [h2]]
    exact frame_any a0 w (by assumption)
  · cases h

theorem wf_u8 {x : Int} (h : (Lit.int .u8 x).wf = true) : 0 ≤ x ∧ x < 256 := by
  have h1 : IntKind.u8.min = 0 := by decide
  have h2 : IntKind.u8.max = 255 := by decide
  simp [Lit.wf, h1, h2] at h
  omega

/-- A row of numbers that a literal has just made. -/
theorem lit_reads (w : World) (k : IntKind) (e : TypeId) (xs : List Int) (cs : Array Value) (hcs : (nums k xs).toArray = cs) (n : Nat) (hn : xs.length = n) (hm : n ≤ 9223372036854775807) :
    Kd.C (Kd.int k) (w.alloc (.cells cs e)) (some ⟨w.heap.size, 0, none⟩) n xs := by
  subst hcs
  refine Kd.C_of_reads (d := (0 : Int)) (h1 := fun _ => rfl) ⟨hn, hm, fun _ => ⟨_, rfl, fun j hj => World.news_of_block (heap_alloc_new w _) j _ ?_⟩⟩
  have hj2 : j < xs.length := by omega
  simp [nums, List.getElem?_eq_getElem hj2, List.getD_eq_getElem?_getD]
end Go.Proofs.YtajccgmeminlhaaGreatDoor.Br
end
