/- Exam: of the parts Rep, Same, Awk, Digs, Own; each part tells what it proves. -/
import Derived.Shelf.Lay
import Derived.Shelf.Strings.Repeat
import Derived.Test.YtajccgmeminlhaaGreatDoorProg
import Derived.Test.YtajccgmeminlhaaGreatDoorQ1
import Derived.Test.YtajccgmeminlhaaGreatDoorBcod
import Derived.BigRegion
import Derived.Laws.Strings3
section
/- strings.Repeat, off the shelf. -/
namespace Go.Proofs.YtajccgmeminlhaaGreatDoor.Br
open Go.Shelf Go.RowKit
def lays105_ren : Go.Shelf.Ren := ⟨fun | 99 => 54 | 105 => 26 | 165 => 55 | 166 => 56 | 169 => 58 | 170 => 57 | 206 => 95 | 212 => 53 | 240 => 96 | 241 => 97 | 263 => 93 | 264 => 94 | 276 => 125 | 277 => 126 | n => n, fun | 0 => 0 | 3 => 3 | 4 => 4 | 5 => 5 | 9 => 9 | 20 => 20 | 37 => 48 | 46 => 115 | 51 => 164 | 53 => 167 | 70 => 118 | 72 => 120 | 75 => 123 | 76 => 124 | 109 => 116 | 127 => 170 | 146 => 165 | 148 => 168 | 164 => 190 | 80 => 127 | n => n, fun | n => n⟩
theorem lays105 : Go.Proofs.Lays.n105 Tryz.prog lays105_ren := {
  mixed := by kernel_rfl
  f99 := Tryz.func54.trans (congrArg some (by kernel_rfl))
  f105 := Tryz.func26.trans (congrArg some (by kernel_rfl))
  f165 := Tryz.func55.trans (congrArg some (by kernel_rfl))
  f166 := Tryz.func56.trans (congrArg some (by kernel_rfl))
  f169 := Tryz.func58.trans (congrArg some (by kernel_rfl))
  f170 := Tryz.func57.trans (congrArg some (by kernel_rfl))
  f206 := Tryz.func95.trans (congrArg some (by kernel_rfl))
  f212 := Tryz.func53.trans (congrArg some (by kernel_rfl))
  f240 := Tryz.func96.trans (congrArg some (by kernel_rfl))
  f241 := Tryz.func97.trans (congrArg some (by kernel_rfl))
  f263 := Tryz.func93.trans (congrArg some (by kernel_rfl))
  f264 := Tryz.func94.trans (congrArg some (by kernel_rfl))
  f276 := Tryz.func125.trans (congrArg some (by kernel_rfl))
  f277 := Tryz.func126.trans (congrArg some (by kernel_rfl))
  t0 := Tryz.underlying0
  a0 := Tryz.isAgg0
  z0 := Tryz.sizeOf0
  v0 := Tryz.zeroValue0
  t3 := Tryz.underlying3
  a3 := Tryz.isAgg3
  z3 := Tryz.sizeOf3
  v3 := Tryz.zeroValue3
  t4 := Tryz.underlying4
  a4 := Tryz.isAgg4
  z4 := Tryz.sizeOf4
  v4 := Tryz.zeroValue4
  t5 := Tryz.underlying5
  a5 := Tryz.isAgg5
  z5 := Tryz.sizeOf5
  v5 := Tryz.zeroValue5
  t9 := Tryz.underlying9
  a9 := Tryz.isAgg9
  z9 := Tryz.sizeOf9
  v9 := Tryz.zeroValue9
  t20 := Tryz.underlying20
  a20 := Tryz.isAgg20
  z20 := Tryz.sizeOf20
  v20 := Tryz.zeroValue20
  t37 := Tryz.underlying48
  a37 := Tryz.isAgg48
  z37 := Tryz.sizeOf48
  v37 := Tryz.zeroValue48
  t46 := Tryz.underlying115
  a46 := Tryz.isAgg115
  z46 := Tryz.sizeOf115
  v46 := Tryz.zeroValue115
  t51 := Tryz.underlying164
  a51 := Tryz.isAgg164
  z51 := Tryz.sizeOf164
  v51 := Tryz.zeroValue164
  t53 := Tryz.underlying167
  a53 := Tryz.isAgg167
  z53 := Tryz.sizeOf167
  v53 := Tryz.zeroValue167
  t70 := Tryz.underlying118
  a70 := Tryz.isAgg118
  z70 := Tryz.sizeOf118
  v70 := Tryz.zeroValue118
  t72 := Tryz.underlying120
  a72 := Tryz.isAgg120
  z72 := Tryz.sizeOf120
  v72 := Tryz.zeroValue120
  t75 := Tryz.underlying123
  a75 := Tryz.isAgg123
  z75 := Tryz.sizeOf123
  v75 := Tryz.zeroValue123
  t76 := Tryz.underlying124
  a76 := Tryz.isAgg124
  z76 := Tryz.sizeOf124
  v76 := Tryz.zeroValue124
  t109 := Tryz.underlying116
  a109 := Tryz.isAgg116
  z109 := Tryz.sizeOf116
  v109 := Tryz.zeroValue116
  t127 := Tryz.underlying170
  a127 := Tryz.isAgg170
  z127 := Tryz.sizeOf170
  v127 := Tryz.zeroValue170
  t146 := Tryz.underlying165
  a146 := Tryz.isAgg165
  z146 := Tryz.sizeOf165
  v146 := Tryz.zeroValue165
  t148 := Tryz.underlying168
  a148 := Tryz.isAgg168
  z148 := Tryz.sizeOf168
  v148 := Tryz.zeroValue168
  t164 := Tryz.underlying190
  a164 := Tryz.isAgg190
  z164 := Tryz.sizeOf190
  v164 := Tryz.zeroValue190
 }
theorem extra105 : Builder.Extra Tryz.prog lays105_ren := {
  sizeBuilder := by kernel_rfl
  liesBuilder := by kernel_rfl
  t5 := Tryz.underlying5
  a5 := Tryz.isAgg5
  z5 := Tryz.sizeOf5
  v5 := Tryz.zeroValue5
  infoByte := by kernel_rfl
  cellsByte := by kernel_rfl
  sizeByte := by kernel_rfl
  neB5 := by decide }
theorem Repeat_any (s : ByteArray) (c : Nat) (w : World) (hc : c ≤ 1000) (hs : s.size ≤ 1000) :
    Calls Tryz.prog 26 #[.string s, .int .i64 c] w fun e w' => e = .returned (.string ⟨(Lib.repeatL s.data.toList c).toArray⟩) ∧ Below w.heap.size w w' :=
  Any.strings_Repeat lays105 extra105 s c w (by omega) (by have := Nat.mul_le_mul hs hc; omega)
end Go.Proofs.YtajccgmeminlhaaGreatDoor.Br
end
section
/- SameBytes and SameInts answer whether two lists are equal. -/
set_option linter.unusedVariables false
set_option linter.unusedSimpArgs false
namespace Go.Proofs.YtajccgmeminlhaaGreatDoor
open Go.RowKit Go.Proofs.YtajccgmeminlhaaGreatDoorW.PrintWords Go.Proofs.YtajccgmeminlhaaGreatDoorW.PrintLast Go.Proofs.YtajccgmeminlhaaGreatDoorW.PrintMore Go.Proofs.YtajccgmeminlhaaGreatDoor.Q

theorem rd_nat (a : List Int) (i : Nat) (h : i < a.length) : rd a (i : Int) = a[i] := by
  unfold rd
  rw [Int.toNat_natCast, List.getD_eq_getElem?_getD, List.getElem?_eq_getElem h]
  rfl
theorem sameI_l0 (a b : List Int) (hl : b.length = a.length) (hn : a.length ≤ 1000) : ∀ (d i k : Nat), a.length ≤ d + i → i ≤ a.length → d < k → letterbagkit_SameInts.l0 k a b (i : Int) = some (decide (a.drop i = b.drop i)) := by
  intro d
  induction d with
  | zero =>
    intro i k h1 h2 h3
    obtain ⟨k, rfl⟩ : ∃ k', k = k' + 1 := ⟨k - 1, by omega⟩
    rw [letterbagkit_SameInts.l0, if_neg (by omega), List.drop_of_length_le (by omega), List.drop_of_length_le (by omega)]
    rfl
  | succ d ih =>
    intro i k h1 h2 h3
    obtain ⟨k, rfl⟩ : ∃ k', k = k' + 1 := ⟨k - 1, by omega⟩
    by_cases hi : i < a.length
    · have e1 : wrap64 ((i : Int) + 1) = ((i + 1 : Nat) : Int) := by unfold wrap64; omega
      have := ih (i + 1) k (by omega) (by omega) (by omega)
      rw [← e1] at this
      rw [letterbagkit_SameInts.l0, if_pos (by omega), if_pos (by omega), if_pos (by omega), this, rd_nat a i hi, rd_nat b i (by omega), List.drop_eq_getElem_cons hi, List.drop_eq_getElem_cons (show i < b.length by omega)]
      by_cases e : a[i] = b[i]
      · rw [if_pos e, decide_eq_decide.2]
        rw [List.cons.injEq]
        exact ⟨fun h => ⟨e, h⟩, fun h => h.2⟩
      · rw [if_neg e, decide_eq_false]
        rw [List.cons.injEq]
        exact fun h => e h.1
    · rw [letterbagkit_SameInts.l0, if_neg (by omega), List.drop_of_length_le (by omega), List.drop_of_length_le (by omega)]
      rfl
theorem sameI_dec (a b : List Int) (hn : a.length ≤ 1000) : letterbagkit_SameInts.f 1010 a b = some (decide (a = b)) := by
  unfold letterbagkit_SameInts.f
  by_cases h : b.length = a.length
  · rw [if_pos (by omega)]
    exact sameI_l0 a b h hn a.length 0 1010 (by omega) (by omega) (by omega)
  · rw [if_neg (by omega), decide_eq_false (fun e => h (by rw [e]))]
theorem SameI_any (A0 : Option Addr) (c0 : Nat) (a : List Int) (A1 : Option Addr) (c1 : Nat) (b : List Int) (n0 n1 : Nat) (w : World) (h0 : a.length = n0) (h1 : b.length = n1) (hn : n0 ≤ 1000) (hr0 : Kd.C (Kd.int .i64) w A0 n0 a) (hc0 : n0 ≤ c0) (hr1 : Kd.C (Kd.int .i64) w A1 n1 b) (hc1 : n1 ≤ c1) :
    Calls Tryz.prog 24 #[.slice A0 n0 c0, .slice A1 n1 c1] w fun e w' => e = .returned (.bool (decide (a = b))) ∧ Below w.heap.size w w' := by
  subst h0 h1
  exact (letterbagkit_SameInts.calls 1010 A0 c0 a A1 c1 b _ w hr0 hc0 hr1 hc1 (sameI_dec a b hn)).mono fun _ _ h => ⟨h.1, h.2.below⟩
end Go.Proofs.YtajccgmeminlhaaGreatDoor
end
section
/- letterbaglaw22.awake: the examples of the chapter. -/
set_option linter.unusedVariables false
set_option linter.unusedSimpArgs false
namespace Go.Proofs.YtajccgmeminlhaaGreatDoor
open Go.RowKit Go.Shelf Go.Proofs.YtajccgmeminlhaaGreatDoorW.PrintWords Go.Proofs.YtajccgmeminlhaaGreatDoorW.PrintLast Go.Proofs.YtajccgmeminlhaaGreatDoorW.PrintMore Go.Proofs.YtajccgmeminlhaaGreatDoor.Q Go.Proofs.YtajccgmeminlhaaGreatDoor.Gf Go.Proofs.YtajccgmeminlhaaGreatDoor.Num

/-- Words of equal data are equal. -/
theorem same_data {a b : List G} {D : Nat} (hD : D + 4 ≤ 63) (hla : a.length = D + 4) (hlb : b.length = D + 4) (ha : Code a) (hb : Code b) (h : a.take D = b.take D) : b = a := by
  refine code_apart (P := (List.range 4).map fun i => D + i) (by omega) (by omega) ha hb (fun p hp => ?_) ?_ (by simp) fun q hq hm => ?_
  · obtain ⟨i, hi, rfl⟩ := List.mem_map.1 hp
    rw [List.mem_range] at hi
    omega
  · exact List.Pairwise.map _ (fun x y h e => h (by omega)) List.nodup_range
  · have hq2 : q < D := Classical.byContradiction fun hc => hm (List.mem_map.2 ⟨q - D, by rw [List.mem_range]; omega, by omega⟩)
    have e1 : (a.take D).getD q 0 = a.getD q 0 := by rw [List.getD_eq_getElem?_getD, List.getD_eq_getElem?_getD, List.getElem?_take, if_pos hq2]
    have e2 : (b.take D).getD q 0 = b.getD q 0 := by rw [List.getD_eq_getElem?_getD, List.getD_eq_getElem?_getD, List.getElem?_take, if_pos hq2]
    rw [← e1, ← e2, h]
theorem isNum_unique {L L' : List Nat} {v : Nat} (h : IsNum L v) (h' : IsNum L' v) : L = L' :=
  val_inj L L' (h.len.trans h'.len.symm) h.dig h'.dig (h.val.trans h'.val.symm)
theorem isWd_unique {s : ByteArray} {R R' : List G} (h : IsWd s R) (h' : IsWd s R') : R' = R := by
  obtain ⟨L, hL, hR⟩ := h.ex
  obtain ⟨L', hL', hR'⟩ := h'.ex
  have := isNum_unique hL hL'
  subst this
  exact same_data (D := 16) (by decide) h.len h'.len h.code h'.code (hR.trans hR'.symm)
def W0 : List G := List.replicate 15 0 ++ [gOf 1, gOf 30, gOf 29, gOf 17, gOf 48]
def W5 : List G := List.replicate 15 0 ++ [gOf 1 * gOf 15, gOf 30 * gOf 15, gOf 29 * gOf 15, gOf 17 * gOf 15, gOf 48 * gOf 15]
theorem isW0 : IsWd ⟨#[]⟩ W0 := ⟨⟨List.replicate 15 0 ++ [1], ⟨by decide, by decide, by decide⟩, by decide +kernel⟩, by decide, by decide +kernel⟩
theorem isW5 : IsWd ⟨#[53]⟩ W5 := ⟨⟨List.replicate 15 0 ++ [15], ⟨by decide, by decide, by decide⟩, by decide +kernel⟩, by decide, by decide +kernel⟩
def T0 : ByteArray := ⟨#[65, 84] ++ Array.replicate 45 84 ++ #[84, 84, 65, 65, 70, 68, 65, 70, 65, 65, 84, 65, 70, 84, 84, 70, 68]⟩
def T5 : ByteArray := barT W5
theorem T0_is : barT W0 = T0 := by decide +kernel
theorem T0_sum : ((⟨#[65, 84]⟩ : ByteArray) ++ ⟨(Lib.repeatL [84] 45).toArray⟩) ++ ⟨#[84, 84, 65, 65, 70, 68, 65, 70, 65, 65, 84, 65, 70, 84, 84, 70, 68]⟩ = T0 := by decide +kernel
theorem T5_size : T5.size = 64 := by decide +kernel
def T5b : ByteArray := T5.extract 47 64
def T5c : ByteArray := T5.extract 4 20
def T5d : ByteArray := T5.extract 21 64
def T5e : ByteArray := T5.extract 1 64
theorem T5_tff : T5.extract 47 50 = ⟨#[84, 70, 70]⟩ := by decide +kernel
theorem Read_near (s m : ByteArray) (tu : Bool) (w : World) (hp : PW w) (hs : s.size = 64) (hu : R.bars_Unframe.f s = some (m, tu, 0)) (hm : m.size = 60) (hl : Br.lettersAll m = true) (x : List G) (hn : Near (symS m) (clrP m) x) (ds : List Nat) (hd : dec (val (digX x)) = 1 :: ds) :
    Calls Tryz.prog 20 #[.string s] w fun e w' => ∃ AE cE A1 c1, e = .returned (.tuple #[.agg #[.string (strOfNums (pd ds)), .bool tu, .slice AE (errL (symS m) (clrP m) x).length cE, .slice A1 (clrP m).length c1], .int .i64 0]) ∧ (errL (symS m) (clrP m) x).length ≤ cE ∧ (clrP m).length ≤ c1 ∧ Kd.C (Kd.int .i64) w' AE (errL (symS m) (clrP m) x).length (is (errL (symS m) (clrP m) x)) ∧ Kd.C (Kd.int .i64) w' A1 (clrP m).length (is (clrP m)) ∧ Below w.heap.size w w' := by
  refine (Read_in s m tu w hp hs hu hm hl).mono ?_
  rintro e w' ⟨h | ⟨y, hy, h4, h⟩, hb⟩
  · exfalso
    rcases h.2 with h4 | h4
    · obtain ⟨C, -, -, hc, -⟩ := hn.bound
      omega
    · exact h4 x hn
  · have hxy : y = x := near_unique (by rw [symS_length]; decide) (clrP_nodup m) (fun p hp => by rw [symS_length]; exact clrP_lt m p hp) hn hy
    subst hxy
    rcases h with ⟨-, hno⟩ | ⟨ds', AE, cE, A1, c1, hds, rfl, h1, h2, h3, h5⟩
    · exact absurd hd (hno ds)
    · rw [hd] at hds
      obtain rfl := (List.cons.inj hds).2
      exact ⟨AE, cE, A1, c1, rfl, h1, h2, h3, h5, hb⟩
def RR : ByteArray := ⟨(Lib.repeatL [84] 39).toArray⟩
theorem Rep39 (w : World) : Calls Tryz.prog 26 #[.string ⟨#[84]⟩, .int .i64 39] w fun e w' => e = .returned (.string RR) ∧ Below w.heap.size w w' := Br.Repeat_any ⟨#[84]⟩ 39 w (by decide) (by decide)
def U1 : ByteArray := (((⟨#[65, 84]⟩ : ByteArray) ++ RR) ++ ⟨#[63, 63, 63, 84, 63, 84]⟩) ++ T5b
def U2 : ByteArray := (((⟨#[65, 84, 65, 84]⟩ : ByteArray) ++ T5c) ++ ⟨#[70]⟩) ++ T5d
def O2 : ByteArray := Br.mkB ((U2.data.toList.map Br.fb).reverse)
def U3 : ByteArray := (⟨#[70]⟩ : ByteArray) ++ T5e
def M1 : ByteArray := U1.extract 2 62
def M2 : ByteArray := U2.extract 2 62
theorem turn5 : R.bars_Turn.f ((((⟨#[65, 84, 65, 84]⟩ : ByteArray) ++ T5c) ++ ⟨#[70]⟩) ++ T5d) = some (O2, 0) := by decide +kernel
theorem unf1 : R.bars_Unframe.f U1 = some (M1, false, 0) := by decide +kernel
theorem unf2 : R.bars_Unframe.f O2 = some (M2, true, 0) := by decide +kernel
theorem unf3 : ∃ m b, R.bars_Unframe.f U3 = some (m, b, 200) := ⟨⟨#[]⟩, false, by decide +kernel⟩
theorem near1 : Near (symS M1) (clrP M1) W5 := by
  rw [show clrP M1 = [13, 14] by decide +kernel]
  refine ⟨by decide +kernel, isW5.code, [], by decide, by decide, by decide, fun q hq h1 _ => ?_⟩
  have h : ∀ q : Fin 20, q.val ∉ [13, 14] → W5.getD q.val 0 = (symS M1).getD q.val 0 := by decide +kernel
  exact h ⟨q, by rw [symS_length] at hq; exact hq⟩ h1
theorem near2 : Near (symS M2) (clrP M2) W5 := by
  rw [show clrP M2 = [] by decide +kernel]
  refine ⟨by decide +kernel, isW5.code, [0, 6], by decide, fun p hp => ?_, by decide, fun q hq _ h2 => ?_⟩
  · rw [symS_length]
    simp at hp
    omega
  · have h : ∀ q : Fin 20, q.val ∉ [0, 6] → W5.getD q.val 0 = (symS M2).getD q.val 0 := by decide +kernel
    exact h ⟨q, by rw [symS_length] at hq; exact hq⟩ h2
theorem err1 : errL (symS M1) (clrP M1) W5 = [] := by decide +kernel
theorem err2 : errL (symS M2) (clrP M2) W5 = [0, 6] := by decide +kernel
theorem clr1 : clrP M1 = [13, 14] := by decide +kernel
theorem clr2 : clrP M2 = [] := by decide +kernel
theorem dec5 : dec (val (digX W5)) = [1, 5] := by
  rw [show val (digX W5) = num [5] by decide +kernel]
  exact dec_num 1 [5] rfl (by decide)
theorem five : strOfNums (pd [5]) = ⟨#[53]⟩ := by decide +kernel
theorem Write0 (w : World) (hp : PW w) : Calls Tryz.prog 19 #[.string ⟨#[]⟩] w fun e w' => e = .returned (.tuple #[.string T0, .int .i64 0]) ∧ Below w.heap.size w w' := by
  refine (Write_ok ⟨#[]⟩ w hp (by decide) (fun b hb => by simp at hb)).mono ?_
  rintro e w' ⟨R, hR, rfl, hb⟩
  rw [isWd_unique isW0 hR, T0_is]
  exact ⟨rfl, hb⟩
theorem Write5 (w : World) (hp : PW w) : Calls Tryz.prog 19 #[.string ⟨#[53]⟩] w fun e w' => e = .returned (.tuple #[.string T5, .int .i64 0]) ∧ Below w.heap.size w w' := by
  refine (Write_ok ⟨#[53]⟩ w hp (by decide) (fun b hb => by simp at hb; subst hb; decide)).mono ?_
  rintro e w' ⟨R, hR, rfl, hb⟩
  rw [isWd_unique isW5 hR]
  exact ⟨rfl, hb⟩
theorem Read1 (w : World) (hp : PW w) : Calls Tryz.prog 20 #[.string U1] w fun e w' => ∃ AE cE A1 c1, e = .returned (.tuple #[.agg #[.string ⟨#[53]⟩, .bool false, .slice AE 0 cE, .slice A1 2 c1], .int .i64 0]) ∧ 2 ≤ c1 ∧ Kd.C (Kd.int .i64) w' A1 2 [13, 14] ∧ Below w.heap.size w w' := by
  refine (Read_near U1 M1 false w hp (by decide +kernel) unf1 (by decide +kernel) (by decide +kernel) W5 near1 [5] dec5).mono ?_
  rintro e w' ⟨AE, cE, A1, c1, rfl, h1, h2, h3, h4, hb⟩
  rw [five, err1]
  rw [clr1] at h2 h4 ⊢
  exact ⟨AE, cE, A1, c1, rfl, h2, h4, hb⟩
theorem Read2 (w : World) (hp : PW w) : Calls Tryz.prog 20 #[.string O2] w fun e w' => ∃ AE cE A1 c1, e = .returned (.tuple #[.agg #[.string ⟨#[53]⟩, .bool true, .slice AE 2 cE, .slice A1 0 c1], .int .i64 0]) ∧ 2 ≤ cE ∧ Kd.C (Kd.int .i64) w' AE 2 [0, 6] ∧ Below w.heap.size w w' := by
  refine (Read_near O2 M2 true w hp (by decide +kernel) unf2 (by decide +kernel) (by decide +kernel) W5 near2 [5] dec5).mono ?_
  rintro e w' ⟨AE, cE, A1, c1, rfl, h1, h2, h3, h4, hb⟩
  rw [five]
  rw [err2] at h1 h3 ⊢
  rw [clr2]
  exact ⟨AE, cE, A1, c1, rfl, h1, h3, hb⟩
theorem Read3 (w : World) : Calls Tryz.prog 20 #[.string U3] w fun e w' => e = .returned (.tuple #[noFound, .int .i64 200]) ∧ Below w.heap.size w w' := by
  obtain ⟨m, b, hu⟩ := unf3
  exact Read_ends U3 m b 200 w (by decide +kernel) hu (by decide)
theorem slice_str (a b : Nat) (s : ByteArray) (h1 : a ≤ b) (h2 : b ≤ s.size) (wx : World) : (Instr.slice 9 (.string s) (some (.int .i64 a)) (some (.int .i64 b)) none).run Tryz.prog wx = .ok (.string (s.extract a b)) wx := Br.slice_mid s a b h1 h2 wx
theorem slice_end (a : Nat) (s : ByteArray) (h : a ≤ s.size) (wx : World) : (Instr.slice 9 (.string s) (some (.int .i64 a)) none none).run Tryz.prog wx = .ok (.string (s.extract a s.size)) wx := by
  rw [run_slice_string_from_if (h := Tryz.underlying9), if_pos (by omega)]
  simp
set_option maxHeartbeats 16000000 in
set_option maxRecDepth 1000000 in
theorem awake_any (w : World) (hp : PW w) : Calls Tryz.prog 10 #[] w fun e w' => e = .returned (.bool true) ∧ Below w.heap.size w w' := by
  have HP := Aside0.mk hp
  have HW0 := Aside0.mk (Write0 w hp)
  clear hp
  go_enter Tryz.func10, Tryz.ntmps10
  go_wp2_with fail
  refine HW0.out.mono ?_
  rintro e w1 ⟨rfl, hb1⟩
  have HB1 := Aside0.mk hb1
  have HW5 := Aside0.mk (Write5 w1 (HP.out.below hb1))
  clear hb1 HW0
  go_wp2_with fail
  refine HW5.out.mono ?_
  rintro e w2 ⟨rfl, hb2⟩
  have HB2 := Aside0.mk (HB1.out.trans (hb2.mono HB1.out.size))
  have HRP := Aside0.mk (Br.Repeat_any ⟨#[84]⟩ 45 w2 (by decide) (by decide))
  clear hb2 HW5
  go_wp2_with fail
  refine HRP.out.mono ?_
  rintro e w3 ⟨rfl, hb3⟩
  have HB3 := Aside0.mk (HB2.out.trans (hb3.mono HB2.out.size))
  have hsum := T0_sum
  have hsz : (T5.size : Int) = 64 := by rw [T5_size]; rfl
  have hsl : ∀ W : World, (Instr.slice 9 (.string T5) (some (.int .i64 47)) (some (.int .i64 50)) none).run Tryz.prog W = .ok (.string ⟨#[84, 70, 70]⟩) W := fun W => by
    have := slice_str 47 50 T5 (by decide) (by rw [T5_size]; decide) W
    rwa [T5_tff] at this
  clear hb3 HRP
  go_wp2_with fail
  have hsb : ∀ W : World, (Instr.slice 9 (.string T5) (some (.int .i64 47)) none none).run Tryz.prog W = .ok (.string T5b) W := fun W => by
    have := slice_end 47 T5 (by rw [T5_size]; decide) W
    rwa [T5_size] at this
  have hRR : RR.size = 39 := by decide +kernel
  have hTb : T5b.size = 17 := by decide +kernel
  have hTc : T5c.size = 16 := by decide +kernel
  have hTd : T5d.size = 43 := by decide +kernel
  have hTe : T5e.size = 63 := by decide +kernel
  clear hsl hsum
  refine start_ (n := 7) (S := fun w' => True) (ds := []) #[false, false, false, false, false, false, false] (by kernel_rfl) rfl rfl trivial (fun hHeld => ?_)
  refine pure_ (i := 3) (N := some 44) (v := ?_) (a' := ?_) #[false, false, false, true, false, false, false] rfl rfl (by kernel_rfl) (fun _ _ _ h => h) (Or.inl ⟨by rfl, ?_⟩) ?_ ?_
  rotate_left
  · intro w'
    go_simp
    with_reducible rfl
  rotate_left
  · simp only [Act.put, List.setIfInBounds_toArray, List.set_cons_zero, List.set_cons_succ, i64_w, i32_w]
    rfl
  refine pure_ (i := 4) (N := some 45) (v := ?_) (a' := ?_) #[false, false, false, true, true, false, false] rfl rfl (by kernel_rfl) (fun _ _ _ h => h) (Or.inl ⟨by rfl, ?_⟩) ?_ ?_
  rotate_left
  · intro w'
    go_simp
    with_reducible rfl
  rotate_left
  · simp only [Act.put, List.setIfInBounds_toArray, List.set_cons_zero, List.set_cons_succ, i64_w, i32_w]
    rfl
  refine one_ (i := 0) (N := some 41) #[true, false, false, true, true, false, false] rfl rfl (by kernel_rfl) (by decide) (fun K hK => ?_)
  refine goes_ Tryz.func26 (by kernel_rfl) rfl #[.string ⟨#[84]⟩, .int .i64 39] (by rfl) rfl rfl (by simp only [List.map_toArray, List.map_cons, List.map_nil]; rfl) ?_
  with_reducible refine (Rep39 _).mono ?_
  rintro e wR ⟨rfl, hbR⟩
  refine ⟨_, rfl, ?_⟩
  have HBR := Aside0.mk hbR
  clear hbR
  refine hK.out _ _ trivial (fun hHeld => ?_)
  clear hK K
  refine norm_ (a' := ?_) ?_ ?_
  rotate_left
  · show Act.put _ (some 41) _ = _
    simp only [Act.put, List.setIfInBounds_toArray, List.set_cons_zero, List.set_cons_succ, i64_w, i32_w]
    rfl
  refine pure_ (i := 1) (N := some 42) (v := ?_) (a' := ?_) #[true, true, false, true, true, false, false] rfl rfl (by kernel_rfl) (fun _ _ _ h => h) (Or.inl ⟨by rfl, ?_⟩) ?_ ?_
  rotate_left
  · intro w'
    go_simp
    with_reducible rfl
  rotate_left
  · simp only [Act.put, List.setIfInBounds_toArray, List.set_cons_zero, List.set_cons_succ, i64_w, i32_w]
    rfl
  refine pure_ (i := 2) (N := some 43) (v := ?_) (a' := ?_) #[true, true, true, true, true, false, false] rfl rfl (by kernel_rfl) (fun _ _ _ h => h) (Or.inl ⟨by rfl, ?_⟩) ?_ ?_
  rotate_left
  · intro w'
    go_simp
    with_reducible rfl
  rotate_left
  · simp only [Act.put, List.setIfInBounds_toArray, List.set_cons_zero, List.set_cons_succ, i64_w, i32_w]
    rfl
  refine pure_ (i := 5) (N := some 46) (v := ?_) (a' := ?_) #[true, true, true, true, true, true, false] rfl rfl (by kernel_rfl) (fun _ _ _ h => h) (Or.inl ⟨by rfl, ?_⟩) ?_ ?_
  rotate_left
  · intro w'
    go_simp
    with_reducible rfl
  rotate_left
  · simp only [Act.put, List.setIfInBounds_toArray, List.set_cons_zero, List.set_cons_succ, i64_w, i32_w]
    rfl
  refine pure_ (i := 6) (N := some 5) (v := ?_) (a' := ?_) #[true, true, true, true, true, true, true] rfl rfl (by kernel_rfl) (fun _ _ _ h => h) (Or.inl ⟨by rfl, ?_⟩) ?_ ?_
  rotate_left
  · intro w'
    go_simp
    with_reducible rfl
  rotate_left
  · simp only [Act.put, List.setIfInBounds_toArray, List.set_cons_zero, List.set_cons_succ, i64_w, i32_w]
    rfl
  refine done_ (by kernel_rfl) ?_
  have hU1 : (((⟨#[65, 84]⟩ : ByteArray) ++ RR) ++ ⟨#[63, 63, 63, 84, 63, 84]⟩) ++ T5b = U1 := rfl
  rw [hU1]
  have HBR3 := Aside0.mk (HB3.out.drew.trans (HBR.out.mono (by exact HB3.out.size)))
  have HRD := Aside0.mk (Read1 wR (HP.out.below HBR3.out))
  clear hU1 hsb
  go_wp2_with fail
  refine HRD.out.mono ?_
  rintro e w4 ⟨AE, cE, A1, c1, rfl, hc1, hC1, hb4⟩
  obtain ⟨w5, hw5⟩ : ∃ w5, w4.alloc (.cells #[.string ⟨#[53]⟩, .bool false, .slice AE 0 cE, .slice A1 2 c1] 31) = w5 := ⟨_, rfl⟩
  have hb5 : Below w4.heap.size w4 w5 := by rw [← hw5]; exact below_al w4 _
  have HX := Aside0.mk (show w5.heap[w4.heap.size]? = some (.cells #[.string ⟨#[53]⟩, .bool false, .slice AE 0 cE, .slice A1 2 c1] 31 (0, 0)) by rw [← hw5]; exact heap_alloc_new w4 _)
  have HCX := Aside0.mk (Kd.C_below hC1 hb5)
  have HB5 := Aside0.mk (HBR3.out.trans ((hb4.trans (hb5.mono hb4.size)).mono HBR3.out.size))
  have HW5' := Aside0.mk hw5
  have hsc : ∀ W : World, (Instr.slice 9 (.string T5) (some (.int .i64 4)) (some (.int .i64 20)) none).run Tryz.prog W = .ok (.string T5c) W := fun W => slice_str 4 20 T5 (by decide) (by rw [T5_size]; decide) W
  have hsd : ∀ W : World, (Instr.slice 9 (.string T5) (some (.int .i64 21)) none none).run Tryz.prog W = .ok (.string T5d) W := fun W => by
    have := slice_end 21 T5 (by rw [T5_size]; decide) W
    rwa [T5_size] at this
  clear hb4 hb5 hC1 hw5 HRD
  go_wp2_with fail
  rw [HW5'.out]
  refine start_ (n := 13) (S := fun w' => True) (ds := []) #[false, false, false, false, false, false, false, false, false, false, false, false, false] (by kernel_rfl) rfl rfl trivial (fun hHeld => ?_)
  refine pure_ (i := 0) (N := some 53) (v := ?_) (a' := ?_) #[true, false, false, false, false, false, false, false, false, false, false, false, false] rfl rfl (by kernel_rfl) (fun _ _ _ h => h) (Or.inl ⟨by rfl, ?_⟩) ?_ ?_
  rotate_left
  · intro w'
    go_simp
    with_reducible rfl
  rotate_left
  · simp only [Act.put, List.setIfInBounds_toArray, List.set_cons_zero, List.set_cons_succ, i64_w, i32_w]
    rfl
  refine pure_ (i := 1) (N := some 54) (v := ?_) (a' := ?_) #[true, true, false, false, false, false, false, false, false, false, false, false, false] rfl rfl (by kernel_rfl) (fun _ _ _ h => h) (Or.inl ⟨by rfl, ?_⟩) ?_ ?_
  rotate_left
  · intro w'
    go_simp
    with_reducible rfl
  rotate_left
  · simp only [Act.put, List.setIfInBounds_toArray, List.set_cons_zero, List.set_cons_succ, i64_w, i32_w]
    rfl
  refine pure_ (i := 2) (N := some 55) (v := ?_) (a' := ?_) #[true, true, true, false, false, false, false, false, false, false, false, false, false] rfl rfl (by kernel_rfl) (fun _ _ _ h => h) (Or.inl ⟨by rfl, ?_⟩) ?_ ?_
  rotate_left
  · intro w'
    go_simp
    with_reducible rfl
  rotate_left
  · simp only [Act.put, List.setIfInBounds_toArray, List.set_cons_zero, List.set_cons_succ, i64_w, i32_w]
    rfl
  refine pure_ (i := 3) (N := some 56) (v := ?_) (a' := ?_) #[true, true, true, true, false, false, false, false, false, false, false, false, false] rfl rfl (by kernel_rfl) (fun _ _ _ h => h) (Or.inl ⟨by rfl, ?_⟩) ?_ ?_
  rotate_left
  · intro w'
    go_simp
    with_reducible rfl
  rotate_left
  · simp only [Act.put, List.setIfInBounds_toArray, List.set_cons_zero, List.set_cons_succ, i64_w, i32_w]
    rfl
  refine pure_ (i := 4) (N := some 57) (v := ?_) (a' := ?_) #[true, true, true, true, true, false, false, false, false, false, false, false, false] rfl rfl (by kernel_rfl) (fun _ _ _ h => h) (Or.inl ⟨by rfl, ?_⟩) ?_ ?_
  rotate_left
  · intro w'
    go_simp
    with_reducible rfl
  rotate_left
  · simp only [Act.put, List.setIfInBounds_toArray, List.set_cons_zero, List.set_cons_succ, i64_w, i32_w]
    rfl
  refine pure_ (i := 5) (N := some 58) (v := ?_) (a' := ?_) #[true, true, true, true, true, true, false, false, false, false, false, false, false] rfl rfl (by kernel_rfl) (fun _ _ _ h => h) (Or.inl ⟨by rfl, ?_⟩) ?_ ?_
  rotate_left
  · intro w'
    go_simp
    with_reducible rfl
  rotate_left
  · simp only [Act.put, List.setIfInBounds_toArray, List.set_cons_zero, List.set_cons_succ, i64_w, i32_w]
    rfl
  refine pure_ (i := 6) (N := some 59) (v := ?_) (a' := ?_) #[true, true, true, true, true, true, true, false, false, false, false, false, false] rfl rfl (by kernel_rfl) (fun _ _ _ h => h) (Or.inl ⟨by rfl, ?_⟩) ?_ ?_
  rotate_left
  · intro w'
    go_simp
    with_reducible rfl
  rotate_left
  · simp only [Act.put, List.setIfInBounds_toArray, List.set_cons_zero, List.set_cons_succ, i64_w, i32_w]
    rfl
  refine one_ (i := 7) (N := some 60) #[true, true, true, true, true, true, true, true, false, false, false, false, false] rfl rfl (by kernel_rfl) (by decide) (fun K hK => ?_)
  refine goes_ Tryz.func23 (by kernel_rfl) rfl #[.string ((((⟨#[65, 84, 65, 84]⟩ : ByteArray) ++ T5c) ++ ⟨#[70]⟩) ++ T5d)] (by rfl) rfl rfl (by simp only [List.map_toArray, List.map_cons, List.map_nil]; rfl) ?_
  with_reducible refine (R.bars_Turn.calls _ _ _ _ turn5).mono ?_
  rintro e wT ⟨rfl, hbT⟩
  refine ⟨_, rfl, ?_⟩
  have HBT := Aside0.mk hbT
  clear hbT
  refine hK.out _ _ trivial (fun hHeld => ?_)
  clear hK K
  refine norm_ (a' := ?_) ?_ ?_
  rotate_left
  · show Act.put _ (some 60) _ = _
    simp only [Act.put, List.setIfInBounds_toArray, List.set_cons_zero, List.set_cons_succ, i64_w, i32_w]
    rfl
  refine pure_ (i := 8) (N := some 52) (v := ?_) (a' := ?_) #[true, true, true, true, true, true, true, true, true, false, false, false, false] rfl rfl (by kernel_rfl) (fun _ _ _ h => h) (Or.inl ⟨by rfl, ?_⟩) ?_ ?_
  rotate_left
  · intro w'
    go_simp
    with_reducible rfl
  rotate_left
  · simp only [Act.put, List.setIfInBounds_toArray, List.set_cons_zero, List.set_cons_succ, i64_w, i32_w]
    rfl
  refine pure_ (i := 9) (N := some 61) (v := ?_) (a' := ?_) #[true, true, true, true, true, true, true, true, true, true, false, false, false] rfl rfl (by kernel_rfl) (fun _ _ _ h => h) (Or.inl ⟨by rfl, ?_⟩) ?_ ?_
  rotate_left
  · intro w'
    go_simp
    with_reducible rfl
  rotate_left
  · simp only [Act.put, List.setIfInBounds_toArray, List.set_cons_zero, List.set_cons_succ, i64_w, i32_w]
    rfl
  refine pure_ (i := 10) (N := some 62) (v := ?_) (a' := ?_) #[true, true, true, true, true, true, true, true, true, true, true, false, false] rfl rfl (by kernel_rfl) (fun _ _ _ h => h) (Or.inl ⟨by rfl, ?_⟩) ?_ ?_
  rotate_left
  · intro w'
    go_simp
    with_reducible rfl
  rotate_left
  · simp only [Act.put, List.setIfInBounds_toArray, List.set_cons_zero, List.set_cons_succ, i64_w, i32_w]
    rfl
  refine pure_ (i := 11) (N := some 7) (v := ?_) (a' := ?_) #[true, true, true, true, true, true, true, true, true, true, true, true, false] rfl rfl (by kernel_rfl) (fun _ _ _ h => h) (Or.inl ⟨by rfl, ?_⟩) ?_ ?_
  rotate_left
  · intro w'
    go_simp
    with_reducible rfl
  rotate_left
  · simp only [Act.put, List.setIfInBounds_toArray, List.set_cons_zero, List.set_cons_succ, i64_w, i32_w]
    rfl
  refine pure_ (i := 12) (N := some 4) (v := ?_) (a' := ?_) #[true, true, true, true, true, true, true, true, true, true, true, true, true] rfl rfl (by kernel_rfl) (fun _ _ _ h => h) (Or.inl ⟨by rfl, ?_⟩) ?_ ?_
  rotate_left
  · intro w'
    go_simp
    with_reducible rfl
  rotate_left
  · simp only [Act.put, List.setIfInBounds_toArray, List.set_cons_zero, List.set_cons_succ, i64_w, i32_w]
    rfl
  refine done_ (by kernel_rfl) ?_
  have hbt : Below w5.heap.size w5 wT := (Below.refl _ w5).drew.trans HBT.out
  have HB6 := Aside0.mk (HB5.out.trans (hbt.mono HB5.out.size))
  have HX6 := Aside0.mk (blk_below HX.out hbt)
  have HCX6 := Aside0.mk (Kd.C_below HCX.out hbt)
  have HRD2 := Aside0.mk (Read2 wT (HP.out.below HB6.out))
  clear hsc hsd hbt
  go_wp2_with fail
  refine HRD2.out.mono ?_
  rintro e w7 ⟨AE', cE', A1', c1', rfl, hc2, hC2, hb7⟩
  obtain ⟨w8, hw8⟩ : ∃ w8, w7.alloc (.cells #[.string ⟨#[53]⟩, .bool true, .slice AE' 2 cE', .slice A1' 0 c1'] 31) = w8 := ⟨_, rfl⟩
  have hb8 : Below w7.heap.size w7 w8 := by rw [← hw8]; exact below_al w7 _
  have hb78 : Below wT.heap.size wT w8 := hb7.trans (hb8.mono hb7.size)
  have HY := Aside0.mk (show w8.heap[w7.heap.size]? = some (.cells #[.string ⟨#[53]⟩, .bool true, .slice AE' 2 cE', .slice A1' 0 c1'] 31 (0, 0)) by rw [← hw8]; exact heap_alloc_new w7 _)
  have HX8 := Aside0.mk (blk_below HX6.out hb78)
  have HCX8 := Aside0.mk (Kd.C_below HCX6.out hb78)
  have HCY := Aside0.mk (Kd.C_below hC2 hb8)
  have HB8 := Aside0.mk (HB6.out.trans (hb78.mono HB6.out.size))
  have HW8 := Aside0.mk hw8
  have hse : ∀ W : World, (Instr.slice 9 (.string T5) (some (.int .i64 1)) none none).run Tryz.prog W = .ok (.string T5e) W := fun W => by
    have := slice_end 1 T5 (by rw [T5_size]; decide) W
    rwa [T5_size] at this
  have hU3 : (⟨#[70]⟩ : ByteArray) ++ T5e = U3 := rfl
  have HRD3 := Aside0.mk (Read3 w8)
  clear hb7 hb8 hb78 hC2 hw8 HRD2
  go_wp2_with fail
  rw [HW8.out]
  refine HRD3.out.mono ?_
  rintro e w9 ⟨rfl, hb9⟩
  unfold noFound
  obtain ⟨wZ, hwZ⟩ : ∃ wZ, w9.alloc (.cells #[.string ⟨#[]⟩, .bool false, .slice none 0 0, .slice none 0 0] 31) = wZ := ⟨_, rfl⟩
  have hbZ : Below w9.heap.size w9 wZ := by rw [← hwZ]; exact below_al w9 _
  have hb89 : Below w8.heap.size w8 wZ := hb9.trans (hbZ.mono hb9.size)
  have HXZ := Aside0.mk (blk_below HX8.out hb89)
  have HYZ := Aside0.mk (blk_below HY.out hb89)
  have HCXZ := Aside0.mk (Kd.C_below HCX8.out hb89)
  have HCYZ := Aside0.mk (Kd.C_below HCY.out hb89)
  have HBZ := Aside0.mk (HB8.out.trans (hb89.mono HB8.out.size))
  have HWZ := Aside0.mk hwZ
  have zx0 : (w9.alloc (.cells #[.string ⟨#[]⟩, .bool false, .slice none 0 0, .slice none 0 0] 31)).cell? ⟨w4.heap.size, 0, none⟩ = some (.string ⟨#[53]⟩) := by rw [hwZ]; unfold World.cell?; rw [HXZ.out]; simp
  have zx1 : (w9.alloc (.cells #[.string ⟨#[]⟩, .bool false, .slice none 0 0, .slice none 0 0] 31)).cell? ⟨w4.heap.size, 1, none⟩ = some (.bool false) := by rw [hwZ]; unfold World.cell?; rw [HXZ.out]; simp
  have zx2 : (w9.alloc (.cells #[.string ⟨#[]⟩, .bool false, .slice none 0 0, .slice none 0 0] 31)).cell? ⟨w4.heap.size, 2, none⟩ = some (.slice AE 0 cE) := by rw [hwZ]; unfold World.cell?; rw [HXZ.out]; simp
  have zx3 : (w9.alloc (.cells #[.string ⟨#[]⟩, .bool false, .slice none 0 0, .slice none 0 0] 31)).cell? ⟨w4.heap.size, 3, none⟩ = some (.slice A1 2 c1) := by rw [hwZ]; unfold World.cell?; rw [HXZ.out]; simp
  have zy0 : (w9.alloc (.cells #[.string ⟨#[]⟩, .bool false, .slice none 0 0, .slice none 0 0] 31)).cell? ⟨w7.heap.size, 0, none⟩ = some (.string ⟨#[53]⟩) := by rw [hwZ]; unfold World.cell?; rw [HYZ.out]; simp
  have zy1 : (w9.alloc (.cells #[.string ⟨#[]⟩, .bool false, .slice none 0 0, .slice none 0 0] 31)).cell? ⟨w7.heap.size, 1, none⟩ = some (.bool true) := by rw [hwZ]; unfold World.cell?; rw [HYZ.out]; simp
  have zy2 : (w9.alloc (.cells #[.string ⟨#[]⟩, .bool false, .slice none 0 0, .slice none 0 0] 31)).cell? ⟨w7.heap.size, 2, none⟩ = some (.slice AE' 2 cE') := by rw [hwZ]; unfold World.cell?; rw [HYZ.out]; simp
  have zy3 : (w9.alloc (.cells #[.string ⟨#[]⟩, .bool false, .slice none 0 0, .slice none 0 0] 31)).cell? ⟨w7.heap.size, 3, none⟩ = some (.slice A1' 0 c1') := by rw [hwZ]; unfold World.cell?; rw [HYZ.out]; simp
  obtain ⟨wV, hwV⟩ : ∃ wV, wZ.alloc (.cells #[.int .i64 13, .int .i64 14] 3) = wV := ⟨_, rfl⟩
  have hbV : Below wZ.heap.size wZ wV := by rw [← hwV]; exact below_al wZ _
  have hz1 : wZ.heap.size = w9.heap.size + 1 := by rw [← hwZ]; simp
  have HSI := Aside0.mk (SameI_any A1 c1 [13, 14] (some ⟨w9.heap.size + 1, 0, none⟩) 2 [13, 14] 2 2 wV rfl rfl (by decide) (Kd.C_below HCXZ.out hbV) hc1 (by rw [← hz1, ← hwV]; exact lit_reads wZ .i64 3 [13, 14] _ rfl 2 rfl (by omega)) (Nat.le_refl _))
  rw [decide_eq_true rfl] at HSI
  have HYV := Aside0.mk (blk_below HYZ.out hbV)
  have HCYV := Aside0.mk (Kd.C_below HCYZ.out hbV)
  have HBV := Aside0.mk (HBZ.out.trans (hbV.mono HBZ.out.size))
  have HWV := Aside0.mk hwV
  clear hz1 hb9 hbZ hb89 hwZ hbV hwV HRD3 hse hU3
  go_wp2_with fail
  rw [HWZ.out, HWV.out]
  refine HSI.out.mono ?_
  rintro e wS ⟨rfl, hbS⟩
  have HYS := Aside0.mk (blk_below HYV.out hbS)
  have HCYS := Aside0.mk (Kd.C_below HCYV.out hbS)
  have HBS := Aside0.mk (HBV.out.trans (hbS.mono HBV.out.size))
  have sy0 : (wS).cell? ⟨w7.heap.size, 0, none⟩ = some (.string ⟨#[53]⟩) := by unfold World.cell?; rw [HYS.out]; simp
  have sy1 : (wS).cell? ⟨w7.heap.size, 1, none⟩ = some (.bool true) := by unfold World.cell?; rw [HYS.out]; simp
  have sy2 : (wS).cell? ⟨w7.heap.size, 2, none⟩ = some (.slice AE' 2 cE') := by unfold World.cell?; rw [HYS.out]; simp
  have sy3 : (wS).cell? ⟨w7.heap.size, 3, none⟩ = some (.slice A1' 0 c1') := by unfold World.cell?; rw [HYS.out]; simp
  obtain ⟨wU, hwU⟩ : ∃ wU, wS.alloc (.cells #[.int .i64 0, .int .i64 6] 3) = wU := ⟨_, rfl⟩
  have hbU : Below wS.heap.size wS wU := by rw [← hwU]; exact below_al wS _
  have HSJ := Aside0.mk (SameI_any AE' cE' [0, 6] (some ⟨wS.heap.size, 0, none⟩) 2 [0, 6] 2 2 wU rfl rfl (by decide) (Kd.C_below HCYS.out hbU) hc2 (by rw [← hwU]; exact lit_reads wS .i64 3 [0, 6] _ rfl 2 rfl (by omega)) (Nat.le_refl _))
  rw [decide_eq_true rfl] at HSJ
  have HYU := Aside0.mk (blk_below HYS.out hbU)
  have HBU := Aside0.mk (HBS.out.trans (hbU.mono HBS.out.size))
  have HWU := Aside0.mk hwU
  clear hbS hbU hwU HSI zx0 zx1 zx2 zx3 zy0 zy1 zy2 zy3
  go_wp2_with fail
  rw [HWU.out]
  refine HSJ.out.mono ?_
  rintro e wE ⟨rfl, hbE⟩
  have HYE := Aside0.mk (blk_below HYU.out hbE)
  have hye : wE.cell? ⟨w7.heap.size, 3, none⟩ = some (.slice A1' 0 c1') := by unfold World.cell?; rw [HYE.out]; simp
  have HBE := Aside0.mk (HBU.out.trans (hbE.mono HBU.out.size))
  clear hbE HSJ sy0 sy1 sy2 sy3
  go_wp2_with fail
  go_ret
  exact ⟨rfl, HBE.out⟩
end Go.Proofs.YtajccgmeminlhaaGreatDoor
end
section
/- letterbaglaw22.Digits: the payload that is made of bytes. -/
set_option linter.unusedVariables false
set_option linter.unusedSimpArgs false
namespace Go.Proofs.YtajccgmeminlhaaGreatDoor
open Go.RowKit Go.Shelf Go.Proofs.YtajccgmeminlhaaGreatDoorW.PrintWords Go.Proofs.YtajccgmeminlhaaGreatDoorW.PrintLast Go.Proofs.YtajccgmeminlhaaGreatDoorW.PrintMore Go.Proofs.YtajccgmeminlhaaGreatDoor.Q Go.Proofs.YtajccgmeminlhaaGreatDoor.Gf Go.Proofs.YtajccgmeminlhaaGreatDoor.Num

def dgt (x : Int) : UInt8 := [48, 49, 50, 51, 52, 53, 54, 55, 56, 57].getD x.toNat 0
def dgL (l : List Int) : List UInt8 := l.map fun b => dgt (b % 10)
theorem dgL_append (a b : List Int) : dgL (a ++ b) = dgL a ++ dgL b := List.map_append
theorem dgL_length (a : List Int) : (dgL a).length = a.length := List.length_map _
def digW (l : List Int) : ByteArray := ⟨(dgL (l.take 28)).toArray⟩
theorem digW_size (l : List Int) : (digW l).size ≤ 28 := by
  show (dgL (l.take 28)).toArray.size ≤ 28
  rw [List.size_toArray, dgL_length, List.length_take]
  omega
theorem dgt_range (x : Int) (h0 : 0 ≤ x) (h1 : x < 10) : 48 ≤ (dgt x).toNat ∧ (dgt x).toNat ≤ 57 := by
  obtain ⟨n, rfl⟩ := Int.eq_ofNat_of_zero_le h0
  have : n < 10 := by omega
  match n, this with
  | 0, _ => decide
  | 1, _ => decide
  | 2, _ => decide
  | 3, _ => decide
  | 4, _ => decide
  | 5, _ => decide
  | 6, _ => decide
  | 7, _ => decide
  | 8, _ => decide
  | 9, _ => decide
theorem digW_isDg (l : List Int) : isDg (digW l) := fun b hb => by
  have hb : b ∈ dgL (l.take 28) := hb
  obtain ⟨x, _, rfl⟩ := List.mem_map.1 hb
  exact dgt_range _ (by omega) (by omega)
theorem slice_digit (x : Int) (h0 : 0 ≤ x) (h5 : x < 10) (wx : World) :
    (Instr.slice 9 (.string ⟨#[48, 49, 50, 51, 52, 53, 54, 55, 56, 57]⟩) (some (.int .u8 x)) (some (.int .u8 (x + 1))) none).run Tryz.prog wx = .ok (.string ⟨#[dgt x]⟩) wx := by
  have hsz : ((⟨#[48, 49, 50, 51, 52, 53, 54, 55, 56, 57]⟩ : ByteArray).size : Int) = 10 := rfl
  rw [run_slice_string_if (h := Tryz.underlying9), if_pos ⟨by omega, by omega⟩, if_pos ⟨by omega, by omega⟩]
  obtain ⟨n, rfl⟩ := Int.eq_ofNat_of_zero_le h0
  have : n < 10 := by omega
  match n, this with
  | 0, _ => rfl
  | 1, _ => rfl
  | 2, _ => rfl
  | 3, _ => rfl
  | 4, _ => rfl
  | 5, _ => rfl
  | 6, _ => rfl
  | 7, _ => rfl
  | 8, _ => rfl
  | 9, _ => rfl
theorem bytes_snoc (l : List UInt8) (b : UInt8) : (⟨l.toArray⟩ : ByteArray) ++ ⟨#[b]⟩ = ⟨(l ++ [b]).toArray⟩ := by
  apply ByteArray.ext
  simp
attribute [local go_sem] max2_int min2_int max_two min_two max_three min_three
set_option maxHeartbeats 4000000 in
set_option maxRecDepth 100000 in
theorem Digits_any (A0 : Option Addr) (c0 : Nat) (l0 : List Int) (w : World) (hr0 : Kd.C (Kd.int .u8) w A0 l0.length l0) (hc0 : l0.length ≤ c0) (hpos : ∀ x ∈ l0, 0 ≤ x ∧ x < 256) :
    Calls Tryz.prog 17 #[.slice A0 l0.length c0] w fun e w' => e = .returned (.string (digW l0)) ∧ w' = w := by
  have HR := Aside0.mk hr0
  have HP := Aside0.mk hpos
  clear hr0 hpos
  obtain ⟨m, hm⟩ : ∃ m, min l0.length 28 = m := ⟨_, rfl⟩
  have hmm : (if (28 : Int) < (l0.length : Int) then (28 : Int) else (l0.length : Int)) = (m : Int) := by split <;> omega
  have hml : m ≤ l0.length := by omega
  have hm28 : m ≤ 28 := by omega
  have hmc : m ≤ c0 := by omega
  have HW : Aside0 (digW l0 = ⟨(dgL (l0.take m)).toArray⟩) := ⟨by
    unfold digW
    rw [← hm]
    rcases Nat.le_total l0.length 28 with h | h
    · rw [Nat.min_eq_left h, List.take_of_length_le h, List.take_of_length_le (Nat.le_refl _)]
    · rw [Nat.min_eq_right h]⟩
  clear hm
  go_enter Tryz.func17, Tryz.ntmps17
  go_wp2_with fail
  go_loop [3, 12] (fun o i => ∃ k : Nat, k ≤ m ∧ i = .int .i64 k ∧ o = .string ⟨(dgL (l0.take k)).toArray⟩) (fun _ i => m - (intOf i).toNat)
  case atStart => exact ⟨0, Nat.zero_le _, rfl, rfl⟩
  case round =>
    obtain ⟨k, hk, rfl, rfl⟩ := hrel
    by_cases hp : k < m
    · obtain ⟨ad, rfl, hx⟩ := Kd.at_int HR.out k (by omega) (by omega)
      have hx0 := HP.out _ (rd_mem l0 k (by omega))
      have HT := Aside0.mk (take_snoc_rd l0 k (by omega))
      simp only [Int.toNat_natCast] at hx
      generalize rd l0 k = x at hx hx0 HT
      obtain ⟨hx0, hx1⟩ := hx0
      have hsl : ∀ wx : World, (Instr.slice 9 (.string ⟨#[48, 49, 50, 51, 52, 53, 54, 55, 56, 57]⟩) (some (.int .u8 (x % 10))) (some (.int .u8 (x % 10 + 1))) none).run Tryz.prog wx = .ok (.string ⟨#[dgt (x % 10)]⟩) wx := slice_digit (x % 10) (by omega) (by omega)
      have hn : Aside0 ((dgL (l0.take k)).length ≤ 28) := ⟨by rw [dgL_length, List.length_take]; omega⟩
      generalize hL : (dgL (l0.take k)) = L at hn ⊢
      have HL := Aside0.mk hL
      clear hL
      have hLn : L.length ≤ 28 := hn.out
      go_wp2_with fail
      go_round
      case rel =>
        refine ⟨k + 1, by omega, by go_num, ?_⟩
        rw [HT.out, dgL_append, HL.out]
        exact congrArg Value.string (bytes_snoc L (dgt (x % 10)))
      case measure => simp [intOf]; omega
    · obtain rfl : k = m := by omega
      go_wp2
      go_ret
      exact ⟨by rw [HW.out]; rfl, rfl⟩
end Go.Proofs.YtajccgmeminlhaaGreatDoor
end
section
/- barcode.Read of what barcode.Write has written: the payload, upright, nothing wrong. -/
set_option linter.unusedVariables false
set_option linter.unusedSimpArgs false
namespace Go.Proofs.YtajccgmeminlhaaGreatDoor
open Go.RowKit Go.Shelf Go.Proofs.YtajccgmeminlhaaGreatDoorW.PrintWords Go.Proofs.YtajccgmeminlhaaGreatDoorW.PrintLast Go.Proofs.YtajccgmeminlhaaGreatDoorW.PrintMore Go.Proofs.YtajccgmeminlhaaGreatDoor.Q Go.Proofs.YtajccgmeminlhaaGreatDoor.Gf Go.Proofs.YtajccgmeminlhaaGreatDoor.Num

/-- The letters between the ends. -/
def innT (R : List G) : ByteArray := Br.mkB (Br.writeText (ns R))
theorem innT_size {R : List G} (h : R.length = 20) : (innT R).size = 60 := by
  show (Br.writeText (ns R)).toArray.size = 60
  rw [List.size_toArray, Br.writeText_length, ns_length, h]
theorem innT_letters (R : List G) : Br.lettersAll (innT R) = true := writeText_isL _ (ns_range R)
theorem barT_unframe {R : List G} (h : R.length = 20) : _root_.Go.Proofs.YtajccgmeminlhaaGreatDoor.R.bars_Unframe.f (barT R) = some (innT R, false, 0) := Br.unframe_up (Br.writeText (ns R)) (by rw [Br.writeText_length, ns_length, h]; omega) (writeText_isL _ (ns_range R))
theorem barT_size {R : List G} (h : R.length = 20) : (barT R).size = 64 := by
  show (barL R).toArray.size = 64
  rw [List.size_toArray]
  unfold barL
  simp [Br.writeText_length, ns_length, h]
theorem gl_innT (R : List G) (j : Nat) : Br.gl (innT R) j = Br.st ((Br.W0 (ns R)).getD j 0) := by
  unfold Br.gl Br.W0
  show Br.st (((Br.writeText (ns R)).getD j 0).toNat : Int) = _
  congr 1
  rw [List.getD_eq_getElem?_getD, List.getD_eq_getElem?_getD, List.getElem?_map]
  cases (Br.writeText (ns R))[j]? <;> rfl
theorem gl_sym {R : List G} (i : Nat) (hi : i < R.length) : Br.gl (innT R) (3 * i) = ((R.getD i 0).n : Int) / 16 ∧ Br.gl (innT R) (3 * i + 1) = ((R.getD i 0).n : Int) / 4 % 4 ∧ Br.gl (innT R) (3 * i + 2) = ((R.getD i 0).n : Int) % 4 := by
  have h := Br.W0_st (ns R) (ns_range R) i (by rw [ns_length]; exact hi)
  rw [ns_at] at h
  rw [gl_innT, gl_innT, gl_innT]
  exact h
theorem sym_innT {R : List G} (h : R.length = 20) : symS (innT R) = R := by
  apply ext_G (by rw [symS_length, h])
  intro t ht
  rw [symS_length] at ht
  obtain ⟨h1, h2, h3⟩ := gl_sym (R := R) t (by omega)
  have hr : symS (innT R) = (List.range 20).map fun j => gOf (Br.symOf (Br.gl (innT R) (3 * j)) (Br.gl (innT R) (3 * j + 1)) (Br.gl (innT R) (3 * j + 2))).toNat := by
    unfold symS Br.symsOf
    rw [List.map_map]
    rfl
  rw [hr, List.getD_eq_getElem?_getD, List.getElem?_map, List.getElem?_range ht]
  show gOf _ = _
  rw [h1, h2, h3]
  have hlt := (R.getD t 0).lt
  unfold Br.symOf
  rw [if_neg (by omega)]
  refine G.ext ?_
  rw [gOf_n _ (by omega)]
  omega
theorem clr_innT {R : List G} (h : R.length = 20) : clrP (innT R) = [] := by
  unfold clrP
  rw [List.filter_eq_nil_iff]
  intro i hi
  rw [List.mem_range] at hi
  obtain ⟨h1, h2, h3⟩ := gl_sym (R := R) i (by omega)
  have hlt := (R.getD i 0).lt
  unfold Br.unclear
  rw [h1, h2, h3, decide_eq_true_eq]
  omega
theorem digX_wd {d : ByteArray} {R : List G} (h : IsWd d R) (hd : isDg d) : dec (val (digX R)) = 1 :: dg d := by
  obtain ⟨L, hL, hR⟩ := h.ex
  have e : digX R = L := by
    unfold digX symG at *
    rw [hR, List.map_map]
    conv => rhs; rw [← List.map_id L]
    apply List.map_congr_left
    intro x hx
    exact gOf_n _ (hL.dig x hx)
  rw [e, hL.val]
  exact dec_num _ (dg d) rfl (dg_lt hd)
theorem str_dg {d : ByteArray} (hd : isDg d) : strOfNums (pd (dg d)) = d := by
  unfold strOfNums pd dg
  rw [List.map_map, List.map_map]
  have e : d.data.toList.map ((((fun (n : Int) => UInt8.ofNat n.toNat)) ∘ fun (d : Nat) => ((48 + d : Nat) : Int)) ∘ fun b => b.toNat - 48) = d.data.toList := by
    conv => rhs; rw [← List.map_id d.data.toList]
    apply List.map_congr_left
    intro b hb
    have := hd b hb
    show UInt8.ofNat (((48 + (b.toNat - 48) : Nat) : Int)).toNat = b
    rw [Int.toNat_natCast, show 48 + (b.toNat - 48) = b.toNat by omega]
    simp
  rw [e]
/-- A payload's word tells the payload. -/
theorem wd_payload {d d' : ByteArray} {R : List G} (h : IsWd d R) (h' : IsWd d' R) (hd : isDg d) (hd' : isDg d') : d = d' := by
  have h1 := digX_wd h hd
  have h2 := digX_wd h' hd'
  rw [h1] at h2
  have h3 : dg d = dg d' := (List.cons.inj h2).2
  rw [← str_dg hd, ← str_dg hd', h3]
theorem Read_own (d : ByteArray) (R : List G) (w : World) (hp : PW w) (h : IsWd d R) (hd : isDg d) :
    Calls Tryz.prog 20 #[.string (barT R)] w fun e w' => ∃ AE cE A1 c1, e = .returned (.tuple #[.agg #[.string d, .bool false, .slice AE 0 cE, .slice A1 0 c1], .int .i64 0]) ∧ Below w.heap.size w w' := by
  have hn : Near (symS (innT R)) (clrP (innT R)) R := by
    rw [sym_innT h.len, clr_innT h.len]
    exact near_self h.code List.nodup_nil (by decide)
  refine (Read_near (barT R) (innT R) false w hp (barT_size h.len) (barT_unframe h.len) (innT_size h.len) (innT_letters R) R hn (dg d) (digX_wd h hd)).mono ?_
  rintro e w' ⟨AE, cE, A1, c1, rfl, -, -, -, -, hb⟩
  rw [str_dg hd, sym_innT h.len, clr_innT h.len, errL_self]
  exact ⟨AE, cE, A1, c1, rfl, hb⟩
end Go.Proofs.YtajccgmeminlhaaGreatDoor
end
