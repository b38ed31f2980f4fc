/- bars.Write: the letters of symbols. -/
import Derived.Test.YtofheegapiicoaaBarsA
import Derived.BigCall
import Derived.Laws.BitsLemmas
set_option linter.unusedVariables false
set_option linter.unusedSimpArgs false
namespace Go.Proofs.Ytofheegapiicoaa
open Go.RowKit Go.Shelf Go.Proofs.YtofheegapiicoaaW.PrintWords

/-- The letter of a number. -/
def lb (i : Int) : UInt8 := [84, 65, 68, 70, 63].getD i.toNat 0
/-- The letters of symbols. -/
def writeText : List Int → List UInt8
  | [] => []
  | n :: l => lb (n / 16) :: lb (n / 4 % 4) :: lb (n % 4) :: writeText l
theorem writeText_append (a b : List Int) : writeText (a ++ b) = writeText a ++ writeText b := by
  induction a with
  | nil => rfl
  | cons x a ih => simp [writeText, ih]
theorem writeText_length (a : List Int) : (writeText a).length = 3 * a.length := by
  induction a with
  | nil => rfl
  | cons x a ih => simp [writeText, ih]; omega
theorem u8_and3 (x : Int) (h₀ : 0 ≤ x) (h₁ : x < 256) : bits .and .u8 x 3 = x % 4 := bits_mask .u8 8 (by decide) wraps_u8 2 (by decide) x h₀ h₁
theorem lb_at (i : Int) (h0 : 0 ≤ i) (h1 : i < 5) (h : i.toNat < (⟨#[84, 65, 68, 70, 63]⟩ : ByteArray).size) : (((⟨#[84, 65, 68, 70, 63]⟩ : ByteArray)[i.toNat]'h).toNat : Int) = ((lb i).toNat : Int) := by
  obtain ⟨n, rfl⟩ := Int.eq_ofNat_of_zero_le h0
  have : n < 5 := by omega
  match n, this with
  | 0, _ => rfl
  | 1, _ => rfl
  | 2, _ => rfl
  | 3, _ => rfl
  | 4, _ => rfl
theorem take_snoc_rd (l : List Int) (k : Nat) (h : k < l.length) : l.take (k + 1) = l.take k ++ [rd l k] := by
  rw [List.take_succ_eq_append_getElem h]
  simp [rd, List.getD_eq_getElem?_getD, List.getElem?_eq_getElem h]

/-- Whether all symbols fit. -/
def symsOK (l : List Int) : Bool := l.all fun x => decide (x ≤ 63)
theorem rd_mem (l : List Int) (k : Nat) (h : k < l.length) : rd l k ∈ l := by
  have : rd l k = l[k] := by simp [rd, List.getD_eq_getElem?_getD, List.getElem?_eq_getElem h]
  rw [this]
  exact List.getElem_mem h

def writeW (l : List Int) : ByteArray × Int := if l.length > 66 then (⟨#[]⟩, 3) else if symsOK l = true then (⟨(writeText l).toArray⟩, 0) else (⟨#[]⟩, 2)

set_option maxHeartbeats 2000000 in
set_option maxRecDepth 100000 in
theorem write_any (A0 : Option Addr) (c0 : Nat) (l0 : List Int) (w : World) (hr0 : Kd.C (Kd.int .u8) w A0 l0.length l0) (hc0 : l0.length ≤ c0) (hpos : ∀ x ∈ l0, 0 ≤ x) :
    Calls Try.prog 8 #[.slice A0 l0.length c0] w fun e w' => e = .returned (.tuple #[.string (writeW l0).1, .int .i64 (writeW l0).2]) ∧ Below w.heap.size w w' := by
  have HR := Aside0.mk hr0
  have HP := Aside0.mk hpos
  clear hr0 hpos
  by_cases hl : 66 < (l0.length : Int)
  · have hw : writeW l0 = (⟨#[]⟩, 3) := by unfold writeW; rw [if_pos (by omega)]
    rw [hw]
    clear hw
    go_enter Try.func8, Try.ntmps8
    go_wp2
    go_ret2
    exact ⟨rfl, by first | exact Below.refl _ _ | exact (Below.refl _ _).alloc (Nat.le_refl _) _⟩
  · have HW := Aside0.mk (show writeW l0 = if symsOK l0 = true then (⟨(writeText l0).toArray⟩, 0) else (⟨#[]⟩, 2) by unfold writeW; rw [if_neg (by omega)])
    go_enter Try.func8, Try.ntmps8
    go_wp2
    go_loopw [12] (fun i wr => ∃ k : Nat, i = .int .i64 k ∧ k ≤ l0.length ∧ (∀ x ∈ l0.take k, x ≤ 63) ∧ Lib.IsBuilder 42 5 w.heap.size w.heap.size (Lib.byteCells (writeText (l0.take k))) wr ∧ Below w.heap.size w wr) (fun i _ => l0.length - (intOf i).toNat)
    case atStart => exact ⟨0, rfl, Nat.zero_le _, by simp, Lib.fresh_isBuilder _ _ w, (Below.refl _ _).alloc (Nat.le_refl _) _⟩
    case round =>
      obtain ⟨k, rfl, hk, hall, hI, hb⟩ := hrel
      have HA := Aside0.mk hall
      have HI := Aside0.mk hI
      have HB := Aside0.mk hb
      have HS := Aside0.mk hb.size
      clear hall hI hb
      by_cases hp : k < l0.length
      · obtain ⟨ad, rfl, hx⟩ := Kd.at_int HR.out k (by omega) (by omega)
        have hx2 := pw_cell_below HB.out hx
        clear hx
        have hx0 : 0 ≤ rd l0 k := HP.out _ (rd_mem l0 k hp)
        have HT := Aside0.mk (take_snoc_rd l0 k hp)
        have HM := Aside0.mk (rd_mem l0 k hp)
        simp only [Int.toNat_natCast] at hx2
        generalize rd l0 k = x at hx2 hx0 HT HM
        by_cases h63 : 63 < x
        · have hw : Aside0 (writeW l0 = (⟨#[]⟩, 2)) := ⟨by
            rw [HW.out, if_neg]
            intro h
            unfold symsOK at h
            rw [List.all_eq_true] at h
            have := h x HM.out
            simp at this
            omega⟩
          go_wp2
          go_ret2
          exact ⟨by rw [hw.out]; rfl, HB.out⟩
        · have hs1 : 0 ≤ x / 16 := by omega
          have hs2 : x / 16 < 5 := by omega
          have hs3 : 0 ≤ x / 4 := by omega
          have hs4 : x / 4 < 256 := by omega
          have ha1 : bits .and .u8 (x / 4) 3 = x / 4 % 4 := u8_and3 _ (by omega) (by omega)
          have ha2 : bits .and .u8 x 3 = x % 4 := u8_and3 _ (by omega) (by omega)
          have HL : Aside0 ((Lib.byteCells (writeText (l0.take k))).length ≤ 300) := ⟨by rw [Lib.byteCells_length, writeText_length, List.length_take]; omega⟩
          go_wp2_with fail
          rw [lb_at (x / 16) hs1 hs2]
          refine (bWriteByte w.heap.size w.heap.size _ _ _ HI.out (by have := HL.out; omega) HS.out).mono ?_
          rintro e w1 ⟨rfl, hI1, hb1⟩
          replace hI1 := Aside0.mk hI1
          replace hb1 := Aside0.mk hb1
          go_wp2_with fail
          rw [lb_at (x / 4 % 4) (by omega) (by omega)]
          refine (bWriteByte w.heap.size w.heap.size _ _ _ (.inr hI1.out) (by have := HL.out; simp only [List.length_append, List.length_cons, List.length_nil]; omega) (Nat.le_trans HS.out hb1.out.size)).mono ?_
          rintro e w2 ⟨rfl, hI2, hb2⟩
          replace hI2 := Aside0.mk hI2
          replace hb2 := Aside0.mk hb2
          go_wp2_with fail
          rw [lb_at (x % 4) (by omega) (by omega)]
          refine (bWriteByte w.heap.size w.heap.size _ _ _ (.inr hI2.out) (by have := HL.out; simp only [List.length_append, List.length_cons, List.length_nil]; omega) (Nat.le_trans HS.out (Nat.le_trans hb1.out.size hb2.out.size))).mono ?_
          rintro e w3 ⟨rfl, hI3, hb3⟩
          replace hI3 := Aside0.mk hI3
          replace hb3 := Aside0.mk hb3
          go_wp2_with fail
          go_roundw
          case rel =>
            refine ⟨k + 1, by go_num, by omega, ?_, ?_, (HB.out.trans hb1.out).trans (hb2.out.trans hb3.out)⟩
            · rw [HT.out]
              intro y hy
              rcases List.mem_append.1 hy with h | h
              · exact HA.out y h
              · obtain rfl := List.mem_singleton.1 h
                omega
            · rw [HT.out, writeText_append, Lib.byteCells_append]
              have := hI3.out
              refine .inr ?_
              simpa [writeText, Lib.byteCells] using this
          case measure => simp [intOf]; omega
      · obtain rfl : k = l0.length := by omega
        have HA2 := Aside0.mk (show symsOK l0 = true from by
          unfold symsOK
          rw [List.all_eq_true]
          intro y hy
          have := HA.out y (by simpa using hy)
          simpa using this)
        have HW2 := Aside0.mk (show writeW l0 = (⟨(writeText l0).toArray⟩, 0) by rw [HW.out, if_pos HA2.out])
        go_wp2_with fail
        refine (bString w.heap.size w.heap.size _ _ (by have := HI.out; rw [List.take_length] at this; exact this) HS.out).mono ?_
        rintro e w1 ⟨rfl, hb1⟩
        replace hb1 := Aside0.mk hb1
        go_wp2
        go_ret2
        exact ⟨by rw [HW2.out]; rfl, HB.out.trans hb1.out⟩
end Go.Proofs.Ytofheegapiicoaa
