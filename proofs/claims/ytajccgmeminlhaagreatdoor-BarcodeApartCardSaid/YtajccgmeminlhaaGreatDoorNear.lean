/- Decode's answer where a code word is within the bound, and where none is. -/
import Derived.Test.YtajccgmeminlhaaGreatDoorDecs
set_option linter.unusedVariables false
set_option linter.unusedSimpArgs false
namespace Go.Proofs.YtajccgmeminlhaaGreatDoor
open Go.RowKit Go.Shelf Go.Proofs.YtajccgmeminlhaaGreatDoorW.PrintWords Go.Proofs.YtajccgmeminlhaaGreatDoorW.PrintLast Go.Proofs.YtajccgmeminlhaaGreatDoor.Q Go.Proofs.YtajccgmeminlhaaGreatDoor.Gf

theorem dec_eq {l : List G} {P : List Nat} {w : List G} {r : Option (List G × List Int)} (hN : l.length ≤ 63) (hP : P.Nodup) (hPb : ∀ p ∈ P, p < l.length) (h4 : P.length ≤ 4) (hn : Near l P w) (h : DecS l P r) : r = some (w, is (errL l P w)) := by
  cases r with
  | none => exact absurd hn (dec_none hN hP hPb h)
  | some xe =>
    obtain ⟨x, er⟩ := xe
    obtain ⟨g, hg, hgood⟩ := h
    obtain ⟨h1, h2⟩ := dec_some hP hPb h4 hg hgood
    have hx : x = w := (near_unique hN hP hPb h1 hn).symm ▸ rfl
    subst hx
    rw [h2]
theorem Dec_near (A : Option Addr) (c : Nat) (l : List G) (A1 : Option Addr) (c1 : Nat) (P : List Nat) (x : List G) (w : World) (hp : PW w) (hr : Kd.C (Kd.int .u8) w A l.length (ns l)) (hc : l.length ≤ c) (h4 : 4 < l.length) (hn : l.length ≤ 63) (hr1 : Kd.C (Kd.int .i64) w A1 P.length (is P)) (hc1 : P.length ≤ c1) (hn1 : P.length ≤ 4) (hPb : ∀ p ∈ P, p < l.length) (hPd : P.Nodup) (hx : Near l P x) :
    Calls Tryz.prog 45 #[.slice A l.length c, .slice A1 P.length c1] w fun e w' => ∃ g c AE cE, e = .returned (.tuple #[.agg #[.slice (some ⟨g, 0, none⟩) l.length c, .slice AE (errL l P x).length cE], .int .i64 0]) ∧ l.length ≤ c ∧ (errL l P x).length ≤ cE ∧ w.heap.size ≤ g ∧ CRow (Value.int .u8) 0 w' g (ns x) ∧ Kd.C (Kd.int .i64) w' AE (errL l P x).length (is (errL l P x)) ∧ Below w.heap.size w w' := by
  refine (Dec_main A c l A1 c1 P w hp hr hc h4 hn hr1 hc1 hn1 hPb hPd).mono ?_
  rintro e w' ⟨r, hS, hR, hB⟩
  have := dec_eq hn hPd hPb hn1 hx hS
  subst this
  obtain ⟨g, cx, v, rfl, h1, h2, h3, h5⟩ := hR
  obtain ⟨AE, cE, rfl, hcE, hrE⟩ := Kd.R_reads h5.toR
  rw [is_length] at hcE hrE ⊢
  rw [hx.len] at h1 ⊢
  exact ⟨g, cx, AE, cE, rfl, h1, hcE, h2, h3, hrE, hB⟩
def good5 : List G := [gOf 1, gOf 30, gOf 29, gOf 17, gOf 48]
theorem good5_code : Code good5 := by decide +kernel
def bad5 : List G := [gOf 0, gOf 0, gOf 29, gOf 17, gOf 48]
def nine5 : List G := [gOf 9, gOf 9, gOf 9, gOf 9, gOf 48]
def one5 : List G := [gOf 1, gOf 0, gOf 0, gOf 0, gOf 0]
def zero5 : List G := [gOf 0, gOf 0, gOf 0, gOf 0, gOf 0]
theorem near_a : Near bad5 [] good5 := ⟨rfl, good5_code, [0, 1], by decide, by decide, by decide, by
  have h : ∀ q : Fin 5, q.val ∉ [0, 1] → good5.getD q.val 0 = bad5.getD q.val 0 := by decide +kernel
  exact fun q hq _ h2 => h ⟨q, hq⟩ h2⟩
theorem near_b : Near nine5 [0, 1, 2, 3] good5 := ⟨rfl, good5_code, [], by decide, by decide, by decide, by
  have h : ∀ q : Fin 5, q.val ∉ [0, 1, 2, 3] → good5.getD q.val 0 = nine5.getD q.val 0 := by decide +kernel
  exact fun q hq h1 _ => h ⟨q, hq⟩ h1⟩
theorem near_c : Near one5 [] zero5 := ⟨rfl, by decide +kernel, [0], by decide, by decide, by decide, by
  have h : ∀ q : Fin 5, q.val ∉ [0] → zero5.getD q.val 0 = one5.getD q.val 0 := by decide +kernel
  exact fun q hq _ h2 => h ⟨q, hq⟩ h2⟩
theorem err_a : errL bad5 [] good5 = [0, 1] := by decide +kernel
theorem err_b : errL nine5 [0, 1, 2, 3] good5 = [] := by decide +kernel
theorem err_c : errL one5 [] zero5 = [0] := by decide +kernel
theorem syn_d : ns (synL one5) = [16, 12, 5, 19] := by decide +kernel
theorem enc_one {R : List G} (hl : R.length = [gOf 1].length + 4) (ht : R.take [gOf 1].length = [gOf 1]) (hc : Code R) : R = good5 := by
  refine code_apart (a := good5) (P := [1, 2, 3, 4]) (by decide) (by rw [hl]; rfl) good5_code hc (by decide) (by decide) (by decide) fun q hq hm => ?_
  have hq0 : q = 0 := by
    change q < 5 at hq
    simp at hm
    omega
  subst hq0
  have h1 : (R.take 1).getD 0 0 = gOf 1 := by
    change R.take 1 = [gOf 1] at ht
    rw [ht]
    rfl
  have h2 : (R.take 1).getD 0 0 = R.getD 0 0 := by
    rw [List.getD_eq_getElem?_getD, List.getD_eq_getElem?_getD, List.getElem?_take, if_pos (by omega)]
  rw [← h2, h1]
  rfl
theorem same_e : letterbagkit_SameInts.f 70 (is [0, 1]) [0, 1] = some true := by decide +kernel
theorem same_f : letterbagkit_SameInts.f 70 (is [0]) [0] = some true := by decide +kernel
end Go.Proofs.YtajccgmeminlhaaGreatDoor
