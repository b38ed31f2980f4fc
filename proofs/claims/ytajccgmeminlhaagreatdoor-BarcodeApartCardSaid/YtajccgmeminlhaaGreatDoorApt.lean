/- The law BarcodeApart: payloads that differ have bars that differ in at least five symbols. -/
import Derived.Test.YtajccgmeminlhaaGreatDoorExam
set_option linter.unusedVariables false
set_option linter.unusedSimpArgs false
namespace Go.Proofs.YtajccgmeminlhaaGreatDoor
open Go.RowKit Go.Shelf Go.Proofs.YtajccgmeminlhaaGreatDoorW.PrintWords Go.Proofs.YtajccgmeminlhaaGreatDoorW.PrintLast Go.Proofs.YtajccgmeminlhaaGreatDoorW.PrintMore Go.Proofs.YtajccgmeminlhaaGreatDoor.Q Go.Proofs.YtajccgmeminlhaaGreatDoor.Gf Go.Proofs.YtajccgmeminlhaaGreatDoor.Num

/-- The places below i at which two words differ. -/
def dif (a b : List G) (i : Nat) : List Nat := (List.range i).filter fun p => decide (a.getD p 0 ≠ b.getD p 0)
theorem dif_succ (a b : List G) (i : Nat) : (dif a b (i + 1)).length = (dif a b i).length + (if a.getD i 0 = b.getD i 0 then 0 else 1) := by
  unfold dif
  rw [List.range_succ, List.filter_append, List.length_append]
  by_cases h : a.getD i 0 = b.getD i 0
  · rw [if_pos h, List.filter_cons, decide_eq_false (fun hc => hc h)]
    rfl
  · rw [if_neg h, List.filter_cons, decide_eq_true h]
    rfl
theorem dif_le (a b : List G) (i : Nat) : (dif a b i).length ≤ i := by
  unfold dif
  have := List.length_filter_le (fun p => decide (a.getD p 0 ≠ b.getD p 0)) (List.range i)
  rwa [List.length_range] at this
theorem dif_few {a b : List G} (hN : a.length ≤ 63) (hl : b.length = a.length) (ha : Code a) (hb : Code b) (h : (dif a b a.length).length ≤ 4) : b = a :=
  code_apart hN hl ha hb (P := dif a b a.length) (fun p hp => by simp [dif] at hp; exact hp.1) (List.Pairwise.filter _ List.nodup_range) h fun q hq hm => Classical.byContradiction fun hc => hm (by simp [dif]; exact ⟨hq, fun e => hc e.symm⟩)
theorem dif_self (a : List G) (i : Nat) : dif a a i = [] := by
  unfold dif
  rw [List.filter_eq_nil_iff]
  simp
/-- A symbol's three letters. -/
def sym3 (x : Int) : List UInt8 := [Br.lb (x / 16), Br.lb (x / 4 % 4), Br.lb (x % 4)]
theorem writeText_drop : ∀ (S : List Int) (i : Nat), i < S.length → (Br.writeText S).drop (3 * i) = sym3 (S.getD i 0) ++ Br.writeText (S.drop (i + 1))
  | [], i, h => by simp at h
  | x :: S, 0, _ => rfl
  | x :: S, i + 1, h => by
    have := writeText_drop S i (by simpa using h)
    rw [show 3 * (i + 1) = 3 * i + 3 by omega, Br.writeText]
    show (Br.writeText S).drop (3 * i) = _
    rw [this]
    rfl
theorem bar_sym {R : List G} (i : Nat) (hi : i < R.length) : (barT R).extract (2 + 3 * i) (2 + 3 * i + 3) = Br.mkB (sym3 ((R.getD i 0).n : Int)) := by
  unfold barT
  rw [Lib.extract_eq, Br.mkB_data]
  unfold barL
  have e : (65 :: 84 :: (Br.writeText (ns R) ++ [70, 68]) : List UInt8).drop (2 + 3 * i) = sym3 ((R.getD i 0).n : Int) ++ (Br.writeText ((ns R).drop (i + 1)) ++ [70, 68]) := by
    rw [Nat.add_comm 2]
    show (Br.writeText (ns R) ++ [70, 68]).drop (3 * i) = _
    rw [List.drop_append_of_le_length (by rw [Br.writeText_length, ns_length]; omega), writeText_drop _ _ (by rw [ns_length]; exact hi), ns_at, List.append_assoc]
  rw [e]
  rw [show 2 + 3 * i + 3 - (2 + 3 * i) = 3 by omega]
  rfl
theorem sym3_inj {x y : G} (h : sym3 (x.n : Int) = sym3 (y.n : Int)) : x = y := by
  have hx := x.lt
  have hy := y.lt
  have key : ∀ a b : Fin 64, sym3 ((a.val : Nat) : Int) = sym3 ((b.val : Nat) : Int) → a = b := by decide +kernel
  have := key ⟨x.n, hx⟩ ⟨y.n, hy⟩ h
  exact G.ext (by simpa using this)
theorem mkB_inj {a b : List UInt8} (h : Br.mkB a = Br.mkB b) : a = b := by
  have := congrArg (fun s : ByteArray => s.data.toList) h
  exact this
theorem bar_sym_eq {Ra Rd : List G} (ha : Ra.length = 20) (hd : Rd.length = 20) (i : Nat) (hi : i < 20) : (barT Ra).extract (2 + 3 * i) (2 + 3 * i + 3) = (barT Rd).extract (2 + 3 * i) (2 + 3 * i + 3) ↔ Ra.getD i 0 = Rd.getD i 0 := by
  rw [bar_sym i (by omega), bar_sym i (by omega)]
  exact ⟨fun h => sym3_inj (mkB_inj h), fun h => by rw [h]⟩
/-- A payload with zeros ahead. -/
theorem zero_dg {c : ByteArray} (h : isDg c) (hs : c.size < 28) : isDg ((⟨#[48]⟩ : ByteArray) ++ c) ∧ ((⟨#[48]⟩ : ByteArray) ++ c).size ≤ 28 := by
  refine ⟨fun b hb => ?_, by rw [ByteArray.size_append]; show 1 + c.size ≤ 28; omega⟩
  rw [Br.data_append, List.mem_append] at hb
  rcases hb with hb | hb
  · have hb : b ∈ [(48 : UInt8)] := hb
    rw [List.mem_singleton] at hb
    subst hb
    decide
  · exact h b hb
def eS : ByteArray := ⟨#[]⟩
theorem row_step (Rs : List (List G)) (R : List G) (i : Nat) (hl : Rs.length = i) (hi : i < 3) : (Rs.map barT ++ List.replicate (3 - i) eS).set i (barT R) = (Rs ++ [R]).map barT ++ List.replicate (3 - (i + 1)) eS := by
  obtain ⟨k, hk⟩ : ∃ k, 3 - i = k + 1 := ⟨3 - i - 1, by omega⟩
  rw [hk, show 3 - (i + 1) = k by omega, List.replicate_succ, List.set_append_right _ _ (by simp; omega), List.length_map, hl, Nat.sub_self, List.set_cons_zero, List.map_append, List.append_assoc]
  rfl
theorem wrap_three (a b : Nat) (h : b = a + 3) (ha : a ≤ 1000) : wrap64 ((a : Int) + 3) = (b : Int) := by
  subst h
  unfold wrap64
  omega
theorem wrap_one (a b : Nat) (h : b = a + 1) (ha : a ≤ 1000) : wrap64 ((a : Int) + 1) = (b : Int) := by
  subst h
  unfold wrap64
  omega
theorem str_ne {a b : ByteArray} (h : ¬ a = b) : (a.toList == b.toList) = false := by
  rw [beq_eq_false_iff_ne]
  intro e
  rw [Lib.toList_data, Lib.toList_data] at e
  exact h (ByteArray.ext (Array.toList_inj.1 e))
theorem str_eq (a : ByteArray) : (a.toList == a.toList) = true := by simp
theorem list3 {α : Type} (L : List α) (h : L.length = 3) : ∃ a b c, L = [a, b, c] := by
  match L, h with
  | [a, b, c], _ => exact ⟨a, b, c, rfl⟩
theorem info_str : (Tryz.prog.info? 9).map (fun i => (i.zero, i.size, i.bytes)) = some (some (.string ⟨#[]⟩), 1, 16) := by kernel_rfl
attribute [local go_sem] max2_int min2_int max_two min_two max_three min_three
set_option maxHeartbeats 16000000 in
set_option maxRecDepth 1000000 in
theorem apart_any (A0 : Option Addr) (c0 : Nat) (l0 : List Int) (A1 : Option Addr) (c1 : Nat) (l1 : List Int) (z : Int) (w : World) (hp : PW w) (hr0 : Kd.C (Kd.int .u8) w A0 l0.length l0) (hc0 : l0.length ≤ c0) (hp0 : ∀ x ∈ l0, 0 ≤ x ∧ x < 256) (hr1 : Kd.C (Kd.int .u8) w A1 l1.length l1) (hc1 : l1.length ≤ c1) (hp1 : ∀ x ∈ l1, 0 ≤ x ∧ x < 256) (hz0 : 0 ≤ z) (hz1 : z < 256) :
    Calls Tryz.prog 8 #[.slice A0 l0.length c0, .slice A1 l1.length c1, .int .u8 z] w fun e w' => e = .returned (.bool true) ∧ Below w.heap.size w w' := by
  have HP := Aside0.mk hp
  have HDa := Aside0.mk (Digits_any A0 c0 l0 w hr0 hc0 hp0)
  have HDb := Aside0.mk (Digits_any A1 c1 l1 w hr1 hc1 hp1)
  have HGa := Aside0.mk (And.intro (digW_isDg l0) (digW_size l0))
  have HGb := Aside0.mk (And.intro (digW_isDg l1) (digW_size l1))
  clear hr0 hr1 hp0 hp1 hp
  generalize digW l0 = da at HDa HGa
  generalize digW l1 = db at HDb HGb
  obtain ⟨zz, hzz⟩ : ∃ zz : Nat, z % 29 = (zz : Int) := ⟨(z % 29).toNat, by omega⟩
  have hz28 : zz < 29 := by omega
  go_enter Tryz.func8, Tryz.ntmps8
  go_wp2_with fail
  refine HDa.out.mono ?_
  rintro e w1 ⟨rfl, rfl⟩
  go_wp2_with fail
  refine HDb.out.mono ?_
  rintro e w1 ⟨rfl, rfl⟩
  clear HDa HDb
  go_wp2_with fail
  go_loop [9, 28] (fun vc vi => ∃ (k : Nat) (c : ByteArray), k ≤ zz ∧ vi = .int .u8 k ∧ vc = .string c ∧ isDg c ∧ c.size ≤ 28) (fun _ vi => zz - (intOf vi).toNat)
  case atStart => exact ⟨0, da, Nat.zero_le _, rfl, rfl, HGa.out.1, HGa.out.2⟩
  case round =>
    obtain ⟨k, c, hk, rfl, rfl, hcd, hcs⟩ := hrel
    have HCD := Aside0.mk hcd
    clear hcd
    by_cases hkz : k < zz
    · by_cases hc28 : c.size < 28
      · have hci : (c.size : Int) < 28 := by omega
        have HZD := Aside0.mk (zero_dg HCD.out hc28)
        go_wp2_with fail
        go_round
        case rel => exact ⟨k + 1, _, by omega, by go_num, rfl, HZD.out.1, HZD.out.2⟩
        case measure => simp [intOf]; omega
      · have hci : ¬ ((c.size : Int) < 28) := by omega
        go_wp2_with fail
        go_round
        case rel => exact ⟨k + 1, c, by omega, by go_num, rfl, HCD.out, hcs⟩
        case measure => simp [intOf]; omega
    · have hkn : ¬ ((k : Int) < (zz : Int)) := by omega
      have hmk : ∀ W : World, (Instr.makeSlice 71 (.int .i64 3) (.int .i64 3)).run Tryz.prog W = .ok (.slice (some ⟨W.heap.size, 0, none⟩) 3 3) (W.alloc (.cells (madeCells #[.string ⟨#[]⟩] 3) 9)) :=
        fun W => run_make_row' 71 9 (.string ⟨#[]⟩) 16 Tryz.underlying71 info_str rfl .i64 .i64 3 (by omega) (by omega) W
      obtain ⟨wA, hwA⟩ : ∃ wA, w1.alloc (.cells (madeCells #[.string ⟨#[]⟩] 3) 9) = wA := ⟨_, rfl⟩
      obtain ⟨wB, hwB⟩ : ∃ wB, wA.alloc (.cells #[.string da, .string db, .string c] 9) = wB := ⟨_, rfl⟩
      have hbA : Below w1.heap.size w1 wA := by rw [← hwA]; exact below_al w1 _
      have hbB : Below wA.heap.size wA wB := by rw [← hwB]; exact below_al wA _
      have hsA : wA.heap.size = w1.heap.size + 1 := by rw [← hwA]; simp
      have hRT : CRow Value.string eS wA w1.heap.size (List.replicate 3 eS) := by rw [← hwA]; exact CRow.made Value.string eS w1 _ 3
      have hRL : CRow Value.string eS wB (w1.heap.size + 1) [da, db, c] := by rw [← hwB, ← hsA]; exact CRow.lit' Value.string eS wA _ [da, db, c] _ rfl
      have HRT := Aside0.mk (hRT.below hbB)
      have HRL := Aside0.mk hRL
      have HBB := Aside0.mk (hbA.trans (hbB.mono hbA.size))
      have HWA := Aside0.mk hwA
      have HWB := Aside0.mk hwB
      have HDD := Aside0.mk (show ∀ j, j < 3 → isDg ([da, db, c].getD j eS) ∧ ([da, db, c].getD j eS).size ≤ 28 from fun j hj => by
        match j, hj with
        | 0, _ => exact HGa.out
        | 1, _ => exact HGb.out
        | 2, _ => exact ⟨HCD.out, hcs⟩)
      obtain ⟨gt, hgt⟩ : ∃ gt, gt = w1.heap.size := ⟨_, rfl⟩
      have HGT := Aside0.mk hgt
      clear hbA hbB hsA hRT hRL hwA hwB
      go_wp2_with fail
      rw [HWA.out, HWB.out, ← hgt]
      rw [← hgt] at HRT HRL
      clear hgt hmk
      go_loopw [42] (fun vi wr => ∃ (i : Nat) (Rs : List (List G)), i ≤ 3 ∧ vi = .int .i64 i ∧ Rs.length = i ∧ (∀ j, j < i → IsWd ([da, db, c].getD j eS) (Rs.getD j [])) ∧ CRow Value.string eS wr gt (Rs.map barT ++ List.replicate (3 - i) eS) ∧ CRow Value.string eS wr (gt + 1) [da, db, c] ∧ Below w1.heap.size w1 wr) (fun vi _ => 3 - (intOf vi).toNat)
      case atStart => exact ⟨0, [], Nat.zero_le _, rfl, rfl, fun j hj => absurd hj (Nat.not_lt_zero _), HRT.out, HRL.out, HBB.out⟩
      case round =>
        obtain ⟨i, Rs, hi, rfl, hRs, hwd, hrt, hrl, hb⟩ := hrel
        by_cases hi3 : i < 3
        · have hcl := hrl.cell i (by simpa using hi3)
          obtain ⟨hdg, hds⟩ := HDD.out i hi3
          have HI1 := Aside0.mk (fun (R : List G) => row_step Rs R i hRs hi3)
          have HWD := Aside0.mk hwd
          have HRT1 := Aside0.mk hrt
          have HRL1 := Aside0.mk hrl
          have HBR := Aside0.mk hb
          have HRS := Aside0.mk hRs
          generalize hd : [da, db, c].getD i eS = d at hcl hdg hds
          have HDI := Aside0.mk hd
          have HDG := Aside0.mk hdg
          have HWR := Aside0.mk (Write_ok d wr (HP.out.below hb) hds hdg)
          have hbi : (0 : Int) ≤ (i : Int) ∧ (i : Int) < 3 := by omega
          clear hd hdg hds hwd hrt hrl hb hRs
          go_wp2_with fail
          refine HWR.out.mono ?_
          rintro e w2 ⟨R, hR, rfl, hb2⟩
          have HR := Aside0.mk hR
          have HRD := Aside0.mk (Read_own d R w2 (HP.out.below (HBR.out.trans (hb2.mono HBR.out.size))) hR HDG.out)
          have HB2 := Aside0.mk hb2
          have hsz : ((barT R).size : Int) = 64 := by rw [barT_size hR.len]; rfl
          clear hR hb2 HWR
          go_wp2_with fail
          refine HRD.out.mono ?_
          rintro e w3 ⟨AE, cE, A1', c1', rfl, hb3⟩
          obtain ⟨w4, hw4⟩ : ∃ w4, w3.alloc (.cells #[.string d, .bool false, .slice AE 0 cE, .slice A1' 0 c1'] 31) = w4 := ⟨_, rfl⟩
          have hb4 : Below w3.heap.size w3 w4 := by rw [← hw4]; exact below_al w3 _
          have hx := heap_alloc_new w3 (.cells #[.string d, .bool false, .slice AE 0 cE, .slice A1' 0 c1'] 31)
          have x0 : (w3.alloc (.cells #[.string d, .bool false, .slice AE 0 cE, .slice A1' 0 c1'] 31)).cell? ⟨w3.heap.size, 0, none⟩ = some (.string d) := by unfold World.cell?; rw [hx]; simp
          have x1 : (w3.alloc (.cells #[.string d, .bool false, .slice AE 0 cE, .slice A1' 0 c1'] 31)).cell? ⟨w3.heap.size, 1, none⟩ = some (.bool false) := by unfold World.cell?; rw [hx]; simp
          have x2 : (w3.alloc (.cells #[.string d, .bool false, .slice AE 0 cE, .slice A1' 0 c1'] 31)).cell? ⟨w3.heap.size, 2, none⟩ = some (.slice AE 0 cE) := by unfold World.cell?; rw [hx]; simp
          have x3 : (w3.alloc (.cells #[.string d, .bool false, .slice AE 0 cE, .slice A1' 0 c1'] 31)).cell? ⟨w3.heap.size, 3, none⟩ = some (.slice A1' 0 c1') := by unfold World.cell?; rw [hx]; simp
          have hb24 := HB2.out.trans ((hb3.trans (hb4.mono hb3.size)).mono HB2.out.size)
          have hrt4 := HRT1.out.below hb24
          have hlen : (Rs.map barT ++ List.replicate (3 - i) eS).length = 3 := by rw [List.length_append, List.length_map, HRS.out, List.length_replicate]; omega
          have hct := hrt4.cell i (by rw [hlen]; exact hi3)
          have hft := hrt4.free i (by rw [hlen]; exact hi3)
          have hset := hrt4.set i (by rw [hlen]; exact hi3) (barT R)
          rw [HI1.out R] at hset
          have HSET := Aside0.mk hset
          have HLO := Aside0.mk ((HRL1.out.below hb24).other gt i (.string (barT R)) (by omega))
          have HB4 := Aside0.mk ((HBR.out.trans (hb24.mono HBR.out.size)).setCell (p := ⟨gt, i, none⟩) (by rw [HGT.out]; exact Nat.le_refl _) (.string (barT R)))
          have HW4 := Aside0.mk hw4
          rw [← hw4] at hct hft
          generalize (Rs.map barT ++ List.replicate (3 - i) eS).getD i eS = old at hct
          clear hw4 hb4 hx hb3 hb24 hrt4 hset hlen HRD
          go_wp2_with fail
          rw [HW4.out]
          go_roundw
          case rel =>
            refine ⟨i + 1, Rs ++ [R], by omega, by go_num, by rw [List.length_append, HRS.out]; rfl, fun j hj => ?_, HSET.out, HLO.out, HB4.out⟩
            rcases Nat.lt_or_ge j i with h | h
            · rw [show (Rs ++ [R]).getD j [] = Rs.getD j [] by rw [List.getD_eq_getElem?_getD, List.getElem?_append_left (by rw [HRS.out]; exact h), List.getD_eq_getElem?_getD]]
              exact HWD.out j h
            · obtain rfl : j = i := by omega
              rw [HDI.out, show (Rs ++ [R]).getD j [] = R by rw [List.getD_eq_getElem?_getD, List.getElem?_append_right (by rw [HRS.out]; exact Nat.le_refl _), HRS.out, Nat.sub_self]; rfl]
              exact HR.out
          case measure => simp [intOf]; omega
        · obtain rfl : i = 3 := by omega
          obtain ⟨Ra, Rb, Rc, rfl⟩ := list3 Rs hRs
          have hrt3 : CRow Value.string eS wr gt [barT Ra, barT Rb, barT Rc] := hrt
          have HWa := Aside0.mk (show IsWd da Ra from hwd 0 (by decide))
          have HWb := Aside0.mk (show ∀ j, j < 2 → IsWd ([db, c].getD j eS) ([Rb, Rc].getD j []) from fun j hj => by
            match j, hj with
            | 0, _ => exact hwd 1 (by decide)
            | 1, _ => exact hwd 2 (by decide))
          have HDb := Aside0.mk (show ∀ j, j < 2 → isDg ([db, c].getD j eS) from fun j hj => by
            match j, hj with
            | 0, _ => exact (HDD.out 1 (by decide)).1
            | 1, _ => exact (HDD.out 2 (by decide)).1)
          have HDa := Aside0.mk (show isDg da from (HDD.out 0 (by decide)).1)
          obtain ⟨wL, hwL⟩ : ∃ wL, wr.alloc (.cells #[.string db, .string c] 9) = wL := ⟨_, rfl⟩
          have hbL : Below wr.heap.size wr wL := by rw [← hwL]; exact below_al wr _
          have hRM : CRow Value.string eS wL wr.heap.size [db, c] := by rw [← hwL]; exact CRow.lit' Value.string eS wr _ [db, c] _ rfl
          have HRM := Aside0.mk hRM
          have HRT3 := Aside0.mk (hrt3.below hbL)
          have HBL := Aside0.mk (hb.trans (hbL.mono hb.size))
          have HWL := Aside0.mk hwL
          obtain ⟨gm, hgm⟩ : ∃ gm, gm = wr.heap.size := ⟨_, rfl⟩
          rw [← hgm] at HRM
          have HGM := Aside0.mk hgm
          clear hrt hrt3 hrl hwd hb hwL hbL hRM hgm hRs
          go_wp2_with fail
          rw [HWL.out, ← HGM.out]
          go_loopw [97] (fun vi wq => ∃ j : Nat, j ≤ 2 ∧ vi = .int .i64 j ∧ Below wL.heap.size wL wq) (fun vi _ => 2 - (intOf vi).toNat)
          case atStart => exact ⟨0, Nat.zero_le _, rfl, Below.refl _ _⟩
          case round =>
            obtain ⟨j, hj, rfl, hb⟩ := hrel
            by_cases hj2 : j < 2
            · have hcm := (HRM.out.below hb).cell j (by simpa using hj2)
              have HWd := Aside0.mk (HWb.out j hj2)
              have HDd := Aside0.mk (HDb.out j hj2)
              have HCD2 := Aside0.mk (show [barT Ra, barT Rb, barT Rc].getD (j + 1) eS = barT ([Rb, Rc].getD j []) by
                match j, hj2 with
                | 0, _ => rfl
                | 1, _ => rfl)
              generalize [db, c].getD j eS = d at hcm HWd HDd
              generalize [Rb, Rc].getD j [] = Rd at HWd HCD2
              have HBJ := Aside0.mk hb
              have hbj : (0 : Int) ≤ (j : Int) ∧ (j : Int) < 2 := by omega
              clear hb
              go_wp2_with fail
              go_loopw [19, 20] (fun vn vk wq => ∃ p : Nat, p ≤ 20 ∧ vk = .int .i64 ((2 + 3 * p : Nat) : Int) ∧ vn = .int .i64 ((dif Ra Rd p).length : Nat) ∧ Below wL.heap.size wL wq) (fun _ vk _ => 62 - (intOf vk).toNat)
              case atStart => exact ⟨0, Nat.zero_le _, rfl, rfl, HBJ.out⟩
              case round =>
                obtain ⟨p, hp, rfl, rfl, hb⟩ := hrel
                have HBP := Aside0.mk hb.drew
                have HBP0 := Aside0.mk hb
                have HDS := Aside0.mk (dif_succ Ra Rd p)
                have hdl := dif_le Ra Rd p
                by_cases hp20 : p < 20
                · have hc1 := (HRT3.out.below hb.drew).cell 0 (show 0 < 3 by decide)
                  have hc2' := (HRT3.out.below hb.drew).cell (j + 1) (show j + 1 < 3 by omega)
                  rw [HCD2.out] at hc2'
                  replace hc1 : wr.drew.cell? ⟨gt, 0, none⟩ = some (.string (barT Ra)) := hc1
                  obtain ⟨kk, hkk⟩ : ∃ kk, kk = 2 + 3 * p := ⟨_, rfl⟩
                  obtain ⟨k3, hk3⟩ : ∃ k3, k3 = 2 + 3 * p + 3 := ⟨_, rfl⟩
                  obtain ⟨j1, hj1⟩ : ∃ j1, j1 = j + 1 := ⟨_, rfl⟩
                  have hs1 : ∀ W : World, (Instr.slice 9 (.string (barT Ra)) (some (.int .i64 (kk : Int))) (some (.int .i64 (k3 : Int))) none).run Tryz.prog W = .ok (.string ((barT Ra).extract kk k3)) W := fun W => slice_str _ _ (barT Ra) (by omega) (by rw [barT_size HWa.out.len]; omega) W
                  have hs2 : ∀ W : World, (Instr.slice 9 (.string (barT Rd)) (some (.int .i64 (kk : Int))) (some (.int .i64 (k3 : Int))) none).run Tryz.prog W = .ok (.string ((barT Rd).extract kk k3)) W := fun W => slice_str _ _ (barT Rd) (by omega) (by rw [barT_size HWd.out.len]; omega) W
                  have heq := bar_sym_eq HWa.out.len HWd.out.len p hp20
                  rw [← hk3, ← hkk] at heq
                  generalize (barT Ra).extract kk k3 = ea at hs1 heq
                  generalize (barT Rd).extract kk k3 = eb at hs2 heq
                  have hbj1 : (0 : Int) ≤ (j1 : Int) ∧ (j1 : Int) < 3 := by omega
                  have hk62 : (kk : Int) < 62 := by omega
                  have hkn : kk ≤ 1000 := by omega
                  have hw1 := wrap_three kk k3 (by rw [hk3, hkk]) hkn
                  have hw2 := wrap_one j j1 hj1 (Nat.le_trans (Nat.le_of_lt hj2) (by decide))
                  rw [← hj1] at hc2'
                  rw [← hkk]
                  have HKK := Aside0.mk hkk
                  have HK3 := Aside0.mk hk3
                  clear hb hkk hk3 hj1
                  by_cases hab : ea = eb
                  · rw [if_pos (heq.1 hab)] at HDS
                    subst hab
                    clear heq
                    go_wp2_with fail
                    refine start_ (n := 17) (S := fun w' => w'.cell? ⟨gt, 0, none⟩ = some (.string (barT Ra)) ∧ w'.cell? ⟨gt, j1, none⟩ = some (.string (barT Rd))) (ds := []) #[false, false, false, false, false, false, false, false, false, false, false, false, false, false, false, false, false] (by kernel_rfl) rfl rfl ⟨hc1, hc2'⟩ (fun hHeld => ?_)
                    refine pure_ (i := 0) (N := some 106) (v := ?_) (a' := ?_) #[true, false, false, false, false, false, false, false, false, false, false, false, false, false, false, false, false] rfl rfl (by kernel_rfl) (fun _ _ _ h => h) (Or.inl ⟨by rfl, ?_⟩) ?_ ?_
                    rotate_left
                    · intro w'
                      go_simp
                      with_reducible rfl
                    rotate_left
                    · simp only [Act.put, List.setIfInBounds_toArray, List.set_cons_zero, List.set_cons_succ, i64_w, i32_w]
                      rfl
                    refine pure_ (i := 1) (N := some 107) (v := ?_) (a' := ?_) #[true, true, false, false, false, false, false, false, false, false, false, false, false, false, false, false, false] rfl rfl (by kernel_rfl) (fun _ _ _ h => h) (Or.inl ⟨by rfl, ?_⟩) ?_ ?_
                    rotate_left
                    · intro w'
                      go_simp
                      with_reducible rfl
                    rotate_left
                    · simp only [Act.put, List.setIfInBounds_toArray, List.set_cons_zero, List.set_cons_succ, i64_w, i32_w]
                      rfl
                    refine pure_ (i := 3) (N := some 109) (v := ?_) (a' := ?_) #[true, true, false, true, false, false, false, false, false, false, false, false, false, false, false, false, false] rfl rfl (by kernel_rfl) (fun _ _ _ h => h) (Or.inl ⟨by rfl, ?_⟩) ?_ ?_
                    rotate_left
                    · intro w'
                      go_simp
                      with_reducible rfl
                    rotate_left
                    · simp only [Act.put, List.setIfInBounds_toArray, List.set_cons_zero, List.set_cons_succ, i64_w, i32_w]
                      rfl
                    refine pure_ (i := 4) (N := some 110) (v := ?_) (a' := ?_) #[true, true, false, true, true, false, false, false, false, false, false, false, false, false, false, false, false] rfl rfl (by kernel_rfl) (fun _ _ _ h => h) (Or.inl ⟨by rfl, ?_⟩) ?_ ?_
                    rotate_left
                    · intro w'
                      go_simp
                      with_reducible rfl
                    rotate_left
                    · simp only [Act.put, List.setIfInBounds_toArray, List.set_cons_zero, List.set_cons_succ, i64_w, i32_w]
                      rfl
                    refine pure_ (i := 5) (N := some 111) (v := ?_) (a' := ?_) #[true, true, false, true, true, true, false, false, false, false, false, false, false, false, false, false, false] rfl rfl (by kernel_rfl) (fun _ _ _ h => h) (Or.inl ⟨by rfl, ?_⟩) ?_ ?_
                    rotate_left
                    · intro w'
                      go_simp
                      with_reducible rfl
                    rotate_left
                    · simp only [Act.put, List.setIfInBounds_toArray, List.set_cons_zero, List.set_cons_succ, i64_w, i32_w]
                      rfl
                    refine pure_ (i := 7) (N := some 113) (v := ?_) (a' := ?_) #[true, true, false, true, true, true, false, true, false, false, false, false, false, false, false, false, false] rfl rfl (by kernel_rfl) (fun _ _ _ h => h) (Or.inl ⟨by rfl, ?_⟩) ?_ ?_
                    rotate_left
                    · intro w'
                      go_simp
                      with_reducible rfl
                    rotate_left
                    · simp only [Act.put, List.setIfInBounds_toArray, List.set_cons_zero, List.set_cons_succ, i64_w, i32_w]
                      rfl
                    refine pure_ (i := 8) (N := some 114) (v := ?_) (a' := ?_) #[true, true, false, true, true, true, false, true, true, false, false, false, false, false, false, false, false] rfl rfl (by kernel_rfl) (fun _ _ _ h => h) (Or.inl ⟨by rfl, ?_⟩) ?_ ?_
                    rotate_left
                    · intro w'
                      go_simp
                      with_reducible rfl
                    rotate_left
                    · simp only [Act.put, List.setIfInBounds_toArray, List.set_cons_zero, List.set_cons_succ, i64_w, i32_w]
                      rfl
                    refine pure_ (i := 9) (N := some 115) (v := ?_) (a' := ?_) #[true, true, false, true, true, true, false, true, true, true, false, false, false, false, false, false, false] rfl rfl (by kernel_rfl) (fun _ _ _ h => h) (Or.inl ⟨by rfl, ?_⟩) ?_ ?_
                    rotate_left
                    · intro w'
                      go_simp
                      with_reducible rfl
                    rotate_left
                    · simp only [Act.put, List.setIfInBounds_toArray, List.set_cons_zero, List.set_cons_succ, i64_w, i32_w]
                      rfl
                    refine pure_ (i := 10) (N := some 116) (v := ?_) (a' := ?_) #[true, true, false, true, true, true, false, true, true, true, true, false, false, false, false, false, false] rfl rfl (by kernel_rfl) (fun _ _ _ h => h) (Or.inl ⟨by rfl, ?_⟩) ?_ ?_
                    rotate_left
                    · intro w'
                      go_simp
                      with_reducible rfl
                    rotate_left
                    · simp only [Act.put, List.setIfInBounds_toArray, List.set_cons_zero, List.set_cons_succ, i64_w, i32_w]
                      rfl
                    refine pure_ (i := 12) (N := some 118) (v := ?_) (a' := ?_) #[true, true, false, true, true, true, false, true, true, true, true, false, true, false, false, false, false] rfl rfl (by kernel_rfl) (fun _ _ _ h => h) (Or.inl ⟨by rfl, ?_⟩) ?_ ?_
                    rotate_left
                    · intro w'
                      go_simp
                      with_reducible rfl
                    rotate_left
                    · simp only [Act.put, List.setIfInBounds_toArray, List.set_cons_zero, List.set_cons_succ, i64_w, i32_w]
                      rfl
                    refine pure_ (i := 13) (N := some 119) (v := ?_) (a' := ?_) #[true, true, false, true, true, true, false, true, true, true, true, false, true, true, false, false, false] rfl rfl (by kernel_rfl) (fun _ _ _ h => h) (Or.inl ⟨by rfl, ?_⟩) ?_ ?_
                    rotate_left
                    · intro w'
                      go_simp
                      with_reducible rfl
                    rotate_left
                    · simp only [Act.put, List.setIfInBounds_toArray, List.set_cons_zero, List.set_cons_succ, i64_w, i32_w]
                      rfl
                    refine pure_ (i := 14) (N := some 120) (v := ?_) (a' := ?_) #[true, true, false, true, true, true, false, true, true, true, true, false, true, true, true, false, false] rfl rfl (by kernel_rfl) (fun _ _ _ h => h) (Or.inl ⟨by rfl, ?_⟩) ?_ ?_
                    rotate_left
                    · intro w'
                      go_simp
                      with_reducible rfl
                    rotate_left
                    · simp only [Act.put, List.setIfInBounds_toArray, List.set_cons_zero, List.set_cons_succ, i64_w, i32_w]
                      rfl
                    refine take_ (i := 2) (N := some 108) (v := ?_) (a' := ?_) #[true, true, true, true, true, true, false, true, true, true, true, false, true, true, true, false, false] rfl rfl (by kernel_rfl) (fun _ _ _ h => h) (Or.inl ⟨by rfl, ?_⟩) hHeld ?_ ?_
                    rotate_left
                    · rintro w' ⟨s0, s1⟩
                      go_simp
                      with_reducible rfl
                    rotate_left
                    · simp only [Act.put, List.setIfInBounds_toArray, List.set_cons_zero, List.set_cons_succ, i64_w, i32_w]
                      rfl
                    refine pure_ (i := 6) (N := some 112) (v := ?_) (a' := ?_) #[true, true, true, true, true, true, true, true, true, true, true, false, true, true, true, false, false] rfl rfl (by kernel_rfl) (fun _ _ _ h => h) (Or.inl ⟨by rfl, ?_⟩) ?_ ?_
                    rotate_left
                    · intro w'
                      go_simp
                      with_reducible rfl
                    rotate_left
                    · simp only [Act.put, List.setIfInBounds_toArray, List.set_cons_zero, List.set_cons_succ, i64_w, i32_w]
                      rfl
                    refine take_ (i := 11) (N := some 117) (v := ?_) (a' := ?_) #[true, true, true, true, true, true, true, true, true, true, true, true, true, true, true, false, false] rfl rfl (by kernel_rfl) (fun _ _ _ h => h) (Or.inl ⟨by rfl, ?_⟩) hHeld ?_ ?_
                    rotate_left
                    · rintro w' ⟨s0, s1⟩
                      go_simp
                      with_reducible rfl
                    rotate_left
                    · simp only [Act.put, List.setIfInBounds_toArray, List.set_cons_zero, List.set_cons_succ, i64_w, i32_w]
                      rfl
                    refine pure_ (i := 15) (N := some 121) (v := ?_) (a' := ?_) #[true, true, true, true, true, true, true, true, true, true, true, true, true, true, true, true, false] rfl rfl (by kernel_rfl) (fun _ _ _ h => h) (Or.inl ⟨by rfl, ?_⟩) ?_ ?_
                    rotate_left
                    · intro w'
                      go_simp
                      with_reducible rfl
                    rotate_left
                    · simp only [Act.put, List.setIfInBounds_toArray, List.set_cons_zero, List.set_cons_succ, i64_w, i32_w]
                      rfl
                    refine pure_ (i := 16) (N := some 122) (v := ?_) (a' := ?_) #[true, true, true, true, true, true, true, true, true, true, true, true, true, true, true, true, true] rfl rfl (by kernel_rfl) (fun _ _ _ h => h) (Or.inl ⟨by rfl, ?_⟩) ?_ ?_
                    rotate_left
                    · intro w'
                      go_simp
                      with_reducible rfl
                    rotate_left
                    · simp only [Act.put, List.setIfInBounds_toArray, List.set_cons_zero, List.set_cons_succ, i64_w, i32_w]
                      rfl
                    refine done_ (by kernel_rfl) ?_
                    go_wp2_with fail
                    go_roundw
                    case rel => exact ⟨p + 1, by omega, by have := HKK.out; have := HK3.out; congr 1; omega, by rw [HDS.out]; rfl, HBP.out⟩
                    case measure => simp only [intOf]; have := HKK.out; have := HK3.out; omega
                  · rw [if_neg (fun h => hab (heq.2 h))] at HDS
                    have hne := str_ne hab
                    clear heq hab
                    generalize (dif Ra Rd p).length = dn at HDS hdl ⊢
                    go_wp2_with fail
                    refine start_ (n := 17) (S := fun w' => w'.cell? ⟨gt, 0, none⟩ = some (.string (barT Ra)) ∧ w'.cell? ⟨gt, j1, none⟩ = some (.string (barT Rd))) (ds := []) #[false, false, false, false, false, false, false, false, false, false, false, false, false, false, false, false, false] (by kernel_rfl) rfl rfl ⟨hc1, hc2'⟩ (fun hHeld => ?_)
                    refine pure_ (i := 0) (N := some 106) (v := ?_) (a' := ?_) #[true, false, false, false, false, false, false, false, false, false, false, false, false, false, false, false, false] rfl rfl (by kernel_rfl) (fun _ _ _ h => h) (Or.inl ⟨by rfl, ?_⟩) ?_ ?_
                    rotate_left
                    · intro w'
                      go_simp
                      with_reducible rfl
                    rotate_left
                    · simp only [Act.put, List.setIfInBounds_toArray, List.set_cons_zero, List.set_cons_succ, i64_w, i32_w]
                      rfl
                    refine pure_ (i := 1) (N := some 107) (v := ?_) (a' := ?_) #[true, true, false, false, false, false, false, false, false, false, false, false, false, false, false, false, false] rfl rfl (by kernel_rfl) (fun _ _ _ h => h) (Or.inl ⟨by rfl, ?_⟩) ?_ ?_
                    rotate_left
                    · intro w'
                      go_simp
                      with_reducible rfl
                    rotate_left
                    · simp only [Act.put, List.setIfInBounds_toArray, List.set_cons_zero, List.set_cons_succ, i64_w, i32_w]
                      rfl
                    refine pure_ (i := 3) (N := some 109) (v := ?_) (a' := ?_) #[true, true, false, true, false, false, false, false, false, false, false, false, false, false, false, false, false] rfl rfl (by kernel_rfl) (fun _ _ _ h => h) (Or.inl ⟨by rfl, ?_⟩) ?_ ?_
                    rotate_left
                    · intro w'
                      go_simp
                      with_reducible rfl
                    rotate_left
                    · simp only [Act.put, List.setIfInBounds_toArray, List.set_cons_zero, List.set_cons_succ, i64_w, i32_w]
                      rfl
                    refine pure_ (i := 4) (N := some 110) (v := ?_) (a' := ?_) #[true, true, false, true, true, false, false, false, false, false, false, false, false, false, false, false, false] rfl rfl (by kernel_rfl) (fun _ _ _ h => h) (Or.inl ⟨by rfl, ?_⟩) ?_ ?_
                    rotate_left
                    · intro w'
                      go_simp
                      with_reducible rfl
                    rotate_left
                    · simp only [Act.put, List.setIfInBounds_toArray, List.set_cons_zero, List.set_cons_succ, i64_w, i32_w]
                      rfl
                    refine pure_ (i := 5) (N := some 111) (v := ?_) (a' := ?_) #[true, true, false, true, true, true, false, false, false, false, false, false, false, false, false, false, false] rfl rfl (by kernel_rfl) (fun _ _ _ h => h) (Or.inl ⟨by rfl, ?_⟩) ?_ ?_
                    rotate_left
                    · intro w'
                      go_simp
                      with_reducible rfl
                    rotate_left
                    · simp only [Act.put, List.setIfInBounds_toArray, List.set_cons_zero, List.set_cons_succ, i64_w, i32_w]
                      rfl
                    refine pure_ (i := 7) (N := some 113) (v := ?_) (a' := ?_) #[true, true, false, true, true, true, false, true, false, false, false, false, false, false, false, false, false] rfl rfl (by kernel_rfl) (fun _ _ _ h => h) (Or.inl ⟨by rfl, ?_⟩) ?_ ?_
                    rotate_left
                    · intro w'
                      go_simp
                      with_reducible rfl
                    rotate_left
                    · simp only [Act.put, List.setIfInBounds_toArray, List.set_cons_zero, List.set_cons_succ, i64_w, i32_w]
                      rfl
                    refine pure_ (i := 8) (N := some 114) (v := ?_) (a' := ?_) #[true, true, false, true, true, true, false, true, true, false, false, false, false, false, false, false, false] rfl rfl (by kernel_rfl) (fun _ _ _ h => h) (Or.inl ⟨by rfl, ?_⟩) ?_ ?_
                    rotate_left
                    · intro w'
                      go_simp
                      with_reducible rfl
                    rotate_left
                    · simp only [Act.put, List.setIfInBounds_toArray, List.set_cons_zero, List.set_cons_succ, i64_w, i32_w]
                      rfl
                    refine pure_ (i := 9) (N := some 115) (v := ?_) (a' := ?_) #[true, true, false, true, true, true, false, true, true, true, false, false, false, false, false, false, false] rfl rfl (by kernel_rfl) (fun _ _ _ h => h) (Or.inl ⟨by rfl, ?_⟩) ?_ ?_
                    rotate_left
                    · intro w'
                      go_simp
                      with_reducible rfl
                    rotate_left
                    · simp only [Act.put, List.setIfInBounds_toArray, List.set_cons_zero, List.set_cons_succ, i64_w, i32_w]
                      rfl
                    refine pure_ (i := 10) (N := some 116) (v := ?_) (a' := ?_) #[true, true, false, true, true, true, false, true, true, true, true, false, false, false, false, false, false] rfl rfl (by kernel_rfl) (fun _ _ _ h => h) (Or.inl ⟨by rfl, ?_⟩) ?_ ?_
                    rotate_left
                    · intro w'
                      go_simp
                      with_reducible rfl
                    rotate_left
                    · simp only [Act.put, List.setIfInBounds_toArray, List.set_cons_zero, List.set_cons_succ, i64_w, i32_w]
                      rfl
                    refine pure_ (i := 12) (N := some 118) (v := ?_) (a' := ?_) #[true, true, false, true, true, true, false, true, true, true, true, false, true, false, false, false, false] rfl rfl (by kernel_rfl) (fun _ _ _ h => h) (Or.inl ⟨by rfl, ?_⟩) ?_ ?_
                    rotate_left
                    · intro w'
                      go_simp
                      with_reducible rfl
                    rotate_left
                    · simp only [Act.put, List.setIfInBounds_toArray, List.set_cons_zero, List.set_cons_succ, i64_w, i32_w]
                      rfl
                    refine pure_ (i := 13) (N := some 119) (v := ?_) (a' := ?_) #[true, true, false, true, true, true, false, true, true, true, true, false, true, true, false, false, false] rfl rfl (by kernel_rfl) (fun _ _ _ h => h) (Or.inl ⟨by rfl, ?_⟩) ?_ ?_
                    rotate_left
                    · intro w'
                      go_simp
                      with_reducible rfl
                    rotate_left
                    · simp only [Act.put, List.setIfInBounds_toArray, List.set_cons_zero, List.set_cons_succ, i64_w, i32_w]
                      rfl
                    refine pure_ (i := 14) (N := some 120) (v := ?_) (a' := ?_) #[true, true, false, true, true, true, false, true, true, true, true, false, true, true, true, false, false] rfl rfl (by kernel_rfl) (fun _ _ _ h => h) (Or.inl ⟨by rfl, ?_⟩) ?_ ?_
                    rotate_left
                    · intro w'
                      go_simp
                      with_reducible rfl
                    rotate_left
                    · simp only [Act.put, List.setIfInBounds_toArray, List.set_cons_zero, List.set_cons_succ, i64_w, i32_w]
                      rfl
                    refine take_ (i := 2) (N := some 108) (v := ?_) (a' := ?_) #[true, true, true, true, true, true, false, true, true, true, true, false, true, true, true, false, false] rfl rfl (by kernel_rfl) (fun _ _ _ h => h) (Or.inl ⟨by rfl, ?_⟩) hHeld ?_ ?_
                    rotate_left
                    · rintro w' ⟨s0, s1⟩
                      go_simp
                      with_reducible rfl
                    rotate_left
                    · simp only [Act.put, List.setIfInBounds_toArray, List.set_cons_zero, List.set_cons_succ, i64_w, i32_w]
                      rfl
                    refine pure_ (i := 6) (N := some 112) (v := ?_) (a' := ?_) #[true, true, true, true, true, true, true, true, true, true, true, false, true, true, true, false, false] rfl rfl (by kernel_rfl) (fun _ _ _ h => h) (Or.inl ⟨by rfl, ?_⟩) ?_ ?_
                    rotate_left
                    · intro w'
                      go_simp
                      with_reducible rfl
                    rotate_left
                    · simp only [Act.put, List.setIfInBounds_toArray, List.set_cons_zero, List.set_cons_succ, i64_w, i32_w]
                      rfl
                    refine take_ (i := 11) (N := some 117) (v := ?_) (a' := ?_) #[true, true, true, true, true, true, true, true, true, true, true, true, true, true, true, false, false] rfl rfl (by kernel_rfl) (fun _ _ _ h => h) (Or.inl ⟨by rfl, ?_⟩) hHeld ?_ ?_
                    rotate_left
                    · rintro w' ⟨s0, s1⟩
                      go_simp
                      with_reducible rfl
                    rotate_left
                    · simp only [Act.put, List.setIfInBounds_toArray, List.set_cons_zero, List.set_cons_succ, i64_w, i32_w]
                      rfl
                    refine pure_ (i := 15) (N := some 121) (v := ?_) (a' := ?_) #[true, true, true, true, true, true, true, true, true, true, true, true, true, true, true, true, false] rfl rfl (by kernel_rfl) (fun _ _ _ h => h) (Or.inl ⟨by rfl, ?_⟩) ?_ ?_
                    rotate_left
                    · intro w'
                      go_simp
                      with_reducible rfl
                    rotate_left
                    · simp only [Act.put, List.setIfInBounds_toArray, List.set_cons_zero, List.set_cons_succ, i64_w, i32_w]
                      rfl
                    refine pure_ (i := 16) (N := some 122) (v := ?_) (a' := ?_) #[true, true, true, true, true, true, true, true, true, true, true, true, true, true, true, true, true] rfl rfl (by kernel_rfl) (fun _ _ _ h => h) (Or.inl ⟨by rfl, ?_⟩) ?_ ?_
                    rotate_left
                    · intro w'
                      go_simp
                      with_reducible rfl
                    rotate_left
                    · simp only [Act.put, List.setIfInBounds_toArray, List.set_cons_zero, List.set_cons_succ, i64_w, i32_w]
                      rfl
                    refine done_ (by kernel_rfl) ?_
                    go_wp2_with fail
                    go_roundw
                    case rel => exact ⟨p + 1, by omega, by have := HKK.out; have := HK3.out; congr 1; omega, by rw [HDS.out]; rfl, HBP.out⟩
                    case measure => simp only [intOf]; have := HKK.out; have := HK3.out; omega
                · obtain rfl : p = 20 := by omega
                  have hk62 : ¬ (((2 + 3 * 20 : Nat) : Int) < 62) := by decide
                  clear HDS hdl hb
                  by_cases hRR : Ra = Rd
                  · have hda : da = d := wd_payload HWa.out (by rw [hRR]; exact HWd.out) HDa.out HDd.out
                    have hn0 : (dif Ra Rd 20).length = 0 := by rw [hRR, dif_self]; rfl
                    rw [hn0]
                    have hss := str_eq d
                    clear hRR hn0
                    subst hda
                    go_wp2_with fail
                    go_roundw
                    case rel => exact ⟨j + 1, by omega, by go_num, HBP0.out⟩
                    case measure => simp [intOf]; omega
                  · have hda : ¬ da = d := fun e => hRR (isWd_unique (e ▸ HWd.out) HWa.out)
                    have hn5 : 5 ≤ (dif Ra Rd 20).length := Classical.byContradiction fun hc => hRR (dif_few (a := Ra) (b := Rd) (by rw [HWa.out.len]; decide) (by rw [HWa.out.len, HWd.out.len]) HWa.out.code HWd.out.code (by rw [HWa.out.len]; omega)).symm
                    have hss := str_ne hda
                    generalize (dif Ra Rd 20).length = dn at hn5 ⊢
                    have hd0 : ((dn : Int) == 0) = false := by rw [beq_eq_false_iff_ne]; omega
                    have hd1 : ¬ ((dn : Int) = 0) := by omega
                    have hd2 : (0 : Int) < (dn : Int) := by omega
                    have hd5 : ¬ ((dn : Int) < 5) := by omega
                    clear hRR hda
                    go_wp2_with fail
                    exact ⟨⟨_, _, _, _, _, .int .i64 ((j : Int) + 1), ⟨j + 1, by omega, by go_num, HBP0.out⟩, rfl, rfl, rfl, rfl, rfl, rfl⟩, by simp [intOf]; omega⟩
            · have hj2' : ¬ ((j : Int) < 2) := by omega
              have HBF := Aside0.mk (HBL.out.trans (hb.mono HBL.out.size))
              have HAW := Aside0.mk (awake_any wr (HP.out.below HBF.out))
              clear hb
              go_wp2_with fail
              refine HAW.out.mono ?_
              rintro e wE ⟨rfl, hbE⟩
              go_wp2
              go_ret
              exact ⟨rfl, HBF.out.trans (hbE.mono HBF.out.size)⟩
/-- The law, its arguments' bounds as the row hands them over. -/
theorem apart_law (A0 : Option Addr) (c0 : Nat) (l0 : List Int) (A1 : Option Addr) (c1 : Nat) (l1 : List Int) (z : Int) (w : World) (hr0 : Kd.C (Kd.int .u8) w A0 l0.length l0) (hc0 : l0.length ≤ c0) (hp0 : ∀ x ∈ l0, 0 ≤ x ∧ x < 256) (hr1 : Kd.C (Kd.int .u8) w A1 l1.length l1) (hc1 : l1.length ≤ c1) (hp1 : ∀ x ∈ l1, 0 ≤ x ∧ x < 256) (hz : 0 ≤ z ∧ z < 256) (hp : PW w) :
    Calls Tryz.prog 8 #[.slice A0 l0.length c0, .slice A1 l1.length c1, .int .u8 z] w fun e w' => e = .returned (.bool true) ∧ Below w.heap.size w w' :=
  apart_any A0 c0 l0 A1 c1 l1 z w hp hr0 hc0 hp0 hr1 hc1 hp1 hz.1 hz.2
end Go.Proofs.YtajccgmeminlhaaGreatDoor
