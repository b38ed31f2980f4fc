/- The law BarsWrong: whatever the text and the defect, it returns true. -/
import Derived.Test.YtofheegapiicoaaFramePure
import Derived.Test.YtofheegapiicoaaBarsG
import Derived.BigRegion
import Derived.Laws.Strings3
set_option linter.unusedVariables false
set_option linter.unusedSimpArgs false
namespace Go.Proofs.Ytofheegapiicoaa
open Go.RowKit Go.Shelf Go.Proofs.YtofheegapiicoaaW.PrintWords Go.Proofs.Ytofheegapiicoaa.Q

theorem check_long (s : ByteArray) (more : Int) (h : (s.size : Int) + more > 200) : checkW s more = 3 := by
  unfold checkW
  rw [if_pos h]
theorem check_bad (s : ByteArray) (more : Int) (h : (s.size : Int) + more ≤ 200) (hb : lettersAll s = false) : checkW s more = 2 := by
  unfold checkW
  rw [if_neg (by omega), hb, if_neg (by simp)]
theorem read_err (s : ByteArray) (e : Int) (he : e ≠ 0) (hs : s.size ≤ 1000) (h : checkW s 0 = e) : bars_Read.f s = some ([], [], e) := by
  unfold bars_Read.f readW
  rw [if_pos (by omega), h, if_neg he]
theorem turn_err (s : ByteArray) (e : Int) (he : e ≠ 0) (hs : s.size ≤ 1000) (h : checkW s 0 = e) : bars_Turn.f s = some (⟨#[]⟩, e) := by
  unfold bars_Turn.f bars_check.f
  rw [if_pos ⟨by omega, by omega, by omega⟩, h]
  simp [he]
theorem frame_err (s : ByteArray) (e : Int) (he : e ≠ 0) (hs : s.size ≤ 1000) (h : checkW s 4 = e) : bars_Frame.f s = some (⟨#[]⟩, e) := by
  unfold bars_Frame.f frameW
  rw [if_pos (by omega), h, if_neg he]
theorem unframe_err (s : ByteArray) (e : Int) (he : e ≠ 0) (hs : s.size ≤ 1000) (h : checkW s 0 = e) : bars_Unframe.f s = some (⟨#[]⟩, false, e) := by
  unfold bars_Unframe.f bars_check.f
  rw [if_pos ⟨by omega, by omega, by omega⟩, h]
  simp [he]
theorem bad_none (F : List UInt8) (p : Nat) (c : UInt8) (hp : p < F.length) (hc : isL c = false) : lettersAll (strOfNums ((bytesOf (mkB F)).set p (c.toNat : Int))) = false := by
  rw [strOf_set]
  show (F.set p c).all isL = false
  rw [Bool.eq_false_iff]
  intro h
  rw [List.all_eq_true] at h
  have := h c (List.mem_iff_getElem.2 ⟨p, by simpa using hp, by simp⟩)
  rw [hc] at this
  cases this
theorem read_mod (s : ByteArray) (hs : s.size ≤ 200) (hl : lettersAll s = true) (h : s.size % 3 ≠ 0) : bars_Read.f s = some ([], [], 2) := by
  unfold bars_Read.f readW
  rw [if_pos (by omega), if_pos (check_ok s 0 (by omega) hl), if_neg h]

set_option maxHeartbeats 8000000 in
set_option maxRecDepth 1000000 in
theorem barsWrong_any (A0 : Option Addr) (c0 : Nat) (l0 : List Int) (x1 : Int) (w : World) (hr0 : Kd.C (Kd.int .u8) w A0 l0.length l0) (hc0 : l0.length ≤ c0) (hp0 : ∀ x ∈ l0, 0 ≤ x ∧ x < 256) (h1 : 0 ≤ x1 ∧ x1 < 256) :
    Calls Try.prog 7 #[.slice A0 l0.length c0, .int .u8 x1] w fun e w' => e = .returned (.bool true) ∧ Below w.heap.size w w' := by
  have HWR := Aside0.mk (written_any A0 c0 l0 w hr0 hc0 hp0)
  have hLm := written_letters l0 (fun x hx => (hp0 x hx).1)
  have hSm : (writtenL l0).length ≤ 190 := by simp [writtenL, lets]; omega
  clear hr0 hc0 hp0
  rw [show writtenW l0 = mkB (writtenL l0) from rfl] at HWR hLm
  generalize writtenL l0 = m at HWR hLm hSm
  have hLm : m.all isL = true := hLm
  have hsX : (mkB m).size = m.length := mkB_size m
  obtain ⟨n, hn⟩ : ∃ n, m.length = n := ⟨_, rfl⟩
  have HLM := Aside0.mk hLm
  have HN := Aside0.mk hn
  rw [hn] at hSm hsX
  clear hLm hn
  go_enter Try.func7, Try.ntmps7
  go_wp2_with fail
  refine HWR.out.mono ?_
  rintro e w1 ⟨rfl, hd1⟩
  have HB1 := Aside0.mk hd1.below
  clear hd1 HWR
  go_wp2_with fail
  go_loop [6] (fun s => ∃ t : List UInt8, t.length ≤ 203 ∧ s = .string (mkB t)) (fun s => match s with | .string s => 300 - s.size | _ => 0)
  case atStart => exact ⟨m, by have := HN.out; omega, rfl⟩
  case round =>
    obtain ⟨t, ht, rfl⟩ := hrel
    have hsz : (mkB t).size = t.length := mkB_size t
    by_cases hp : t.length ≤ 200
    · have happ : mkB t ++ (⟨#[84, 65, 68]⟩ : ByteArray) = mkB (t ++ [84, 65, 68]) := mkB_append t [84, 65, 68]
      have h3 : (⟨#[84, 65, 68]⟩ : ByteArray).size = 3 := rfl
      go_wp2_with fail
      go_round
      case rel => exact ⟨t ++ [84, 65, 68], by simp; omega, rfl⟩
      case measure => simp [mkB_size]; omega
    · have hlong := check_long (mkB t) 0 (by omega)
      have R1 := Aside0.mk (read_err (mkB t) 3 (by decide) (by omega) hlong)
      have R2 := Aside0.mk (turn_err (mkB t) 3 (by decide) (by omega) hlong)
      have R4 := Aside0.mk (unframe_err (mkB t) 3 (by decide) (by omega) hlong)
      have hcut : ∀ wx : World, (Instr.slice 9 (.string (mkB t)) none (some (.int .i64 197)) none).run Try.prog wx = .ok (.string (mkB (t.take 197))) wx := by
        intro wx
        rw [run_slice_string_to_if (h := Try.underlying9), if_pos ⟨by omega, by omega⟩]
        rw [Lib.extract_eq, mkB_data]
        rfl
      have hc197 : (mkB (t.take 197)).size = 197 := by rw [mkB_size, List.length_take]; omega
      have R3 := Aside0.mk (frame_err (mkB (t.take 197)) 3 (by decide) (by omega) (check_long (mkB (t.take 197)) 4 (by omega)))
      clear hlong
      generalize mkB (t.take 197) = cut at *
      generalize mkB t = lg at *
      have happ : mkB m ++ (⟨#[84]⟩ : ByteArray) = mkB (m ++ [84]) := mkB_append m [84]
      have h3 : (⟨#[84]⟩ : ByteArray).size = 1 := rfl
      have hbn : (mkB (m ++ [84])).size = n + 1 := by rw [mkB_size, List.length_append, HN.out]; rfl
      have hBL : (bytesOf (mkB (m ++ [84]))).length = n + 1 := by rw [bytesOf_length, hbn]
      have HBAD := Aside0.mk (bad_none (m ++ [84]))
      have hlen : (m ++ [84]).length = n + 1 := by rw [List.length_append, HN.out]; rfl
      rw [hlen] at HBAD
      generalize mkB (m ++ [84]) = bd at happ hbn hBL HBAD
      go_wp2_with fail
      have hcv := Lib.run_convert_string_bytes (P := Try.prog) w1 9 22 5 bd Try.underlying9 Try.underlying22 Try.underlying5
      rw [hbn] at hcv
      rw [hcv]
      clear hcv
      have hrow := CRow.bytes w1 5 bd
      have hbel := bytes_below w1 5 bd
      generalize bytesOf bd = L at hrow HBAD hBL
      have HBL := Aside0.mk hBL
      generalize grownCap w1 (n + 1) 0 5 = cp
      generalize Lib.bytesWorld w1 5 bd = w2 at hrow hbel ⊢
      have HB2 := Aside0.mk (HB1.out.trans (hbel.mono HB1.out.size))
      have HG := Aside0.mk (show w.heap.size ≤ w1.heap.size from HB1.out.size)
      clear hbel HB1 hBL
      generalize w1.heap.size = g at hrow HG ⊢
      obtain ⟨q, hq⟩ : ∃ q : Nat, x1 % ((n : Int) + 1) = (q : Int) := Int.eq_ofNat_of_zero_le (Int.emod_nonneg _ (by omega))
      have hqn : q < n + 1 := by
        have := Int.emod_lt_of_pos x1 (show (0 : Int) < (n : Int) + 1 by omega)
        omega
      have hm5 : 0 ≤ x1 % 5 ∧ x1 % 5 < 5 := by omega
      have hn1 : ¬ ((n : Int) + 1 = 0) := by omega
      have hn2 : (0 : Int) < (n : Int) + 1 := by omega
      obtain ⟨bc, hbc, hbv⟩ : ∃ c : UInt8, isL c = false ∧ ∀ h : (x1 % 5).toNat < [Value.int .u8 116, Value.int .u8 32, Value.int .u8 88, Value.int .u8 0, Value.int .u8 200].length, [Value.int .u8 116, Value.int .u8 32, Value.int .u8 88, Value.int .u8 0, Value.int .u8 200][(x1 % 5).toNat]'h = .int .u8 (c.toNat : Int) := by
        have hx : (x1 % 5).toNat = 0 ∨ (x1 % 5).toNat = 1 ∨ (x1 % 5).toNat = 2 ∨ (x1 % 5).toNat = 3 ∨ (x1 % 5).toNat = 4 := by omega
        rcases hx with e | e | e | e | e
        · exact ⟨116, by decide, fun h => by simp only [e]; rfl⟩
        · exact ⟨32, by decide, fun h => by simp only [e]; rfl⟩
        · exact ⟨88, by decide, fun h => by simp only [e]; rfl⟩
        · exact ⟨0, by decide, fun h => by simp only [e]; rfl⟩
        · exact ⟨200, by decide, fun h => by simp only [e]; rfl⟩
      have HBC := Aside0.mk (HBAD.out q bc hqn hbc)
      have hrw := hrow.below (below_alloc (Below.refl w2.heap.size w2) (.cells #[.int .u8 116, .int .u8 32, .int .u8 88, .int .u8 0, .int .u8 200] 5))
      have hbw := HB2.out.alloc HB2.out.size (.cells #[.int .u8 116, .int .u8 32, .int .u8 88, .int .u8 0, .int .u8 200] 5)
      have hrw := hrw.below (Below.refl _ _).drew
      have hbw := hbw.trans ((Below.refl _ _).drew.mono hbw.size)
      have HR3 := Aside0.mk hrw
      have HB3 := Aside0.mk hbw
      have hcell := hrw.cell q (by rw [HBL.out]; exact hqn)
      have hfree := hrw.free q (by rw [HBL.out]; exact hqn)
      clear hrw hbw hrow HBAD hbc
      go_wp2_with fail
      go_region
      have hrw := ((HR3.out).set q (by rw [HBL.out]; exact hqn) (bc.toNat : Int))
      have hsw : ((w2.alloc (.cells #[.int .u8 116, .int .u8 32, .int .u8 88, .int .u8 0, .int .u8 200] 5)).setCell ⟨g, q, none⟩ (.int .u8 (bc.toNat : Int))).drew = ((w2.alloc (.cells #[.int .u8 116, .int .u8 32, .int .u8 88, .int .u8 0, .int .u8 200] 5)).drew).setCell ⟨g, q, none⟩ (.int .u8 (bc.toNat : Int)) := rfl
      have hbw := HB3.out.setCell (p := ⟨g, q, none⟩) HG.out (.int .u8 (bc.toNat : Int))
      rw [hsw]
      have HLS := Aside0.mk (show (L.set q (bc.toNat : Int)).length = n + 1 by rw [List.length_set]; exact HBL.out)
      generalize L.set q (bc.toNat : Int) = L2 at hrw HBC HLS
      generalize ((w2.alloc (.cells #[.int .u8 116, .int .u8 32, .int .u8 88, .int .u8 0, .int .u8 200] 5)).drew).setCell ⟨g, q, none⟩ (.int .u8 (bc.toNat : Int)) = w3 at hrw hbw ⊢
      have HR4 := Aside0.mk hrw
      have HB4 := Aside0.mk hbw
      have hss : (strOfNums L2).size = n + 1 := by rw [strOfNums_size]; exact HLS.out
      have HCS := Aside0.mk (fun (W : World) (h : CRow (Value.int .u8) 0 W g L2) => h.string (P := Try.prog) 22 5 9 Try.underlying22 Try.underlying5 Try.underlying9 (n + 1) cp HLS.out)
      have E1 := Aside0.mk (read_err (strOfNums L2) 2 (by decide) (by omega) (check_bad _ 0 (by omega) HBC.out))
      have E2 := Aside0.mk (turn_err (strOfNums L2) 2 (by decide) (by omega) (check_bad _ 0 (by omega) HBC.out))
      have E3 := Aside0.mk (frame_err (strOfNums L2) 2 (by decide) (by omega) (check_bad _ 4 (by omega) HBC.out))
      have E4 := Aside0.mk (unframe_err (strOfNums L2) 2 (by decide) (by omega) (check_bad _ 0 (by omega) HBC.out))
      clear hrw hbw hsw HR3 HB3 HB2 hcell hfree hbv hq hqn HBL HBC hm5
      generalize strOfNums L2 = bs at *
      go_wp2_with fail
      refine (bars_Read.calls _ _ _ _ _ R1.out).mono ?_
      rintro e w4 ⟨va, vb, rfl, -, -, hb⟩
      have HB5 := Aside0.mk (HB4.out.trans (hb.mono HB4.out.size))
      have HR5 := Aside0.mk (HR4.out.below hb)
      clear hb HB4 HR4
      go_wp2_with fail
      refine (bars_Turn.calls _ _ _ _ R2.out).mono ?_
      rintro e w5 ⟨rfl, hb⟩
      have HB6 := Aside0.mk (HB5.out.trans (hb.mono HB5.out.size))
      have HR6 := Aside0.mk (HR5.out.below hb)
      clear hb HB5 HR5
      go_wp2_with fail
      refine (bars_Frame.calls _ _ _ _ R3.out).mono ?_
      rintro e w6 ⟨rfl, hb⟩
      have HB7 := Aside0.mk (HB6.out.trans (hb.mono HB6.out.size))
      have HR7 := Aside0.mk (HR6.out.below hb)
      clear hb HB6 HR6
      go_wp2_with fail
      refine (bars_Unframe.calls _ _ _ _ _ R4.out).mono ?_
      rintro e w7 ⟨rfl, hb⟩
      have HB8 := Aside0.mk (HB7.out.trans (hb.mono HB7.out.size))
      have HR8 := Aside0.mk (HR7.out.below hb)
      clear hb HB7 HR7
      have hmk : ∀ W : World, (Instr.makeSlice 22 (.int .i64 67) (.int .i64 67)).run Try.prog W = .ok (.slice (some ⟨W.heap.size, 0, none⟩) 67 67) (W.alloc (.cells (madeCells #[.int .u8 0] 67) 5)) :=
        fun W => run_make_row' 22 5 (.int .u8 0) 1 Try.underlying22 info_u8 rfl .i64 .i64 67 (by omega) (by omega) W
      go_wp2_with fail
      have hw67 : bars_Write.f (List.replicate 67 0) = some (⟨#[]⟩, 3) := by decide +kernel
      have hr67 := (CRow.made (Value.int .u8) 0 w7 5 67).reads (by simp)
      rw [List.length_replicate] at hr67
      refine (bars_Write.calls (some ⟨w7.heap.size, 0, none⟩) 67 (List.replicate 67 0) _ _ (w7.alloc (.cells (madeCells #[.int .u8 0] 67) 5)) hr67 (by simp) hw67).mono ?_
      rintro e w8 ⟨rfl, hb⟩
      have HB9 := Aside0.mk ((HB8.out.alloc HB8.out.size (.cells (madeCells #[.int .u8 0] 67) 5)).trans (hb.mono (by simp; have := HB8.out.size; omega)))
      have HR9 := Aside0.mk ((HR8.out.below (below_alloc (Below.refl w7.heap.size w7) (.cells (madeCells #[.int .u8 0] 67) 5))).below hb)
      clear hb HB8 HR8 hmk hw67 hr67 R1 R2 R3 R4 hcut
      have hcs := HCS.out w8 HR9.out
      go_wp2_with fail
      refine (bars_Read.calls _ _ _ _ _ E1.out).mono ?_
      rintro e w9 ⟨vc, vd, rfl, -, -, hb⟩
      have HB10 := Aside0.mk (HB9.out.trans (hb.mono HB9.out.size))
      have HR10 := Aside0.mk (HR9.out.below hb)
      clear hb HB9 HR9 hcs
      have hcs := HCS.out w9 HR10.out
      go_wp2_with fail
      refine (bars_Turn.calls _ _ _ _ E2.out).mono ?_
      rintro e w10 ⟨rfl, hb⟩
      have HB11 := Aside0.mk (HB10.out.trans (hb.mono HB10.out.size))
      have HR11 := Aside0.mk (HR10.out.below hb)
      clear hb HB10 HR10 hcs
      have hcs := HCS.out w10 HR11.out
      go_wp2_with fail
      refine (bars_Frame.calls _ _ _ _ E3.out).mono ?_
      rintro e w11 ⟨rfl, hb⟩
      have HB12 := Aside0.mk (HB11.out.trans (hb.mono HB11.out.size))
      have HR12 := Aside0.mk (HR11.out.below hb)
      clear hb HB11 HR11 hcs
      have hcs := HCS.out w11 HR12.out
      go_wp2_with fail
      refine (bars_Unframe.calls _ _ _ _ _ E4.out).mono ?_
      rintro e w12 ⟨rfl, hb⟩
      have HB13 := Aside0.mk (HB12.out.trans (hb.mono HB12.out.size))
      clear hb HB12 HR12 hcs HCS
      have hx64 : 0 ≤ x1 % 192 ∧ x1 % 192 < 192 := by omega
      go_wp2_with fail
      have hw2 : bars_Write.f [1, 64 + x1 % 192] = some (⟨#[]⟩, 2) := by
        have hs : symsOK [1, 64 + x1 % 192] = false := by
          unfold symsOK
          rw [List.all_cons, List.all_cons, decide_eq_false (show ¬ 64 + x1 % 192 ≤ 63 by omega)]
          rfl
        unfold bars_Write.f writeW
        rw [if_pos, if_neg, hs, if_neg (by simp)]
        · simp
        · intro x hx
          simp at hx
          rcases hx with rfl | rfl <;> omega
      refine (bars_Write.calls _ 2 [1, 64 + x1 % 192] _ _ _ (lit_reads w12 .u8 5 [1, 64 + x1 % 192] _ rfl 2 rfl (by omega)) (by simp) hw2).mono ?_
      rintro e w13 ⟨rfl, hb⟩
      have HB14 := Aside0.mk ((HB13.out.alloc HB13.out.size (.cells #[.int .u8 1, .int .u8 (64 + x1 % 192)] 5)).trans (hb.mono (by simp; have := HB13.out.size; omega)))
      clear hb HB13 hw2
      obtain ⟨d, hd⟩ : ∃ d : Nat, n / 3 = d := ⟨_, rfl⟩
      have hdi : (n : Int) / 3 = (d : Int) := by omega
      have hd3 : 3 * d ≤ n := by omega
      have hcut2 : ∀ wx : World, (Instr.slice 9 (.string (mkB m)) none (some (.int .i64 ((d : Int) * 3))) none).run Try.prog wx = .ok (.string (mkB (m.take (3 * d)))) wx := by
        intro wx
        rw [run_slice_string_to_if (h := Try.underlying9), if_pos ⟨by omega, by omega⟩, Lib.extract_eq, mkB_data]
        rw [show ((d : Int) * 3).toNat - 0 = 3 * d by omega, List.drop_zero]
        rfl
      have hsz2 : (mkB (m.take (3 * d))).size = 3 * d := by rw [mkB_size, List.length_take, HN.out]; omega
      have happ2 : mkB (m.take (3 * d)) ++ (⟨#[84]⟩ : ByteArray) = mkB (m.take (3 * d) ++ [84]) := mkB_append (m.take (3 * d)) [84]
      have hsz3 : (mkB (m.take (3 * d) ++ [84])).size = 3 * d + 1 := by rw [mkB_size, List.length_append, List.length_take, HN.out]; simp; omega
      have hal : lettersAll (mkB (m.take (3 * d) ++ [84])) = true := by
        show (m.take (3 * d) ++ [84]).all isL = true
        have h := HLM.out
        rw [List.all_eq_true] at h ⊢
        intro b hb
        rcases List.mem_append.1 hb with h2 | h2
        · exact h b (List.mem_of_mem_take h2)
        · rw [List.mem_singleton] at h2
          subst h2
          decide
      have E5 := Aside0.mk (read_mod (mkB (m.take (3 * d) ++ [84])) (by omega) hal (by omega))
      clear hal
      generalize mkB (m.take (3 * d) ++ [84]) = z at happ2 hsz3 E5
      generalize mkB (m.take (3 * d)) = y at happ2 hsz2 hcut2
      go_wp2_with fail
      refine (bars_Read.calls _ _ _ _ _ E5.out).mono ?_
      rintro e w14 ⟨ve, vf, rfl, -, -, hb⟩
      have HB15 := Aside0.mk (HB14.out.trans (hb.mono HB14.out.size))
      clear hb HB14
      go_wp2_with fail
      refine (awake_any _).mono ?_
      rintro e w15 ⟨rfl, hb⟩
      have HB16 := Aside0.mk (HB15.out.trans (hb.mono HB15.out.size))
      clear hb
      go_wp2
      go_ret
      exact ⟨rfl, HB16.out⟩
end Go.Proofs.Ytofheegapiicoaa
