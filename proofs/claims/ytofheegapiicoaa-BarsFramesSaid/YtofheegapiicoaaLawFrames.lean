/- The law BarsFrames: whatever the text and the letter, it returns true. -/
import Derived.Test.YtofheegapiicoaaFramePure
import Derived.Test.YtofheegapiicoaaBarsG
set_option linter.unusedVariables false
set_option linter.unusedSimpArgs false
namespace Go.Proofs.Ytofheegapiicoaa
open Go.RowKit Go.Shelf Go.Proofs.YtofheegapiicoaaW.PrintWords Go.Proofs.Ytofheegapiicoaa.Q

set_option maxHeartbeats 8000000 in
set_option maxRecDepth 1000000 in
theorem barsFrames_any (A0 : Option Addr) (c0 : Nat) (l0 : List Int) (x1 x2 : Int) (w : World) (hr0 : Kd.C (Kd.int .u8) w A0 l0.length l0) (hc0 : l0.length ≤ c0) (hp0 : ∀ x ∈ l0, 0 ≤ x ∧ x < 256) (h1 : 0 ≤ x1 ∧ x1 < 256) (h2 : 0 ≤ x2 ∧ x2 < 256) :
    Calls Try.prog 6 #[.slice A0 l0.length c0, .int .u8 x1, .int .u8 x2] w fun e w' => e = .returned (.bool true) ∧ Below w.heap.size w w' := by
  have HWR := Aside0.mk (written_any A0 c0 l0 w hr0 hc0 hp0)
  have hLm := written_letters l0 (fun x hx => (hp0 x hx).1)
  have hSm : (writtenL l0).length ≤ 190 := by simp [writtenL, lets]; omega
  clear hr0 hc0 hp0
  rw [show writtenW l0 = mkB (writtenL l0) from rfl] at HWR hLm
  generalize writtenL l0 = m at HWR hLm hSm
  have hLm : m.all isL = true := hLm
  have HFR := Aside0.mk (frame_mk m (by omega) hLm)
  have HUP := Aside0.mk (unframe_up m (by omega) hLm)
  have hFL := framed_letters m hLm
  have hn : (65 :: 84 :: (m ++ [70, 68]) : List UInt8).length = m.length + 4 := by simp
  have HTN := Aside0.mk (turn_f (mkB (65 :: 84 :: (m ++ [70, 68]))) (by rw [mkB_size, hn]; omega) hFL)
  rw [turn_mk _ hFL] at HTN
  have HOV := Aside0.mk (unframe_over ((65 :: 84 :: (m ++ [70, 68]) : List UInt8).map fb).reverse m (by rw [List.length_reverse, List.length_map, hn]; omega) (fb_all _ hFL) (turned_not m) (fb_back _ hFL))
  have HBN := Aside0.mk (bent_none m hSm hLm)
  have HBA := Aside0.mk (bytes_at (65 :: 84 :: (m ++ [70, 68])))
  rw [hn] at HBA
  generalize (((65 :: 84 :: (m ++ [70, 68]) : List UInt8).map fb).reverse) = O at HTN HOV
  generalize (65 :: 84 :: (m ++ [70, 68]) : List UInt8) = F at *
  have hsF : (mkB F).size = m.length + 4 := by rw [mkB_size, hn]
  have hsX : (mkB m).size = m.length := mkB_size m
  clear hLm hFL hn
  generalize mkB F = fr at *
  generalize mkB m = tx at *
  generalize mkB O = ov at *
  generalize m.length = n at *
  clear m
  have hc5 : 0 ≤ x2 % 5 ∧ x2 % 5 < 5 := by omega
  have HCL := Aside0.mk (lb_letter (x2 % 5) hc5.1 hc5.2)
  have hlb := lb_at (x2 % 5) hc5.1 hc5.2
  go_enter Try.func6, Try.ntmps6
  go_wp2_with fail
  refine HWR.out.mono ?_
  rintro e w1 ⟨rfl, hd1⟩
  have HB1 := Aside0.mk hd1.below
  clear hd1
  go_wp2_with fail
  refine (bars_Frame.calls _ _ _ _ HFR.out).mono ?_
  rintro e w2 ⟨rfl, hb2⟩
  have HB2 := Aside0.mk (HB1.out.trans (hb2.mono HB1.out.size))
  clear hb2
  go_wp2_with fail
  refine (bars_Unframe.calls _ _ _ _ _ HUP.out).mono ?_
  rintro e w3 ⟨rfl, hb3⟩
  have HB3 := Aside0.mk (HB2.out.trans (hb3.mono HB2.out.size))
  clear hb3
  go_wp2_with fail
  refine (bars_Turn.calls _ _ _ _ HTN.out).mono ?_
  rintro e w4 ⟨rfl, hb4⟩
  have HB4 := Aside0.mk (HB3.out.trans (hb4.mono HB3.out.size))
  clear hb4
  go_wp2_with fail
  refine (bars_Unframe.calls _ _ _ _ _ HOV.out).mono ?_
  rintro e w5 ⟨rfl, hb5⟩
  have HB5 := Aside0.mk (HB4.out.trans (hb5.mono HB4.out.size))
  clear hb5
  clear HB1 HB2 HB3 HB4 HFR HUP HTN HOV HWR
  go_wp2_with fail
  have hcv := Lib.run_convert_string_bytes (P := Try.prog) w5 9 22 5 fr Try.underlying9 Try.underlying22 Try.underlying5
  rw [hsF] at hcv
  rw [hcv]
  clear hcv
  have hrow := CRow.bytes w5 5 fr
  have hbel := bytes_below w5 5 fr
  have HBL := Aside0.mk (show (bytesOf fr).length = n + 4 by rw [bytesOf_length, hsF])
  generalize bytesOf fr = L at hrow HBN HBA HBL
  generalize grownCap w5 (n + 4) 0 5 = cp
  generalize Lib.bytesWorld w5 5 fr = w6 at hrow hbel ⊢
  have HB6 := Aside0.mk (HB5.out.trans (hbel.mono HB5.out.size))
  have HG := Aside0.mk (show w.heap.size ≤ w5.heap.size from HB5.out.size)
  clear hbel HB5
  generalize w5.heap.size = g at hrow HG ⊢
  obtain ⟨p, hp, hpv⟩ : ∃ p : Nat, (p = 0 ∨ p = 1 ∨ p = n + 2 ∨ p = n + 3) ∧ ∀ h : (x1 % 4).toNat < [Value.int .i64 0, Value.int .i64 1, Value.int .i64 ((n : Int) + 4 - 2), Value.int .i64 ((n : Int) + 4 - 1)].length, [Value.int .i64 0, Value.int .i64 1, Value.int .i64 ((n : Int) + 4 - 2), Value.int .i64 ((n : Int) + 4 - 1)][(x1 % 4).toNat]'h = .int .i64 (p : Int) := by
    have hx : (x1 % 4).toNat = 0 ∨ (x1 % 4).toNat = 1 ∨ (x1 % 4).toNat = 2 ∨ (x1 % 4).toNat = 3 := by omega
    rcases hx with e | e | e | e
    · exact ⟨0, by omega, fun h => by simp only [e]; rfl⟩
    · exact ⟨1, by omega, fun h => by simp only [e]; rfl⟩
    · exact ⟨n + 2, by omega, fun h => by simp only [e, List.getElem_cons_succ, List.getElem_cons_zero]; congr 1; omega⟩
    · exact ⟨n + 3, by omega, fun h => by simp only [e, List.getElem_cons_succ, List.getElem_cons_zero]; congr 1; omega⟩
  have hpn : p < n + 4 := by omega
  have hm4 : 0 ≤ x1 % 4 ∧ x1 % 4 < 4 := by omega
  have hrw := hrow.below (below_alloc (Below.refl w6.heap.size w6) (.cells #[.int .i64 0, .int .i64 1, .int .i64 ((n : Int) + 4 - 2), .int .i64 ((n : Int) + 4 - 1)] 3))
  have hbw := HB6.out.alloc HB6.out.size (.cells #[.int .i64 0, .int .i64 1, .int .i64 ((n : Int) + 4 - 2), .int .i64 ((n : Int) + 4 - 1)] 3)
  have HP := Aside0.mk hp
  obtain ⟨w7, hw7⟩ : ∃ W, w6.alloc (.cells #[.int .i64 0, .int .i64 1, .int .i64 ((n : Int) + 4 - 2), .int .i64 ((n : Int) + 4 - 1)] 3) = W := ⟨_, rfl⟩
  have h4 : w7.cell? ⟨w6.heap.size, (x1 % 4).toNat, none⟩ = some (.int .i64 (p : Int)) := by
    have hlt : (x1 % 4).toNat < [Value.int .i64 0, Value.int .i64 1, Value.int .i64 ((n : Int) + 4 - 2), Value.int .i64 ((n : Int) + 4 - 1)].length := by simp; omega
    rw [← hpv hlt, ← hw7, World.cell?, heap_alloc_new]
    simp only [Option.isSome_none, Bool.false_eq_true, if_false]
    exact Array.getElem?_eq_getElem (xs := #[Value.int .i64 0, Value.int .i64 1, Value.int .i64 ((n : Int) + 4 - 2), Value.int .i64 ((n : Int) + 4 - 1)]) hlt
  rw [hw7] at hrw hbw
  have HR7 := Aside0.mk hrw
  have HB7 := Aside0.mk hbw
  have hcell := hrw.cell p (by rw [HBL.out]; exact hpn)
  have hfree := hrw.free p (by rw [HBL.out]; exact hpn)
  rw [HBA.out p hpn] at hcell
  have HC4 := Aside0.mk (show ∀ b : UInt8, F.getD p 0 = b → ((F.getD p 0).toNat : Int) = (b.toNat : Int) from fun b h => by rw [h])
  have HNS := Aside0.mk (HBN.out p (lb (x2 % 5)) HCL.out HP.out)
  generalize F.getD p 0 = fp at hcell HC4 HNS
  generalize lb (x2 % 5) = lc at hlb HNS
  clear hp hrow hrw hbw HB6
  by_cases he : fp = lc
  · subst he
    go_wp2_with (first | rw [hw7])
    refine (awake_any _).mono ?_
    rintro e w8 ⟨rfl, hb8⟩
    have HB8 := Aside0.mk (HB7.out.trans (hb8.mono HB7.out.size))
    clear hb8
    go_wp2
    go_ret
    exact ⟨rfl, HB8.out⟩
  · have hne : ((fp.toNat : Int) == (lc.toNat : Int)) = false := by
      rw [beq_eq_false_iff_ne]
      intro h
      exact he (UInt8.toNat.inj (by omega))
    have hne2 : ¬ ((fp.toNat : Int) = (lc.toNat : Int)) := by simpa using hne
    have HNL := Aside0.mk (HR7.out.set p (by rw [HBL.out]; exact hpn) (lc.toNat : Int))
    have HB8 := Aside0.mk (HB7.out.setCell (p := ⟨g, p, none⟩) HG.out (.int .u8 (lc.toNat : Int)))
    have hcs := HNL.out.string (P := Try.prog) 22 5 9 Try.underlying22 Try.underlying5 Try.underlying9 (n + 4) cp (by rw [List.length_set]; exact HBL.out)
    go_wp2_with (first | rw [hw7])
    refine (bars_Unframe.calls _ _ _ _ _ (HNS.out he)).mono ?_
    rintro e w9 ⟨rfl, hb9⟩
    have HB9 := Aside0.mk (HB8.out.trans (hb9.mono HB8.out.size))
    clear hb9
    go_wp2_with fail
    refine (awake_any _).mono ?_
    rintro e w10 ⟨rfl, hb10⟩
    have HB10 := Aside0.mk (HB9.out.trans (hb10.mono HB9.out.size))
    clear hb10
    go_wp2
    go_ret
    exact ⟨rfl, HB10.out⟩
end Go.Proofs.Ytofheegapiicoaa
