/- The law BarsTurns: whatever the two lists, it returns true. -/
import Derived.Test.YtofheegapiicoaaTurnPure
import Derived.Test.YtofheegapiicoaaBarsG
set_option linter.unusedVariables false
set_option linter.unusedSimpArgs false
namespace Go.Proofs.Ytofheegapiicoaa
open Go.RowKit Go.Shelf Go.Proofs.YtofheegapiicoaaW.PrintWords Go.Proofs.Ytofheegapiicoaa.Q

theorem written_quiet (A : Option Addr) (c : Nat) (l : List Int) (m : Nat) (hm : m ≤ l.length) (w : World) (hr : Kd.C (Kd.int .u8) w A l.length l) (hc : l.length ≤ c) (hp : ∀ x ∈ l, 0 ≤ x ∧ x < 256) (n : Nat) :
    Calls Try.prog 11 #[.slice A m c] (w.drewN n) fun e w'' => e = .returned (.string (writtenW (l.take m))) ∧ ∃ k, w'' = w.drewN k := by
  have hl : (l.take m).length = m := by rw [List.length_take]; omega
  have h := written_any A c (l.take m) (w.drewN n) (by rw [hl]; exact Kd.C_drewN (Kd.C_of_reads (d := (0 : Int)) (h1 := fun _ => rfl) ((Kd.reads_of_C hr).take_ m hm)) n) (by omega) (fun x hx => hp x (List.mem_of_mem_take hx))
  rw [hl] at h
  refine h.mono ?_
  rintro e w' ⟨rfl, ⟨k, rfl⟩⟩
  exact ⟨rfl, n + k, World.drewN_drewN ..⟩

set_option maxHeartbeats 4000000 in
set_option maxRecDepth 100000 in
theorem barsTurns_any (A0 : Option Addr) (c0 : Nat) (l0 : List Int) (A1 : Option Addr) (c1 : Nat) (l1 : List Int) (w : World) (hr0 : Kd.C (Kd.int .u8) w A0 l0.length l0) (hc0 : l0.length ≤ c0) (hp0 : ∀ x ∈ l0, 0 ≤ x ∧ x < 256) (hr1 : Kd.C (Kd.int .u8) w A1 l1.length l1) (hc1 : l1.length ≤ c1) (hp1 : ∀ x ∈ l1, 0 ≤ x ∧ x < 256) :
    Calls Try.prog 4 #[.slice A0 l0.length c0, .slice A1 l1.length c1] w fun e w' => e = .returned (.bool true) ∧ Below w.heap.size w w' := by
  obtain ⟨m0, hm0⟩ : ∃ m, min l0.length 95 = m := ⟨_, rfl⟩
  obtain ⟨m1, hm1⟩ : ∃ m, min l1.length 95 = m := ⟨_, rfl⟩
  have hmin0 : min (l0.length : Int) 95 = (m0 : Int) := by omega
  have hmin1 : min (l1.length : Int) 95 = (m1 : Int) := by omega
  have hml0 : m0 ≤ l0.length := by omega
  have hml1 : m1 ≤ l1.length := by omega
  have Q0 : Aside0 (∀ n, Calls Try.prog 11 #[.slice A0 m0 c0] (w.drewN n) fun e w'' => e = .returned (.string (writtenW (l0.take m0))) ∧ ∃ k, w'' = w.drewN k) := ⟨written_quiet A0 c0 l0 m0 hml0 w hr0 hc0 hp0⟩
  have Q1 : Aside0 (∀ n, Calls Try.prog 11 #[.slice A1 m1 c1] (w.drewN n) fun e w'' => e = .returned (.string (writtenW (l1.take m1))) ∧ ∃ k, w'' = w.drewN k) := ⟨written_quiet A1 c1 l1 m1 hml1 w hr1 hc1 hp1⟩
  have LA := Aside0.mk (written_letters (l0.take m0) (fun x hx => (hp0 x (List.mem_of_mem_take hx)).1))
  have LB := Aside0.mk (written_letters (l1.take m1) (fun x hx => (hp1 x (List.mem_of_mem_take hx)).1))
  have SA := Aside0.mk (show (writtenW (l0.take m0)).size ≤ 95 by rw [written_size, List.length_take]; omega)
  have SB := Aside0.mk (show (writtenW (l1.take m1)).size ≤ 95 by rw [written_size, List.length_take]; omega)
  clear hr0 hr1 hp0 hp1 hm0 hm1
  generalize writtenW (l0.take m0) = a at Q0 LA SA
  generalize writtenW (l1.take m1) = b at Q1 LB SB
  have T1 := Aside0.mk (turn_f a (by have := SA.out; omega) LA.out)
  have T2 := Aside0.mk (turn_f b (by have := SB.out; omega) LB.out)
  have T3 := Aside0.mk (turn_f (turnW a) (by rw [turn_size a LA.out]; have := SA.out; omega) (turn_letters a LA.out))
  have T4 := Aside0.mk (turn_f (a ++ b) (by rw [ByteArray.size_append]; have := SA.out; have := SB.out; omega) (letters_append a b LA.out LB.out))
  rw [turn_turn a LA.out] at T3
  rw [turn_append a b LA.out LB.out] at T4
  have SX := Aside0.mk (show (turnW a).size ≤ 95 by rw [turn_size a LA.out]; exact SA.out)
  have SY := Aside0.mk (show (turnW b).size ≤ 95 by rw [turn_size b LB.out]; exact SB.out)
  generalize turnW a = x at T1 T3 T4 SX
  generalize turnW b = y at T2 T4 SY
  go_enter Try.func4, Try.ntmps4
  go_wp2_with fail
  go_quiet ((go_at_call 11; first | with_reducible exact Q0.out _ | with_reducible exact Q1.out _))
  generalize hW1 : World.drewN _ nq = W1
  have D1 : Drawn0 w W1 := ⟨nq, hW1.symm⟩
  have HB0 := Aside0.mk D1.below
  clear hW1 D1
  have hsa : a.size ≤ 95 := SA.out
  have hsb : b.size ≤ 95 := SB.out
  have hsx : x.size ≤ 95 := SX.out
  have hsy : y.size ≤ 95 := SY.out
  go_wp2_with fail
  refine (bars_Turn.calls _ _ _ _ T1.out).mono ?_
  rintro e w1 ⟨rfl, hb1⟩
  have HB1 := Aside0.mk (HB0.out.trans (hb1.mono HB0.out.size))
  clear hb1
  go_wp2_with fail
  refine (bars_Turn.calls _ _ _ _ T2.out).mono ?_
  rintro e w2 ⟨rfl, hb2⟩
  have HB2 := Aside0.mk (HB1.out.trans (hb2.mono HB1.out.size))
  clear hb2
  go_wp2_with fail
  refine (bars_Turn.calls _ _ _ _ T3.out).mono ?_
  rintro e w3 ⟨rfl, hb3⟩
  have HB3 := Aside0.mk (HB2.out.trans (hb3.mono HB2.out.size))
  clear hb3
  go_wp2_with fail
  refine (bars_Turn.calls _ _ _ _ T4.out).mono ?_
  rintro e w4 ⟨rfl, hb4⟩
  have HB4 := Aside0.mk (HB3.out.trans (hb4.mono HB3.out.size))
  clear hb4
  go_wp2_with fail
  refine (awake_any _).mono ?_
  rintro e w5 ⟨rfl, hb5⟩
  have HB5 := Aside0.mk (HB4.out.trans (hb5.mono HB4.out.size))
  clear hb5
  go_wp2
  go_ret
  exact ⟨rfl, HB5.out⟩
end Go.Proofs.Ytofheegapiicoaa
