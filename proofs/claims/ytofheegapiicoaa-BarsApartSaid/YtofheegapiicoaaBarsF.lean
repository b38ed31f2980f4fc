/- bars.Frame: a text between its ends. Rows of literals. -/
import Derived.Test.YtofheegapiicoaaBarsD
set_option linter.unusedVariables false
set_option linter.unusedSimpArgs false
namespace Go.Proofs.Ytofheegapiicoaa
open Go.RowKit Go.Shelf Go.Proofs.YtofheegapiicoaaW.PrintWords

def frameW (s : ByteArray) : ByteArray × Int := if checkW s 4 = 0 then (((⟨#[65, 84]⟩ : ByteArray) ++ s) ++ ⟨#[70, 68]⟩, 0) else (⟨#[]⟩, checkW s 4)
set_option maxHeartbeats 2000000 in
set_option maxRecDepth 100000 in
theorem frame_any (s : ByteArray) (w : World) (hs : s.size ≤ 140737488351232) :
    Calls Try.prog 14 #[.string s] w fun e w' => e = .returned (.tuple #[.string (frameW s).1, .int .i64 (frameW s).2]) ∧ Below w.heap.size w w' := by
  by_cases hc : checkW s 4 = 0
  · have HW := Aside0.mk (show frameW s = (((⟨#[65, 84]⟩ : ByteArray) ++ s) ++ ⟨#[70, 68]⟩, 0) by unfold frameW; rw [if_pos hc])
    rw [HW.out]
    have hcb : (checkW s 4 != 0) = false := by simpa using hc
    have h2 : ((⟨#[65, 84]⟩ : ByteArray).size : Int) = 2 := rfl
    have h3 : ((⟨#[70, 68]⟩ : ByteArray).size : Int) = 2 := rfl
    clear hc
    go_enter Try.func14, Try.ntmps14
    go_wp2_with fail
    refine (check_any s 4 w hs (by omega) (by omega)).mono ?_
    rintro e w1 ⟨rfl, hb1⟩
    have HB1 := Aside0.mk hb1
    clear hb1
    go_wp2
    go_ret2
    exact ⟨rfl, HB1.out⟩
  · have HW := Aside0.mk (show frameW s = (⟨#[]⟩, checkW s 4) by unfold frameW; rw [if_neg hc])
    rw [HW.out]
    have hcb : (checkW s 4 != 0) = true := by simpa using hc
    clear hc
    go_enter Try.func14, Try.ntmps14
    go_wp2_with fail
    refine (check_any s 4 w hs (by omega) (by omega)).mono ?_
    rintro e w1 ⟨rfl, hb1⟩
    have HB1 := Aside0.mk hb1
    clear hb1
    go_wp2
    go_ret2
    exact ⟨rfl, HB1.out⟩
def bars_Frame.f (s : ByteArray) : Option (ByteArray × Int) := if s.size ≤ 140737488351232 then some (frameW s) else none
theorem bars_Frame.calls (a0 : ByteArray) (r1 : ByteArray) (r2 : Int) (w : World) (h : bars_Frame.f a0 = some (r1, r2)) :
    Calls Try.prog 14 #[.string a0] w fun e w' => e = .returned (.tuple #[.string r1, .int .i64 r2]) ∧ Below w.heap.size w w' := by
  unfold bars_Frame.f at h
  split at h
  · have h2 := Option.some.inj h
    rw [show r1 = (frameW a0).1 by rw [h2], show r2 = (frameW a0).2 by rw [h2]]
    exact frame_any a0 w (by assumption)
  · cases h

theorem wf_u8 {x : Int} (h : (Lit.int .u8 x).wf = true) : 0 ≤ x ∧ x < 256 := by
  have h1 : IntKind.u8.min = 0 := by decide
  have h2 : IntKind.u8.max = 255 := by decide
  simp [Lit.wf, h1, h2] at h
  omega

/-- A row of numbers that a literal has just made. -/
theorem lit_reads (w : World) (k : IntKind) (e : TypeId) (xs : List Int) (cs : Array Value) (hcs : (nums k xs).toArray = cs) (n : Nat) (hn : xs.length = n) (hm : n ≤ 9223372036854775807) :
    Kd.C (Kd.int k) (w.alloc (.cells cs e)) (some ⟨w.heap.size, 0, none⟩) n xs := by
  subst hcs
  refine Kd.C_of_reads (d := (0 : Int)) (h1 := fun _ => rfl) ⟨hn, hm, fun _ => ⟨_, rfl, fun j hj => World.news_of_block (heap_alloc_new w _) j _ ?_⟩⟩
  have hj2 : j < xs.length := by omega
  simp [nums, List.getElem?_eq_getElem hj2, List.getD_eq_getElem?_getD]
end Go.Proofs.Ytofheegapiicoaa
