/- bars.turn: a text upside down, by an iterator over its states. -/
import Derived.Test.YtofheegapiicoaaBarsC
import Derived.RangeFuncNested
import Derived.RangeFuncBound
import Derived.RangeFuncCalls
import Derived.RangeFuncLeaves
import Derived.Shelf.Abstract
import Derived.Shelf.RegionOpen
import Derived.OwnWalkIn
import Derived.TacticsInMore
import Derived.LoopNIn
import Derived.LoopIn
set_option linter.unusedVariables false
set_option linter.unusedSimpArgs false
namespace Go.Proofs.Ytofheegapiicoaa
open Go.RowKit Go.Shelf Go.Proofs.YtofheegapiicoaaW.PrintWords
attribute [local go_sem] Oper.semAt_some

/-- A state upside down. -/
def fl (n : Int) : Int := if n = 1 then 2 else if n = 2 then 1 else n
abbrev St5 := { x : Int // 0 ≤ x ∧ x ≤ 4 }
/-- The state of the letter before place j, upside down; 0 where there is none. -/
def flAt (s : ByteArray) (j : Nat) : St5 := if h : 0 ≤ fl (gl s (j - 1)) ∧ fl (gl s (j - 1)) ≤ 4 then ⟨fl (gl s (j - 1)), h⟩ else ⟨0, by omega⟩
/-- The states that have come when j letters are left. -/
def came (s : ByteArray) : Nat → Nat → List St5
  | _, 0 => []
  | j, d + 1 => came s (j + 1) d ++ [flAt s (j + 1)]
theorem came_length (s : ByteArray) : ∀ d j, (came s j d).length = d := by
  intro d
  induction d with
  | zero => intro j; rfl
  | succ d ih => intro j; simp [came, ih]

set_option maxHeartbeats 2000000 in
set_option maxRecDepth 100000 in
theorem around1 (n : Nat) (hn : 1 ≤ n) (s : ByteArray) (hs : s.size ≤ 140737488351232) (hl : lettersAll s = true) (Bt : Nat) (w : World) (hB : Boxed w Bt 9 (.string s)) :
    SeqStopsK Fence.wide n Try.prog 33 #[.pointer (some ⟨Bt, 0, none⟩)] (fun x : St5 => #[.int .i64 x.1]) (fun W W' => ∀ v, Boxed W Bt 9 v → Boxed W' Bt 9 v) (fun xs => xs = came s 0 s.size) (fun _ => True) s.size w := by
  intro l J Jx W hW hJ hJx hY h0
  have hBW : Boxed W Bt 9 (.string s) := (hW.block _ hB.lt).trans hB
  clear hB
  refine callsIn_of_wp Try.func33 rfl trivial ?_ rfl
  simp only [Try.ntmps33, List.size_toArray, List.length_cons, List.length_nil, Nat.reduceAdd, Nat.reduceSub, Array.replicate_succ, Array.replicate_zero, List.push_toArray, List.append_toArray, List.nil_append, List.cons_append]
  have hc := hBW.cell
  gi_wp2
  gi_loopw [3] (fun i wr => ∃ j : Nat, j ≤ s.size ∧ i = .int .i64 ((j : Int) - 1) ∧ J (came s j (s.size - j)) wr ∧ Boxed wr Bt 9 (.string s)) (fun i _ => (intOf i + 1).toNat)
  case atStart =>
    refine ⟨s.size, Nat.le_refl _, rfl, ?_, hBW⟩
    rw [Nat.sub_self]
    exact h0
  case round =>
    obtain ⟨j, hj, rfl, hJs, hBr⟩ := hrel
    have HJ := Aside0.mk hJs
    have HBr := Aside0.mk hBr
    have hcr := hBr.cell
    clear hJs hBr
    cases j with
    | zero =>
      gi_wp2
      go_end0
      exact ⟨⟨_, rfl⟩, .inl ⟨_, rfl, HJ.out⟩⟩
    | succ j =>
      have ej : ((j + 1 : Nat) : Int) - 1 = (j : Int) := by omega
      rw [ej]
      have hl1 := lettersAll_at hl j (by omega)
      have hg := gl_at s j (by omega)
      have hg4 := (st_range ((s[j]'(by omega)).toNat : Int)).2
      have hw32 : wrap32 ((s[j]'(by omega)).toNat : Int) = ((s[j]'(by omega)).toNat : Int) := by
        have := (s[j]'(by omega)).toNat_lt
        unfold wrap32
        omega
      have hsub : Aside0 (s.size - j = s.size - (j + 1) + 1) := ⟨by omega⟩
      have hcame : Aside0 (came s j (s.size - j) = came s (j + 1) (s.size - (j + 1)) ++ [flAt s (j + 1)]) := ⟨by rw [hsub.out]; rfl⟩
      have hfl : Aside0 ((flAt s (j + 1)).1 = fl (st ((s[j]'(by omega)).toNat : Int))) := ⟨by
        have e : j + 1 - 1 = j := by omega
        unfold flAt
        rw [e, hg, dif_pos]
        unfold fl
        split
        · omega
        · split
          · omega
          · omega⟩
      clear hg
      gi_wp2
      refine ⟨trivial, callsIn_wide.2 ?_⟩
      rw [hw32]
      refine (state_any _ wr (by omega)).mono ?_
      rintro e w2 ⟨rfl, hb2⟩
      have HJ2 : Aside0 (J (came s (j + 1) (s.size - (j + 1))) w2) := ⟨hJ _ _ _ none HJ.out (grown_of_below hb2 none) (by simp)⟩
      have hB2 : Boxed w2 Bt 9 (.string s) := (hb2.block _ HBr.out.lt).trans HBr.out
      have HB2 := Aside0.mk hB2
      have hs2 := hb2.size
      obtain ⟨fn, tmps, assign, body, hy, hR⟩ := hY _ (flAt s (j + 1)) w2 HJ2.out (by rw [came_length]; omega)
      rw [hfl.out] at hy
      have HR := Aside0.mk hR
      clear hR hb2 hB2 hw32
      generalize st ((s[j]'(by omega)).toNat : Int) = c at hl1 hg4 hy hfl ⊢
      by_cases c1 : c = 1
      · subst c1
        rw [show fl 1 = 2 from rfl] at hy
        gi_wp2
        refine HR.out.mono ?_
        rintro e w3 (⟨rfl, hJ3, hk3⟩ | ⟨rfl, hJx3⟩)
        · gi_wp2
          exact ⟨⟨j, by omega, rfl, by rw [hcame.out]; exact hJ3, hk3 _ HB2.out⟩, by simp [intOf]⟩
        · gi_wp2
          exact bodyPost_ret (v := .tuple #[]) (by simp [results, Try.results33, go_sem]) rfl ⟨⟨_, rfl⟩, .inr ⟨_, trivial, hJx3⟩⟩
      · by_cases c2 : c = 2
        · subst c2
          rw [show fl 2 = 1 from rfl] at hy
          gi_wp2
          refine HR.out.mono ?_
          rintro e w3 (⟨rfl, hJ3, hk3⟩ | ⟨rfl, hJx3⟩)
          · gi_wp2
            exact ⟨⟨j, by omega, rfl, by rw [hcame.out]; exact hJ3, hk3 _ HB2.out⟩, by simp [intOf]⟩
          · gi_wp2
            exact bodyPost_ret (v := .tuple #[]) (by simp [results, Try.results33, go_sem]) rfl ⟨⟨_, rfl⟩, .inr ⟨_, trivial, hJx3⟩⟩
        · rw [show fl c = c by unfold fl; rw [if_neg c1, if_neg c2]] at hy
          have d1 : (c == 1) = false := by simpa using c1
          have d2 : (c == 2) = false := by simpa using c2
          gi_wp2
          refine HR.out.mono ?_
          rintro e w3 (⟨rfl, hJ3, hk3⟩ | ⟨rfl, hJx3⟩)
          · gi_wp2
            exact ⟨⟨j, by omega, rfl, by rw [hcame.out]; exact hJ3, hk3 _ HB2.out⟩, by simp [intOf]⟩
          · gi_wp2
            exact bodyPost_ret (v := .tuple #[]) (by simp [results, Try.results33, go_sem]) rfl ⟨⟨_, rfl⟩, .inr ⟨_, trivial, hJx3⟩⟩

theorem around_any (s : ByteArray) (w : World) :
    Calls Try.prog 25 #[.string s] w fun e w' => e = .returned (.func (.func 33) #[] #[.pointer (some ⟨w.heap.size, 0, none⟩)]) ∧ w.alloc (.cells #[.string s] 9) = w' := by
  have hmf : ∀ (fn : Fn) (first cap : Array Value) (w : World), (Instr.makeFunc fn first cap).run Try.prog w = .ok (.func fn first cap) w := fun _ _ _ _ => rfl
  go_enter Try.func25, Try.ntmps25
  go_wp2
  go_ret
  exact ⟨rfl, rfl⟩

theorem builderF_cells {T e : TypeId} {B b : Nat} {p : Value} {bs : List Value} {w w' : World} (h : Lib.BuilderAtF T e B b p bs w) (hk : ∀ (k : Nat) (o : Obj), w.heap[k]? = some o → o.isCells = true → w'.heap[k]? = some o) : Lib.BuilderAtF T e B b p bs w' := by
  obtain ⟨hB, v, hb, hown, hne⟩ := h
  refine ⟨hB, v, hk _ _ hb rfl, ⟨hown.1, ?_⟩, hne⟩
  rcases hown.2 with hn | ⟨g, cap, cur, fz, hv, hbg, hg, rest⟩
  · exact .inl hn
  · exact .inr ⟨g, cap, cur, fz, hv, hbg, hk _ _ hg rfl, rest⟩
theorem isBuilderF_cells {T e : TypeId} {B b : Nat} {bs : List Value} {w w' : World} (h : Lib.IsBuilderF T e B b bs w) (hk : ∀ (k : Nat) (o : Obj), w.heap[k]? = some o → o.isCells = true → w'.heap[k]? = some o) : Lib.IsBuilderF T e B b bs w' :=
  h.elim (fun x => .inl (builderF_cells x hk)) (fun x => .inr (builderF_cells x hk))
theorem keepsOthers_of {e : TypeId} {B b : Nat} {bs : List Value} {T : TypeId} {w w' : World} (hb : Lib.IsBuilderF T e B b bs w) (hs : w.heap.size ≤ w'.heap.size) (h : Lib.OthersKept e (some b) w w') : KeepsOthers w w' := by
  refine ⟨hs, fun k o hk ho => h k o hk ?_ ?_⟩
  · rintro h1
    cases h1
    rcases hb with ⟨_, v, hv, _⟩ | ⟨_, v, hv, _⟩
    all_goals
      rw [hk] at hv
      cases hv
      simp [Obj.isCells] at ho
  · rintro c fz rfl
    simp [Obj.isCells] at ho

def turnText (s : ByteArray) : List UInt8 := (came s 0 s.size).map fun x => lb x.1

set_option maxHeartbeats 2000000 in
set_option maxRecDepth 100000 in
theorem turn_any (s : ByteArray) (w : World) (hs : s.size ≤ 200) (hl : lettersAll s = true) :
    Calls Try.prog 21 #[.string s] w fun e w' => e = .returned (.string ⟨(turnText s).toArray⟩) ∧ Below w.heap.size w w' := by
  refine (callsIn_wide (n := 5)).1 ?_
  refine callsIn_of_wp_marks Try.func21 rfl trivial ?_ rfl
  simp only [Try.ntmps21, List.size_toArray, List.length_cons, List.length_nil, Nat.reduceAdd, Nat.reduceSub, Array.replicate_succ, Array.replicate_zero, List.push_toArray, List.append_toArray, List.nil_append, List.cons_append]
  gi_wp2
  refine ⟨trivial, callsIn_wide.2 ((around_any s _).mono ?_)⟩
  rintro e w1 ⟨rfl, rfl⟩
  gi_wp2
  obtain ⟨W, hW⟩ : ∃ W, (w.alloc (.cells #[.pointer none, .slice none 0 0] 42)).alloc (.cells #[.string s] 9) = W := ⟨_, rfl⟩
  have hsz : W.heap.size = w.heap.size + 2 := by rw [← hW]; simp
  have hB1 : Boxed W (w.heap.size + 1) 9 (.string s) := by
    rw [← hW]
    have := Boxed.new (w.alloc (.cells #[.pointer none, .slice none 0 0] 42)) 9 (.string s)
    rw [World.size_alloc] at this
    exact this
  have hbl : Below w.heap.size w W := by rw [← hW]; exact ((Below.refl _ w).alloc (Nat.le_refl _) _).alloc (by simp) _
  have hbu : Lib.IsBuilderF 42 5 w.heap.size w.heap.size (Lib.byteCells []) W := by rw [← hW]; exact (Lib.IsBuilderF.of (Lib.fresh_isBuilder _ _ w)).alloc _
  have hlen : Aside0 ((came s 0 s.size).length ≤ 200) := ⟨by rw [came_length]; exact hs⟩
  have hown : OwnFrom W.heap.size (fun (pre : List St5) (X : World) => Lib.IsBuilderF 42 5 w.heap.size w.heap.size (Lib.byteCells (pre.map fun x => lb x.1)) X) := by
    intro pre X Y row hI hg hr
    exact isBuilderF_cells hI (fun k o hk hc => (grownBy_keeps_cells hg (fun r e => (hr r e).2) hk hc).trans hk)
  rw [hW]
  refine wpIn_rangeFunc_ownF rfl (by omega) (gf := 33) (lb := #[.pointer (some ⟨w.heap.size + 1, 0, none⟩)]) rfl trivial (enters_of Try.func33 (by kernel_rfl) rfl)
    (around1 _ (by omega) s (by omega) hl (w.heap.size + 1) W hB1) (fun h k v hv => k v (h v hv))
    (fun X l o o' hl' ho hc _ v hv => by
      have hne : l ≠ w.heap.size + 1 := by omega
      unfold Boxed at hv ⊢
      rw [World.putObj_heap_other (fun e => hne e.symm)]
      exact hv) (Below.refl _ _) (fun _ => rfl)
    (fun pre X => pre.length ≤ 200 ∧ Lib.IsBuilderF 42 5 w.heap.size w.heap.size (Lib.byteCells (pre.map fun x => lb x.1)) X ∧ Below w.heap.size w X)
    (fun _ _ _ => False)
    (OwnFrom.and (fun _ _ _ _ hs _ _ => hs) (OwnFrom.and hown (ownFrom_below (Nat.le_refl _) (by omega))))
    (fun _ _ _ _ _ hs _ _ => hs)
    ⟨by simp, hbu, hbl⟩
    (fun x => { tmps := #[.string s, undef, .string ⟨#[]⟩, .pointer (some ⟨w.heap.size, 0, none⟩), .int .i64 x.1, .string s, .func (.func 33) #[] #[.pointer (some ⟨w.heap.size + 1, 0, none⟩)], .int .i64 x.1, undef, undef, undef, undef], defers := [] }) ?assign ?body ?done ?stop
  case assign =>
    intro l x X K hK
    gi_wp2
    exact hK
  case body =>
    rintro l pre x X ⟨hp, hI, hb⟩ hpre
    obtain ⟨x, hx⟩ := x
    have hx0 : 0 ≤ x := hx.1
    have hx5 : x < 5 := by omega
    have HI := Aside0.mk hI
    have HB := Aside0.mk hb
    have hs := hb.size
    have hlb := lb_at x hx0 hx5
    gi_wp2
    refine ⟨trivial, CallsIn.inRound l (callsIn_wide.2 ((bWriteByteK w.heap.size w.heap.size _ _ _ HI.out (by rw [Lib.byteCells_length, List.length_map]; omega) hs).mono ?_))⟩
    rintro e X2 ⟨rfl, hI2, hb2, ho2⟩
    have HI2 := Aside0.mk hI2
    have HB2 := Aside0.mk hb2
    have HO2 := Aside0.mk ho2
    clear hI2 hb2 ho2 hI hb
    gi_wp2
    refine ⟨keepsOthers_of HI.out HB2.out.size HO2.out, ?_, ?_, ?_, HB.out.trans HB2.out⟩
    · intro v hv
      refine HO2.out _ _ hv (by simp) ?_
      intro c fz h
      cases h
    · simp; omega
    · have := HI2.out
      rw [List.map_append, Lib.byteCells_append]
      exact .inr this
  case done =>
    rintro D ys X hD rfl ⟨hp, hI, hb⟩ hK
    have HB := Aside0.mk hb
    have HS := Aside0.mk hb.size
    have HK := Aside0.mk hK
    clear hK
    gi_wp2
    refine ⟨trivial, callsIn_wide.2 ((bStringK w.heap.size w.heap.size _ _ hI HS.out).mono ?_)⟩
    rintro e X2 ⟨rfl, _, hb2, ho2⟩
    have HB2 := Aside0.mk hb2
    have hK2 : X2.heap[D]? = some (.deferred (some [])) := by
      refine ho2 _ _ HK.out ?_ (by intro c fz h; cases h)
      intro h
      cases h
      omega
    have HK2 := Aside0.mk hK2
    clear hb2 ho2 hK2 hI hb
    gi_wp2
    refine ⟨by simp, .inl ⟨_, _, rfl, run_takeDeferred HK2.out, ?_⟩⟩
    exact ⟨_, results_tmp rfl _ _ _, by simp [turnText], (HB.out.trans HB2.out).trans (belowK_b (w := w) (Nat.le_refl _) X2 D _ _ (by omega) HK2.out rfl rfl)⟩
  case stop =>
    rintro D c pre X _ _ h _
    exact h.elim

/-! ### the contract, and plain words on the text turned -/
theorem lb_st (c : Int) (h : 0 ≤ st c) : ((lb (st c)).toNat : Int) = c := by
  have h2 := st_lt c h
  unfold st at h ⊢
  repeat' split
  all_goals first | (subst_vars; decide) | (exfalso; simp_all) | omega
def turnW (s : ByteArray) : ByteArray := ⟨(turnText s).toArray⟩
def bars_turn.f (s : ByteArray) : Option ByteArray := if s.size ≤ 200 ∧ lettersAll s = true then some (turnW s) else none
theorem bars_turn.calls (a0 : ByteArray) (r : ByteArray) (w : World) (h : bars_turn.f a0 = some r) :
    Calls Try.prog 21 #[.string a0] w fun e w' => e = .returned (.string r) ∧ Below w.heap.size w w' := by
  unfold bars_turn.f at h
  split at h
  · obtain rfl := Option.some.inj h
    exact turn_any a0 w (by omega) (by simp_all)
  · cases h
end Go.Proofs.Ytofheegapiicoaa
