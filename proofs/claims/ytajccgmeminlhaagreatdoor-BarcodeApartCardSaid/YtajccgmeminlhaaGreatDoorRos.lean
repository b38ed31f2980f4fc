/- Ros, of the parts Roots, RangeG, Sort: each part tells what it proves. -/
import Derived.Test.YtajccgmeminlhaaGreatDoorSolPure
import Derived.Test.YtajccgmeminlhaaGreatDoorEnc
import Derived.RangeFuncNested
import Derived.Test.YtajccgmeminlhaaGreatDoorQ2
section
/- field.trim, field.Roots: walks. -/
set_option linter.unusedVariables false
set_option linter.unusedSimpArgs false
namespace Go.Proofs.YtajccgmeminlhaaGreatDoor
open Go.RowKit Go.Shelf Go.Proofs.YtajccgmeminlhaaGreatDoorW.PrintWords Go.Proofs.YtajccgmeminlhaaGreatDoor.Q Go.Proofs.YtajccgmeminlhaaGreatDoor.Gf

set_option maxHeartbeats 4000000 in
set_option maxRecDepth 100000 in
/-- A polynomial whose last element is not 0. -/
theorem trim_any (A : Option Addr) (c : Nat) (l : List G) (w : World) (hr : Kd.C (Kd.int .u8) w A l.length (ns l)) (hc : l.length ≤ c) (hn : l.length ≤ 1000) (h0 : 0 < l.length) (hlast : (l.getD (l.length - 1) 0).n ≠ 0) :
    Calls Tryz.prog 140 #[.slice A l.length c] w fun e w' => ∃ v, e = .returned v ∧ Own .u8 5 w' w.heap.size v (ns l) ∧ Below w.heap.size w w' := by
  have hcl := clone_u8 A c (ns l) w (by rw [ns_length]; exact hr) (by rw [ns_length]; exact hc) (by rw [ns_length]; omega)
  rw [ns_length] at hcl
  have HC := Aside0.mk hcl
  obtain ⟨ad, rfl, hx⟩ := Kd.at_int hr (l.length - 1 : Nat) (by omega) (by omega)
  rw [ns_rd, Int.toNat_natCast] at hx
  obtain ⟨q, hq⟩ : ∃ q, l.length = q + 1 := ⟨l.length - 1, by omega⟩
  rw [hq] at HC hx hc ⊢
  rw [hq] at hlast
  rw [show q + 1 - 1 = q from rfl] at hx hlast
  have hne : ¬ (((l.getD q 0).n : Int) = 0) := by omega
  have hneb : (((l.getD q 0).n : Int) == 0) = false := beq_eq_false_iff_ne.2 hne
  have hql : (q : Int) + 1 ≤ 1000 := by omega
  generalize l.getD q 0 = x at hx hne hneb
  clear hr hcl h0 hn hlast hq
  go_enter Tryz.func140, Tryz.ntmps140
  go_wp2_with fail
  refine wp_loop_rounds 1 ?_
  rw [rounds_succ]
  go_wp2_with fail
  refine HC.out.mono ?_
  rintro e w1 ⟨v, rfl, ho, hb⟩
  have HO := Aside0.mk ho
  have HB := Aside0.mk hb
  clear ho hb
  go_wp2
  go_ret
  exact ⟨_, rfl, HO.out, HB.out⟩
def gOf (x : Nat) : G := if h : x < 64 then ⟨x, h⟩ else 0
theorem gOf_n (x : Nat) (h : x < 64) : (gOf x).n = x := by unfold gOf; rw [dif_pos h]
def isRoot (p : List G) (x : G) : Bool := decide (horner x p = 0)
/-- The first roots. -/
def rootsN (p : List G) (k : Nat) : List G := ((List.range k).map gOf).filter (isRoot p)
theorem rootsN_succ (p : List G) (k : Nat) : rootsN p (k + 1) = rootsN p k ++ (if isRoot p (gOf k) then [gOf k] else []) := by
  unfold rootsN
  rw [List.range_succ, List.map_append, List.filter_append]
  congr 1
  simp [List.filter_cons]
theorem rootsN_length (p : List G) (k : Nat) : (rootsN p k).length ≤ k := by
  unfold rootsN
  refine Nat.le_trans (List.length_filter_le _ _) ?_
  simp
set_option maxHeartbeats 4000000 in
set_option maxRecDepth 100000 in
theorem Roots_any (A : Option Addr) (c : Nat) (l : List G) (w : World) (hp : PW w) (hr : Kd.C (Kd.int .u8) w A l.length (ns l)) (hc : l.length ≤ c) (hn : l.length ≤ 128) (h0 : 0 < l.length) (hlast : (l.getD (l.length - 1) 0).n ≠ 0) :
    Calls Tryz.prog 118 #[.slice A l.length c] w fun e w' => ∃ v, e = .returned (.tuple #[v, .int .i64 0]) ∧ Own .u8 5 w' w.heap.size v (ns (rootsN l 64)) ∧ Below w.heap.size w w' := by
  obtain ⟨w0, hw0⟩ : ∃ w0, w.alloc (.cells #[.slice A l.length c] 48) = w0 := ⟨_, rfl⟩
  have hb0 : Below w.heap.size w w0 := by rw [← hw0]; exact (Below.refl _ w).alloc (Nat.le_refl _) _
  have hr0 := Kd.C_below hr hb0
  have hck := check1_any w.heap.size A c (ns l) w0 (by rw [ns_length]; exact hr0) (by rw [ns_length]; exact hc) (by rw [ns_length]; exact hn) (ns_big l) (by rw [ns_length, ← hw0]; exact lit_cell w _ _ 0)
  have HCK := Aside0.mk hck
  have HT := Aside0.mk (trim_any A c l w0 hr0 hc (by omega) h0 hlast)
  have HB0 := Aside0.mk hb0
  have HP := Aside0.mk hp
  have HR := Aside0.mk hr
  clear hb0 hr0 hck hp hr
  have hpos : ¬ ((l.length : Int) = 0) := by omega
  have hposb : ((l.length : Int) == 0) = false := beq_eq_false_iff_ne.2 hpos
  go_enter Tryz.func118, Tryz.ntmps118
  go_wp2_with (first | rw [hw0])
  refine HCK.out.mono ?_
  rintro e w1 ⟨rfl, rfl⟩
  go_wp2_with fail
  refine HT.out.mono ?_
  rintro e w2 ⟨v, rfl, ho, hb⟩
  obtain ⟨A2, c2, rfl⟩ := own_form ho
  rw [ns_length]
  have HB2 := Aside0.mk (HB0.out.trans (hb.mono HB0.out.size))
  clear ho hb HCK HT
  go_wp2_with fail
  go_loopw [5, 17] (fun o i wr => ∃ k : Nat, k ≤ 64 ∧ i = .int .u8 k ∧ Own .u8 5 wr w.heap.size o (ns (rootsN l k)) ∧ Below w.heap.size w wr) (fun _ i _ => 64 - (intOf i).toNat)
  case atStart => exact ⟨0, Nat.zero_le _, rfl, World.ownsRow_nil _ _ _ _, HB2.out⟩
  case round =>
    obtain ⟨k, hk, rfl, hO, hB⟩ := hrel
    have HO := Aside0.mk hO
    have HB := Aside0.mk hB
    clear hO hB
    by_cases hpk : k < 64
    · have hki : (k : Int) < 64 := by omega
      have HE := Aside0.mk (eval_any A c l (gOf k) wr (HP.out.below HB.out) (Kd.C_below HR.out HB.out) hc (by omega))
      rw [gOf_n k hpk] at HE
      have HSU := Aside0.mk (rootsN_succ l k)
      have HGN := Aside0.mk (gOf_n k hpk)
      go_wp2_with fail
      refine HE.out.mono ?_
      rintro e w3 ⟨rfl, hb3⟩
      have HO3 := Aside0.mk (HO.out.below hb3)
      have HB3 := Aside0.mk (HB.out.trans (hb3.mono HB.out.size))
      have HS3 := Aside0.mk HB3.out.size
      have HL3 := Aside0.mk (show ((ns (rootsN l k)).length + 1) * 1 ≤ 140737488355328 by have := rootsN_length l k; rw [ns_length]; omega)
      clear hb3
      by_cases hz : horner (gOf k) l = 0
      · have hzn : (horner (gOf k) l).n = 0 := by rw [hz]; rfl
        have HIS := Aside0.mk (show isRoot l (gOf k) = true from decide_eq_true hz)
        rw [hzn]
        go_wp2_with (first | (at_builtin; refine print_append_num (w0 := w) w.heap.size rfl _ _ 48 5 .u8 1 rfl Tryz.underlying48 info_u8 (by decide) u5 (ns (rootsN l k)) _ rfl rfl HO3.out HB3.out HS3.out HL3.out ?_; intro v5 w5 hown hB5 hg hat; have HO5 := Aside0.mk hown; have HB5 := Aside0.mk hB5; clear hown hB5 hg hat))
        go_roundw
        case rel =>
          refine ⟨k + 1, by omega, by go_num, ?_, HB5.out⟩
          rw [HSU.out, if_pos HIS.out, ns_append]
          have e1 : ns [gOf k] = [(k : Int)] := by unfold ns; rw [List.map_cons, HGN.out]; rfl
          rw [e1]
          exact HO5.out
        case measure => simp [intOf]; omega
      · have hzn : ¬ (((horner (gOf k) l).n : Int) = 0) := fun h => hz (G.ext (by show (horner (gOf k) l).n = 0; omega))
        have hznb : (((horner (gOf k) l).n : Int) == 0) = false := beq_eq_false_iff_ne.2 hzn
        have HIS := Aside0.mk (show isRoot l (gOf k) = false from decide_eq_false hz)
        go_wp2_with fail
        go_roundw
        case rel =>
          refine ⟨k + 1, by omega, by go_num, ?_, HB3.out⟩
          rw [HSU.out, if_neg (by rw [HIS.out]; simp), List.append_nil]
          exact HO3.out
        case measure => simp [intOf]; omega
    · have e64 : k = 64 := by omega
      have hki : ¬ ((k : Int) < 64) := by omega
      have HOF := Aside0.mk (show Own .u8 5 wr w.heap.size u5 (ns (rootsN l 64)) by rw [← e64]; exact HO.out)
      go_wp2_with fail
      go_ret2
      exact ⟨_, rfl, HOF.out, HB.out⟩
end Go.Proofs.YtajccgmeminlhaaGreatDoor
end
section
/- A range over an iterator that hands over slices which it has made itself: the contract of such an iterator, and the law of the loop. -/
set_option linter.unusedVariables false
set_option linter.unusedSimpArgs false
namespace Go.Proofs.YtajccgmeminlhaaGreatDoor
open Go.RowKit Go.Shelf Go.Proofs.YtajccgmeminlhaaGreatDoorW.PrintWords Go.Proofs.YtajccgmeminlhaaGreatDoor.Gf

/-- An iterator over lists of elements, each in memory that can be read while the round runs. -/
def GivesG (n : Nat) (P : Program) (g : Nat) (lb : Array Value) (GL : List (List G)) (w : World) : Prop :=
  ∀ (l : Nat) (J : Nat → World → Prop) (Jx : World → Prop) (W : World), Below w.heap.size w W →
    (∀ i X X', J i X → Below X.heap.size X X' → J i X') →
    (∀ i A c X, i < GL.length → J i X → (GL.getD i []).length ≤ c → Kd.C (Kd.int .u8) X A (GL.getD i []).length (ns (GL.getD i [])) →
      YieldAt Fence.wide (n - 1) P l #[.slice A (GL.getD i []).length c] X fun e X' => ∃ b : Bool, e = .returned (.bool b) ∧ if b = true then (Below w.heap.size X X' ∧ J (i + 1) X') else Jx X') →
    J 0 W →
    CallsIn Fence.wide n P g (#[.func (.yield l) #[] #[]] ++ lb) W fun e W' => (∃ v, e = .returned v) ∧ (J GL.length W' ∨ Jx W')

/-- How a round may be left: on to the next one, nothing turned that lay there; or for good. -/
def gPost (phi : Nat → Prop) (Ix : World → Prop) (i : Nat) (W : World) : Exit → Act → World → Prop
  | .normal, _, W' => Below W.heap.size W W' ∧ phi (i + 1)
  | .ret, _, W' => (∀ (k : Nat) (o : Obj), W.heap[k]? = some o → o.isCells = false → W'.heap[k]? = some o) ∧ Ix W'
  | _, _, _ => False

theorem cell_putObj {W : World} {l : Nat} {o o' : Obj} (hl : W.heap[l]? = some o) (ho : o.isCells = false) {p : Addr} {v : Value} (h : W.cell? p = some v) : (W.putObj l o').cell? p = some v := by
  have hne : p.block ≠ l := fun e => by
    unfold World.cell? at h
    rw [e, hl] at h
    cases o <;> simp [Obj.isCells] at ho h
  exact (World.cell?_of_block (World.putObj_heap_other hne)).trans h
theorem reads_putObj {W : World} {l : Nat} {o o' : Obj} (hl : W.heap[l]? = some o) (ho : o.isCells = false) {k : IntKind} {A : Option Addr} {n : Nat} {xs : List Int} (h : Kd.C (Kd.int k) W A n xs) : Kd.C (Kd.int k) (W.putObj l o') A n xs := by
  obtain ⟨h1, h2, h3⟩ := Kd.reads_of_C h
  exact Kd.C_of_reads (d := (0 : Int)) (h1 := fun _ => rfl) ⟨h1, h2, fun hp => by
    obtain ⟨ad, e, hc⟩ := h3 hp
    exact ⟨ad, e, fun j hj => cell_putObj hl ho (hc j hj)⟩⟩
theorem rangeG {n : Nat} {P : Program} {g : Operand} {ps : Array Tmp} {assign body : Go.Code} {Q : Exit → Act → World → Prop} {a : Act} {w w0 : World}
    (h1 : 1 ≤ n) {gf : Nat} {lb : Array Value} (hg : a.eval g = .func (.func gf) #[] lb) (eg : ∀ args w, (callFunc gf args).run P w = .ok (.enter gf args) w)
    {GL : List (List G)} (hG : GivesG (n - 1) P gf lb GL w0) (hb0 : Below w0.heap.size w0 w) (hps : ps.size = 1)
    (phi : Nat → Prop) (Ix : World → Prop) (hIx : ∀ (X : World) (k : Nat) (o o' : Obj), Ix X → w.heap.size ≤ k → X.heap[k]? = some o → o.isCells = false → Ix (X.putObj k o'))
    (h0 : phi 0) (a₁ : Option Addr → Nat → List G → Act)
    (hassign : ∀ (l : Nat) (A : Option Addr) (c : Nat) (L : List G) (X : World) (K : Act → World → Prop), K (a₁ A c L) X →
      assign.wpIn (Fence.wide.inRound l) (n - 1 - 1) P (Exit.then K (fun _ _ _ => False)) { tmps := (ps.zip #[.slice A L.length c]).foldl (fun t (p, v) => t.setIfInBounds p v) a.tmps, defers := [] } X)
    (hbody : ∀ (l : Nat) (i : Nat) (A : Option Addr) (c : Nat) (X : World), i < GL.length → Below w.heap.size w X → w.heap.size ≤ X.heap.size → phi i → (GL.getD i []).length ≤ c → Kd.C (Kd.int .u8) X A (GL.getD i []).length (ns (GL.getD i [])) →
      body.wpIn (Fence.wide.inRound l) (n - 1 - 1) P (gPost phi Ix i X) (a₁ A c (GL.getD i [])) X)
    (hdone : ∀ (D : Nat) (X : World), w.heap.size ≤ D → Below w.heap.size w X → phi GL.length → X.heap[D]? = some (.deferred (some [])) → Q .normal { a with defers := { target := .collected D, args := #[] } :: a.defers } X)
    (hstop : ∀ (D : Nat) (X : World), w.heap.size ≤ D → Ix X → X.heap[D]? = some (.deferred (some [])) → Go.Code.ret.wpIn Fence.wide n P Q { a with defers := { target := .collected D, args := #[] } :: a.defers } X) :
    (Go.Code.rangeFunc g ps assign body).wpIn Fence.wide n P Q a w := by
  refine wpIn_rangeFunc ?_
  intro fn hfn
  show ∃ _ _ _ _ _ _ _ _, _
  rw [show Fence.wide.round = none from rfl]
  obtain ⟨rec, hrec⟩ : ∃ rec : LoopState → Option Go.Code → Loop, rec = fun st pe => { state := st, pending := pe, fn, tmps := a.tmps, params := ps, assign, body, defers := w.heap.size } := ⟨_, rfl⟩
  obtain ⟨W1, hW1⟩ : ∃ W1, (w.alloc (.deferred (some []))).alloc (.loop (rec .ready none)) = W1 := ⟨_, rfl⟩
  have hL1 : W1.heap[w.heap.size + 1]? = some (.loop (rec .ready none)) := by
    rw [← hW1]
    have := World.alloc_heap_new (w.alloc (.deferred (some []))) (.loop (rec .ready none))
    rwa [World.size_alloc] at this
  have hK1 : W1.heap[w.heap.size]? = some (.deferred (some [])) := by
    rw [← hW1]
    exact (Below.heap_alloc _ _ _ (by simp)).trans (World.alloc_heap_new w _)
  have hbw : Below w.heap.size w W1 := by rw [← hW1]; exact ((Below.refl _ w).alloc (Nat.le_refl _) _).alloc (by simp) _
  have hput : ∀ (X : World) (o : Obj), w.heap.size + 1 < X.heap.size → Below w.heap.size w X → Below w.heap.size w (X.putObj (w.heap.size + 1) o) := fun X o hlt hb =>
    hb.grown (grownBy_putObj' X _ o) (by omega) (fun k e => by cases e; omega)
  refine ⟨w.heap.size + 1, [{ target := .collected w.heap.size, args := #[] }], W1, { target := .fn (.func gf) lb, args := #[.func (.yield (w.heap.size + 1)) #[] #[]] }, W1, gf,
    #[.func (.yield (w.heap.size + 1)) #[] #[]] ++ lb, W1, ?_, ?_, fun _ _ => trivial, ?_, fun _ => h1, ?_⟩
  · rw [← hW1, hrec]; exact run_enterLoop_outer _ _ _ _ _
  · simp only [resolve, hg]
    simp [go_sem]
  · simp [invoke, go_sem, eg]
  · refine (hG (w.heap.size + 1)
      (fun i X => Below w.heap.size w X ∧ phi i ∧ X.heap[w.heap.size + 1]? = some (.loop (rec .ready none)) ∧ X.heap[w.heap.size]? = some (.deferred (some [])))
      (fun X => Ix X ∧ X.heap[w.heap.size + 1]? = some (.loop (rec .done (some .ret))) ∧ X.heap[w.heap.size]? = some (.deferred (some [])))
      W1 (hb0.trans (hbw.mono hb0.size))
      (fun i X X' hs hb => by
        have h1 := (Array.getElem?_eq_some_iff.1 hs.2.2.1).1
        exact ⟨hs.1.trans (hb.mono hs.1.size), hs.2.1, (hb.block _ h1).trans hs.2.2.1, (hb.block _ (by omega)).trans hs.2.2.2⟩)
      ?_ ⟨hbw, h0, hL1, hK1⟩).mono ?_
    · -- one round
      rintro i A c W hlen ⟨hbW, hphi, hl, hk⟩ hcap hread
      have hlt : w.heap.size + 1 < W.heap.size := (Array.getElem?_eq_some_iff.1 hl).1
      have hy := run_yield (P := P) (args := #[.slice A (GL.getD i []).length c]) hl (by rw [hrec, hps]; rfl)
      rw [hrec] at hy
      refine ⟨fn, _, assign, body, hy, roundIn_of_wpIn hfn (hassign _ A c (GL.getD i []) W _ ⟨_, run_beginRound hl (by rw [hrec]), ?_⟩)⟩
      obtain ⟨W2, hW2⟩ : ∃ W2, W.putObj (w.heap.size + 1) (.loop { rec .ready none with state := .busy }) = W2 := ⟨_, rfl⟩
      have hl2 : W2.heap[w.heap.size + 1]? = some (.loop { rec .ready none with state := .busy }) := by rw [← hW2]; exact World.putObj_heap_same hlt
      have hk2 : W2.heap[w.heap.size]? = some (.deferred (some [])) := by rw [← hW2]; exact (World.putObj_heap_other (by omega)).trans hk
      have hb2 : Below w.heap.size w W2 := by rw [← hW2]; exact hput _ _ hlt hbW
      have hsz2 : W2.heap.size = W.heap.size := by rw [← hW2]; simp [World.putObj]
      have hread2 : Kd.C (Kd.int .u8) W2 A (GL.getD i []).length (ns (GL.getD i [])) := by
        rw [← hW2]
        exact reads_putObj hl rfl hread
      have hbb : Below w.heap.size W W2 := by
        rw [← hW2]
        exact (Below.refl _ W).grown (grownBy_putObj' W _ _) (by omega) (fun k e => by cases e; omega)
      rw [hW2]
      refine wpIn_mono (hbody _ i A c W2 hlen hb2 (by omega) hphi hcap hread2) ?_
      have fin : ∀ (jump : Option Go.Code) (W3 : World), (∀ (k : Nat) (o : Obj), W2.heap[k]? = some o → o.isCells = false → W3.heap[k]? = some o) →
          (Instr.endRound (w.heap.size + 1) jump).run P W3 = .ok (.bool jump.isNone) (W3.putObj (w.heap.size + 1) (.loop (rec (if jump.isNone then .ready else .done) jump))) ∧
          W3.heap[w.heap.size + 1]? = some (.loop { rec .ready none with state := .busy }) ∧
          (W3.putObj (w.heap.size + 1) (.loop (rec (if jump.isNone then .ready else .done) jump))).heap[w.heap.size + 1]? = some (.loop (rec (if jump.isNone then .ready else .done) jump)) ∧
          (W3.putObj (w.heap.size + 1) (.loop (rec (if jump.isNone then .ready else .done) jump))).heap[w.heap.size]? = some (.deferred (some [])) := fun jump W3 hk3 => by
        have hl3 := hk3 _ _ hl2 rfl
        have := run_endRound (P := P) jump hl3
        rw [hrec] at this ⊢
        exact ⟨this, by rw [hrec] at hl3; exact hl3, World.putObj_heap_same (Array.getElem?_eq_some_iff.1 hl3).1, (World.putObj_heap_other (by omega)).trans (hk3 _ _ hk2 rfl)⟩
      rintro e a3 W3 hp
      cases e with
      | normal =>
        obtain ⟨hb3, hphi3⟩ := hp
        obtain ⟨hr, hl3, hl4, hk4⟩ := fin none W3 (fun k o hk _ => (hb3.block k (Array.getElem?_eq_some_iff.1 hk).1).trans hk)
        have hlt3 : w.heap.size + 1 < W3.heap.size := (Array.getElem?_eq_some_iff.1 hl3).1
        have hb23 : Below w.heap.size W2 W3 := hb3.mono hb2.size
        refine ⟨_, _, hr, true, rfl, ?_⟩
        rw [if_pos rfl]
        refine ⟨?_, ⟨hput _ _ hlt3 (hb2.trans hb23), hphi3, hl4, hk4⟩⟩
        have hall : Below w.heap.size W (W3.putObj (w.heap.size + 1) (.loop (rec (if (none : Option Go.Code).isNone then .ready else .done) none))) :=
          (hbb.trans hb23).grown (grownBy_putObj' W3 _ _) (by omega) (fun k e => by cases e; omega)
        exact hall.mono hb0.size
      | ret =>
        obtain ⟨hk3, hi3⟩ := hp
        obtain ⟨hr, hl3, hl4, hk4⟩ := fin (some .ret) W3 hk3
        refine ⟨_, _, hr, false, rfl, ?_⟩
        rw [if_neg (by simp)]
        exact ⟨hIx _ _ _ _ hi3 (by omega) hl3 rfl, hl4, hk4⟩
      | exit id => exact hp.elim
      | goto t => exact hp.elim
      | panic ch => exact hp.elim
      | outgrown => exact hp.elim
    · -- behind the iterator
      rintro e W2 ⟨⟨v, rfl⟩, (⟨hb, hphi, hl, hk⟩ | ⟨hi, hl, hk⟩)⟩
      · exact ⟨none, _, by have := run_endLoop (P := P) hl (by rw [hrec]; simp); rw [hrec] at this; exact this, hdone _ _ (Nat.le_refl _) (hput _ _ (Array.getElem?_eq_some_iff.1 hl).1 hb) hphi ((World.putObj_heap_other (by omega)).trans hk)⟩
      · exact ⟨some .ret, _, by have := run_endLoop (P := P) hl (by rw [hrec]; simp); rw [hrec] at this; exact this, hstop _ _ (Nat.le_refl _) (hIx _ _ _ _ hi (by omega) hl rfl) ((World.putObj_heap_other (by omega)).trans hk)⟩
theorem rangeGF {n : Nat} {P : Program} {g : Operand} {ps : Array Tmp} {assign body : Go.Code} {Q : Exit → Act → World → Prop} {a : Act} {w w0 : World}
    (F : Value → Array Value → Array Value)
    (h1 : 1 ≤ n) {gf : Nat} {lb : Array Value} (hg : a.eval g = .func (.func gf) #[] lb) (eg : ∀ args w, (callFunc gf args).run P w = .ok (.enter gf args) w)
    {GL : List (List G)} (hG : GivesG (n - 1) P gf lb GL w0) (hb0 : Below w0.heap.size w0 w) (hps : ps.size = 1)
    (phi : Nat → Prop) (Ix : World → Prop) (hIx : ∀ (X : World) (k : Nat) (o o' : Obj), Ix X → w.heap.size ≤ k → X.heap[k]? = some o → o.isCells = false → Ix (X.putObj k o'))
    (h0 : phi 0)
    (hassign : ∀ (l : Nat) (A : Option Addr) (c : Nat) (L : List G) (X : World) (K : Act → World → Prop), K { tmps := F (.slice A L.length c) a.tmps, defers := [] } X →
      assign.wpIn (Fence.wide.inRound l) (n - 1 - 1) P (Exit.then K (fun _ _ _ => False)) { tmps := (ps.zip #[.slice A L.length c]).foldl (fun t (p, v) => t.setIfInBounds p v) a.tmps, defers := [] } X)
    (hbody : ∀ (l : Nat) (i : Nat) (A : Option Addr) (c : Nat) (X : World), i < GL.length → Below w.heap.size w X → w.heap.size ≤ X.heap.size → phi i → (GL.getD i []).length ≤ c → Kd.C (Kd.int .u8) X A (GL.getD i []).length (ns (GL.getD i [])) →
      body.wpIn (Fence.wide.inRound l) (n - 1 - 1) P (gPost phi Ix i X) { tmps := F (.slice A (GL.getD i []).length c) a.tmps, defers := [] } X)
    (hdone : ∀ (D : Nat) (X : World), w.heap.size ≤ D → Below w.heap.size w X → phi GL.length → X.heap[D]? = some (.deferred (some [])) → Q .normal { a with defers := { target := .collected D, args := #[] } :: a.defers } X)
    (hstop : ∀ (D : Nat) (X : World), w.heap.size ≤ D → Ix X → X.heap[D]? = some (.deferred (some [])) → Go.Code.ret.wpIn Fence.wide n P Q { a with defers := { target := .collected D, args := #[] } :: a.defers } X) :
    (Go.Code.rangeFunc g ps assign body).wpIn Fence.wide n P Q a w :=
  rangeG h1 hg eg hG hb0 hps phi Ix hIx h0 (fun A c L => { tmps := F (.slice A L.length c) a.tmps, defers := [] }) hassign hbody hdone hstop
end Go.Proofs.YtajccgmeminlhaaGreatDoor
end
section
/- slices.Sort of no more than two ints, slices.Clone of ints: walks. -/
set_option linter.unusedVariables false
set_option linter.unusedSimpArgs false
namespace Go.Proofs.YtajccgmeminlhaaGreatDoor
open Go.RowKit Go.Shelf Go.Proofs.YtajccgmeminlhaaGreatDoorW.PrintWords Go.Proofs.YtajccgmeminlhaaGreatDoorW.PrintLast Go.Proofs.YtajccgmeminlhaaGreatDoor.Q Go.Proofs.YtajccgmeminlhaaGreatDoor.Gf

set_option maxRecDepth 100000 in
theorem clone_int (A : Option Addr) (c : Nat) (l : List Int) (w : World) (hr : Kd.C (Kd.int .i64) w A l.length l) (hc : l.length ≤ c) (hn : l.length ≤ 1000000) :
    Calls Tryz.prog 82 #[.slice A l.length c] w fun e w' => ∃ v, e = .returned v ∧ Own .i64 3 w' w.heap.size v l ∧ Below w.heap.size w w' := by
  have q22 : ∀ (w : World) (a : Option Addr) (n c n' c' : Nat), (binOp .eql 29 (.slice a n c) (.slice none n' c')).run Tryz.prog w = .ok (.bool a.isNone) w := fun w a n c n' c' => Lib.run_eql_slice_nil w _ _ a n c n' c' Tryz.underlying29
  cases A with
  | none =>
    have h0 : l.length = 0 := by
      rcases Nat.eq_zero_or_pos l.length with h | h
      · exact h
      · obtain ⟨ad, h2, _⟩ := Kd.at_int hr 0 (by omega) (by simpa using h)
        cases h2
    obtain rfl : l = [] := List.eq_nil_of_length_eq_zero h0
    go_enter Tryz.func82, Tryz.ntmps82
    go_wp2_with fail
    exact bodyPost_ret (v := .slice none 0 0) (by simp [results, Tryz.results82, go_sem]) rfl ⟨_, rfl, World.ownsRow_nil _ _ _ _, Below.refl _ _⟩
  | some ad =>
    have HR := Aside0.mk (Kd.C_alloc hr (.cells #[] 3))
    have HO := Aside0.mk (World.ownsRow_lit (base := w.heap.size) (e := 3) (size := 1) w #[] 0 (Nat.le_refl _) (by decide) rfl)
    have HB := Aside0.mk ((Below.refl _ w).alloc (Nat.le_refl _) (.cells #[] 3))
    clear hr
    go_enter Tryz.func82, Tryz.ntmps82
    go_wp2_with (first | (at_builtin; refine print_append_row (w0 := w) w.heap.size rfl _ _ 29 3 .i64 8 rfl Tryz.underlying29 info_int (by decide) _ [] l (some ad) l.length c rfl rfl HO.out (Kd.reads_of_C HR.out) HB.out HB.out.size (by simp; omega) ?_; intro v1 w1 hown hB1 hg hat; have HO1 := Aside0.mk hown; have HB1 := Aside0.mk hB1; clear hown hB1 hg hat))
    exact bodyPost_ret (v := v1) (by simp [results, Tryz.results82, go_sem]) rfl ⟨_, rfl, by simpa [Own] using HO1.out, HB1.out⟩
/-- In order, up to two. -/
def sort2 : List Int → List Int
  | [a, b] => if b < a then [b, a] else [a, b]
  | l => l
theorem less_int (a b : Int) : cmp_Less_int.f a b = some (decide (a < b)) := by
  unfold cmp_Less_int.f cmp_isNaN_int.f
  simp
theorem w1 : wrap64 (0 + 1) = 1 := by unfold wrap64; omega
theorem w0 : wrap64 (1 - 1) = 0 := by unfold wrap64; omega
theorem w2 : wrap64 (1 + 1) = 2 := by unfold wrap64; omega
theorem ins_f (l : List Int) (h : l.length ≤ 2) : slices_insertionSortOrdered_int.f 10 l 0 (l.length : Int) = some (sort2 l) := by
  match l, h with
  | [], _ =>
    unfold slices_insertionSortOrdered_int.f
    rw [w1, slices_insertionSortOrdered_int.l0, if_neg (by simp)]
    rfl
  | [a], _ =>
    unfold slices_insertionSortOrdered_int.f
    rw [w1, slices_insertionSortOrdered_int.l0, if_neg (by simp)]
    rfl
  | [a, b], _ =>
    unfold slices_insertionSortOrdered_int.f
    rw [w1, slices_insertionSortOrdered_int.l0, if_pos (by simp), slices_insertionSortOrdered_int.l1, if_pos (by simp), if_pos (by simp), if_pos (by simp), w0, if_pos (by simp), if_pos (by simp)]
    rw [show rd [a, b] 1 = b from rfl, show rd [a, b] 0 = a from rfl, less_int]
    simp only [Option.bind_some]
    unfold sort2
    by_cases hba : b < a
    · simp only [decide_eq_true hba, if_true, if_pos hba]
      rw [slices_insertionSortOrdered_int.l1, if_neg (by decide), w2, slices_insertionSortOrdered_int.l0, if_neg (by simp)]
      rfl
    · simp only [decide_eq_false hba, Bool.false_eq_true, if_false, if_neg hba]
      rw [w2, slices_insertionSortOrdered_int.l0, if_neg (by simp)]
theorem sort2_length (l : List Int) : (sort2 l).length = l.length := by
  unfold sort2
  split
  · split <;> rfl
  · rfl
set_option maxHeartbeats 8000000 in
set_option maxRecDepth 1000000 in
theorem len64_any (n : Nat) (hn : n ≤ 2) (w : World) :
    Calls Tryz.prog 153 #[.int .u64 (n : Int)] w fun e w' => (∃ m, e = .returned (.int .i64 m)) ∧ w' = w := by
  have : n = 0 ∨ n = 1 ∨ n = 2 := by omega
  rcases this with rfl | rfl | rfl
  all_goals
    go_enter Tryz.func153, Tryz.ntmps153
    go_wp2_with fail
    go_ret
    exact ⟨⟨_, rfl⟩, rfl⟩
set_option maxHeartbeats 8000000 in
set_option maxRecDepth 1000000 in
theorem len_any (n : Nat) (hn : n ≤ 2) (w : World) :
    Calls Tryz.prog 121 #[.int .u64 (n : Int)] w fun e w' => (∃ m, e = .returned (.int .i64 m)) ∧ w' = w := by
  have HL := Aside0.mk (len64_any n hn w)
  go_enter Tryz.func121, Tryz.ntmps121
  go_wp2_with fail
  refine HL.out.mono ?_
  rintro e w1 ⟨⟨m, rfl⟩, rfl⟩
  go_wp2
  go_ret
  exact ⟨⟨_, rfl⟩, rfl⟩
set_option maxHeartbeats 8000000 in
set_option maxRecDepth 1000000 in
theorem Sort_any (v : Value) (l : List Int) (w0 w : World) (hB : Below w0.heap.size w0 w) (ho : Own .i64 3 w w0.heap.size v l) (hn : l.length ≤ 2) :
    Calls Tryz.prog 84 #[v] w fun e w' => e = .returned (.tuple #[]) ∧ Own .i64 3 w' w0.heap.size v (sort2 l) ∧ Below w0.heap.size w0 w' ∧ w.heap.size ≤ w'.heap.size ∧ (∀ k, k < w.heap.size → some k ≠ v.ownBlock → w'.heap[k]? = w.heap[k]?) := by
  have hR : Kd.R (Kd.int .i64) 3 w w0.heap.size (fun k => some k = v.ownBlock) v l := Kd.R_of_own (h1 := fun _ => rfl) ho (fun k hk => hk.symm)
  have HIN := Aside0.mk (slices_insertionSortOrdered_int.calls 10 (fun k => some k = v.ownBlock) v l 0 (l.length : Int) (sort2 l) w0 w hB hR (ins_f l hn))
  obtain ⟨A, c, rfl⟩ := own_form ho
  have hnn : (l.length : Int) ≤ 2 := by omega
  have HPD : Aside0 (∀ m : Int, Calls Tryz.prog 120 #[.slice A l.length c, .int .i64 0, .int .i64 (l.length : Int), .int .i64 m] w fun e w' => e = .returned (.tuple #[]) ∧ Own .i64 3 w' w0.heap.size (.slice A l.length c) (sort2 l) ∧ Below w0.heap.size w0 w' ∧ w.heap.size ≤ w'.heap.size ∧ (∀ k, k < w.heap.size → some k ≠ (Value.slice A l.length c).ownBlock → w'.heap[k]? = w.heap[k]?)) := ⟨fun m => by
    go_enter Tryz.func120, Tryz.ntmps120
    go_wp2_with fail
    refine wp_loop_rounds 1 ?_
    rw [rounds_succ]
    go_wp2_with fail
    refine HIN.out.mono ?_
    rintro e w1 ⟨rfl, hR1, hB1, hK1⟩
    have HO1 := Aside0.mk (Kd.own_of_R (enc := Value.int .i64) (h1 := fun _ => rfl) hR1)
    have HB1 := Aside0.mk hB1
    have HK1 := Aside0.mk hK1
    clear hR1 hB1 hK1
    go_wp2
    exact bodyPost_ret (v := .tuple #[]) (by simp [results, Tryz.results120, go_sem]) rfl ⟨rfl, HO1.out, HB1.out, HK1.out.1, fun k hk hne => HK1.out.2 k hk hne⟩⟩
  have HLN := Aside0.mk (len_any l.length hn)
  clear ho hR HIN
  go_enter Tryz.func84, Tryz.ntmps84
  go_wp2_with fail
  refine (HLN.out w).mono ?_
  rintro e w1 ⟨⟨m, rfl⟩, rfl⟩
  go_wp2_with fail
  refine (HPD.out m).mono ?_
  rintro e w2 ⟨rfl, h1, h2, h3, h4⟩
  have H1 := Aside0.mk h1
  have H2 := Aside0.mk h2
  have H3 := Aside0.mk h3
  have H4 := Aside0.mk h4
  clear h1 h2 h3 h4
  go_wp2
  go_end0
  exact ⟨rfl, H1.out, H2.out, H3.out, H4.out⟩
end Go.Proofs.YtajccgmeminlhaaGreatDoor
end
