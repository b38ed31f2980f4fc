/- Field, of the parts Gf, FieldA, FieldB, FieldC, FieldD: each part tells what it proves. -/
import Derived.KernelRfl
import Derived.Test.YtajccgmeminlhaaGreatDoorQ1
import Derived.BigQuiet
import Derived.RangeFuncNested
import Derived.RangeFuncBound
import Derived.RangeFuncCalls
import Derived.RangeFuncLeaves
import Derived.Shelf.Abstract
import Derived.OwnWalkIn
import Derived.TacticsInMore
import Derived.LoopNIn
import Derived.LoopIn
import Derived.Lib.SliceRun
section
/- The field of 64 elements: in plain Lean, with no program in sight. -/
set_option linter.unusedVariables false
set_option linter.unusedSimpArgs false
namespace Go.Proofs.YtajccgmeminlhaaGreatDoor.Gf

/-- The powers of 2, in order. -/
def pows : List Nat := [1, 2, 4, 8, 16, 32, 3, 6, 12, 24, 48, 35, 5, 10, 20, 40, 19, 38, 15, 30, 60, 59, 53, 41, 17, 34, 7, 14, 28, 56, 51, 37, 9, 18, 36, 11, 22, 44, 27, 54, 47, 29, 58, 55, 45, 25, 50, 39, 13, 26, 52, 43, 21, 42, 23, 46, 31, 62, 63, 61, 57, 49, 33]
/-- Where a number stands among them. -/
def lgN (a : Nat) : Nat := pows.idxOf a
def mulN (a b : Nat) : Nat := if a = 0 ∨ b = 0 then 0 else pows.getD ((lgN a + lgN b) % 63) 0
def invN (a : Nat) : Nat := if a = 0 then 0 else pows.getD ((63 - lgN a) % 63) 0
def all1 (p : Nat → Bool) : Bool := (List.range 64).all p
def all2 (p : Nat → Nat → Bool) : Bool := all1 fun a => all1 fun b => p a b
theorem all1_at {p : Nat → Bool} (h : all1 p = true) (a : Nat) (ha : a < 64) : p a = true := by
  unfold all1 at h
  rw [List.all_eq_true] at h
  exact h a (List.mem_range.2 ha)
theorem all2_at {p : Nat → Nat → Bool} (h : all2 p = true) (a b : Nat) (ha : a < 64) (hb : b < 64) : p a b = true := all1_at (all1_at h a ha) b hb

def dbl (a : Nat) : Nat := if 32 ≤ a then (2 * a) ^^^ 67 else 2 * a
def sel (c : Bool) (a : Nat) : Nat := if c then a else 0
/-- Multiplication by shifts. -/
def shf (a b : Nat) : Nat := sel (b.testBit 0) a ^^^ sel (b.testBit 1) (dbl a) ^^^ sel (b.testBit 2) (dbl (dbl a)) ^^^ sel (b.testBit 3) (dbl (dbl (dbl a))) ^^^ sel (b.testBit 4) (dbl (dbl (dbl (dbl a)))) ^^^ sel (b.testBit 5) (dbl (dbl (dbl (dbl (dbl a)))))
theorem mul_shf : all2 (fun a b => mulN a b == shf a b) = true := by decide +kernel
theorem mul_lt : all2 (fun a b => decide (mulN a b < 64)) = true := by decide +kernel
theorem mul_comm2 : all2 (fun a b => mulN a b == mulN b a) = true := by decide +kernel
theorem lg_lt : all1 (fun a => a == 0 || (decide (lgN a < 63) && pows.getD (lgN a) 0 == a)) = true := by decide +kernel
theorem lg_pow : (List.range 63).all (fun i => lgN (pows.getD i 0) == i && decide (pows.getD i 0 < 64) && pows.getD i 0 != 0) = true := by decide +kernel
theorem inv_ok : all1 (fun a => a == 0 || (mulN a (invN a) == 1 && decide (invN a < 64))) = true := by decide +kernel
theorem one_ok : all1 (fun a => mulN a 1 == a) = true := by decide +kernel

theorem pow_at (i : Nat) (h : i < 63) : lgN (pows.getD i 0) = i ∧ pows.getD i 0 < 64 ∧ pows.getD i 0 ≠ 0 := by
  have := lg_pow
  rw [List.all_eq_true] at this
  have := this i (List.mem_range.2 h)
  simp only [Bool.and_eq_true, beq_iff_eq, decide_eq_true_eq, bne_iff_ne] at this
  exact ⟨this.1.1, this.1.2, this.2⟩
theorem lg_at (a : Nat) (h : a < 64) (h0 : a ≠ 0) : lgN a < 63 ∧ pows.getD (lgN a) 0 = a := by
  have := all1_at lg_lt a h
  simp only [Bool.or_eq_true, beq_iff_eq, Bool.and_eq_true, decide_eq_true_eq] at this
  rcases this with h1 | h1
  · exact absurd h1 h0
  · exact h1
theorem mulN_ne {a b : Nat} (ha : a ≠ 0) (hb : b ≠ 0) : mulN a b = pows.getD ((lgN a + lgN b) % 63) 0 := by
  unfold mulN
  rw [if_neg (by rintro (h | h) <;> contradiction)]
theorem mulN_zero (a : Nat) : mulN a 0 = 0 := by unfold mulN; rw [if_pos (.inr rfl)]
theorem zero_mulN (a : Nat) : mulN 0 a = 0 := by unfold mulN; rw [if_pos (.inl rfl)]
theorem mulN_assoc (a b c : Nat) : mulN (mulN a b) c = mulN a (mulN b c) := by
  by_cases ha : a = 0
  · subst ha; rw [zero_mulN, zero_mulN, zero_mulN]
  by_cases hb : b = 0
  · subst hb; simp only [zero_mulN, mulN_zero]
  by_cases hc : c = 0
  · subst hc; rw [mulN_zero, mulN_zero, mulN_zero]
  have h1 := pow_at ((lgN a + lgN b) % 63) (Nat.mod_lt _ (by omega))
  have h2 := pow_at ((lgN b + lgN c) % 63) (Nat.mod_lt _ (by omega))
  rw [mulN_ne ha hb, mulN_ne hb hc, mulN_ne h1.2.2 hc, mulN_ne ha h2.2.2, h1.1, h2.1]
  congr 1
  omega
theorem sel_xor (x y : Bool) (a : Nat) : sel (x ^^ y) a = sel x a ^^^ sel y a := by
  cases x <;> cases y <;> simp [sel]
theorem xor4 (a b c d : Nat) : (a ^^^ b) ^^^ (c ^^^ d) = (a ^^^ c) ^^^ (b ^^^ d) := by
  rw [Nat.xor_assoc, Nat.xor_assoc, ← Nat.xor_assoc b c d, ← Nat.xor_assoc c b d, Nat.xor_comm b c]
theorem shf_xor (a b c : Nat) : shf a (b ^^^ c) = shf a b ^^^ shf a c := by
  unfold shf
  simp only [Nat.testBit_xor, sel_xor]
  simp only [xor4]
theorem mulN_xor (a b c : Nat) (ha : a < 64) (hb : b < 64) (hc : c < 64) : mulN a (b ^^^ c) = mulN a b ^^^ mulN a c := by
  have hbc : b ^^^ c < 64 := Nat.xor_lt_two_pow (n := 6) hb hc
  have e1 := all2_at mul_shf a (b ^^^ c) ha hbc
  have e2 := all2_at mul_shf a b ha hb
  have e3 := all2_at mul_shf a c ha hc
  simp only [beq_iff_eq] at e1 e2 e3
  rw [e1, e2, e3, shf_xor]

/-- The field. -/
structure G where
  n : Nat
  lt : n < 64
theorem G.ext {a b : G} (h : a.n = b.n) : a = b := by
  cases a; cases b; cases h; rfl
instance : DecidableEq G := fun a b => if h : a.n = b.n then isTrue (G.ext h) else isFalse (fun e => h (by rw [e]))
def G.add (a b : G) : G := ⟨a.n ^^^ b.n, Nat.xor_lt_two_pow (n := 6) a.lt b.lt⟩
def G.mul (a b : G) : G := ⟨mulN a.n b.n, by simpa using all2_at mul_lt a.n b.n a.lt b.lt⟩
def G.inv (a : G) : G := ⟨invN a.n, by
  by_cases h : a.n = 0
  · unfold invN; rw [if_pos h]; omega
  · have := all1_at inv_ok a.n a.lt
    simp only [Bool.or_eq_true, beq_iff_eq, Bool.and_eq_true, decide_eq_true_eq] at this
    rcases this with h1 | h1
    · exact absurd h1 h
    · exact h1.2⟩
def G.zero : G := ⟨0, by omega⟩
def G.one : G := ⟨1, by omega⟩
def G.ofNat (k : Nat) : G := if k % 2 = 0 then G.zero else G.one
def G.npow (a : G) : Nat → G
  | 0 => G.one
  | k + 1 => (G.npow a k).mul a
theorem G.add_self (a : G) : a.add a = G.zero := G.ext (Nat.xor_self _)
theorem G.add_comm (a b : G) : a.add b = b.add a := G.ext (Nat.xor_comm _ _)
theorem G.add_assoc (a b c : G) : (a.add b).add c = a.add (b.add c) := G.ext (Nat.xor_assoc _ _ _)
theorem G.add_zero (a : G) : a.add G.zero = a := G.ext (Nat.xor_zero _)
theorem G.zero_add (a : G) : G.zero.add a = a := G.ext (Nat.zero_xor _)
theorem G.mul_comm (a b : G) : a.mul b = b.mul a := G.ext (eq_of_beq (all2_at mul_comm2 a.n b.n a.lt b.lt))
theorem G.mul_assoc (a b c : G) : (a.mul b).mul c = a.mul (b.mul c) := G.ext (mulN_assoc _ _ _)
theorem G.mul_one (a : G) : a.mul G.one = a := G.ext (eq_of_beq (all1_at one_ok a.n a.lt))
theorem G.mul_zero (a : G) : a.mul G.zero = G.zero := G.ext (mulN_zero _)
theorem G.left_distrib (a b c : G) : a.mul (b.add c) = (a.mul b).add (a.mul c) := G.ext (mulN_xor _ _ _ a.lt b.lt c.lt)
theorem G.mul_inv {a : G} (h : a ≠ G.zero) : a.mul a.inv = G.one := by
  have h0 : a.n ≠ 0 := fun h2 => h (G.ext h2)
  have := all1_at inv_ok a.n a.lt
  simp only [Bool.or_eq_true, beq_iff_eq, Bool.and_eq_true, decide_eq_true_eq] at this
  rcases this with h1 | h1
  · exact absurd h1 h0
  · exact G.ext h1.1
instance : Add G := ⟨G.add⟩
instance : Mul G := ⟨G.mul⟩
instance : Neg G := ⟨fun a => a⟩
instance : Sub G := ⟨G.add⟩
instance : Inv G := ⟨G.inv⟩
instance : Div G := ⟨fun a b => a.mul b.inv⟩
instance instNatCastG : NatCast G := ⟨G.ofNat⟩
instance instOfNatG (k : Nat) : OfNat G k := ⟨G.ofNat k⟩
instance instSMulN : SMul Nat G := ⟨fun k a => (G.ofNat k).mul a⟩
instance instSMulZ : SMul Int G := ⟨fun k a => (G.ofNat k.natAbs).mul a⟩
instance instIntCastG : IntCast G := ⟨fun k => G.ofNat k.natAbs⟩
instance instPowN : HPow G Nat G := ⟨G.npow⟩
instance instPowZ : HPow G Int G := ⟨fun a k => match k with | .ofNat m => G.npow a m | .negSucc m => (G.npow a (m + 1)).inv⟩
theorem ofNat_succ (k : Nat) : G.ofNat (k + 1) = (G.ofNat k).add G.one := by
  unfold G.ofNat
  by_cases h : k % 2 = 0
  · rw [if_pos h, if_neg (by omega), G.zero_add]
  · rw [if_neg h, if_pos (by omega), G.add_self]
theorem inv_inv_npow (a : G) : True := trivial
theorem inv_zero' : G.zero.inv = G.zero := rfl
theorem inv_inv2 : all1 (fun a => invN (invN a) == a) = true := by decide +kernel
theorem G.inv_inv (a : G) : a.inv.inv = a := G.ext (eq_of_beq (all1_at inv_inv2 a.n a.lt))
instance : Lean.Grind.Field G where
  add_zero := G.add_zero
  add_comm := G.add_comm
  add_assoc := G.add_assoc
  mul_assoc := G.mul_assoc
  mul_one := G.mul_one
  one_mul a := by show G.one.mul a = a; rw [G.mul_comm, G.mul_one]
  left_distrib := G.left_distrib
  right_distrib a b c := by show (a.add b).mul c = (a.mul c).add (b.mul c); rw [G.mul_comm, G.left_distrib, G.mul_comm c, G.mul_comm c]
  mul_zero a := G.mul_zero a
  zero_mul a := by show G.zero.mul a = G.zero; rw [G.mul_comm, G.mul_zero]
  mul_comm := G.mul_comm
  pow_zero a := rfl
  pow_succ a k := rfl
  ofNat_succ k := ofNat_succ k
  ofNat_eq_natCast k := rfl
  neg_add_cancel a := G.add_self a
  sub_eq_add_neg a b := rfl
  neg_zsmul k a := by
    show (G.ofNat (-k).natAbs).mul a = (G.ofNat k.natAbs).mul a
    rw [Int.natAbs_neg]
  zsmul_natCast_eq_nsmul k a := rfl
  intCast_ofNat k := rfl
  intCast_neg k := by
    show G.ofNat (-k).natAbs = G.ofNat k.natAbs
    rw [Int.natAbs_neg]
  div_eq_mul_inv a b := rfl
  zero_ne_one := by decide
  inv_zero := inv_zero'
  mul_inv_cancel := fun h => G.mul_inv h
  zpow_zero a := rfl
  zpow_succ a k := rfl
  zpow_neg a k := by
    show (match -k with | .ofNat m => G.npow a m | .negSucc m => (G.npow a (m + 1)).inv) = (match k with | .ofNat m => G.npow a m | .negSucc m => (G.npow a (m + 1)).inv).inv
    rcases k with k | k
    · rcases k with _ | k
      · show G.one = G.one.inv
        decide
      · rfl
    · show G.npow a (k + 1) = _
      rw [G.inv_inv]
instance : Lean.Grind.IsCharP G 2 where
  ofNat_ext_iff {x y} := by
    show G.ofNat x = G.ofNat y ↔ _
    unfold G.ofNat
    rcases Nat.mod_two_eq_zero_or_one x with h | h <;> rcases Nat.mod_two_eq_zero_or_one y with h2 | h2 <;> simp [h, h2] <;> decide
end Go.Proofs.YtajccgmeminlhaaGreatDoor.Gf
end
section
/- field.log, mul, inv, Inv, Log, Pow: walks, over the table of powers as it is laid. -/
set_option linter.unusedVariables false
set_option linter.unusedSimpArgs false
namespace Go.Proofs.YtajccgmeminlhaaGreatDoor
open Go.RowKit Go.Proofs.YtajccgmeminlhaaGreatDoorW.PrintWords Go.Proofs.YtajccgmeminlhaaGreatDoor.Q Go.Proofs.YtajccgmeminlhaaGreatDoor.Gf

theorem i64_small (n : Int) (h : -9223372036854775808 ≤ n ∧ n ≤ 9223372036854775807) : IntKind.i64.wrap n = n := by rw [IntKind.wrap_i64]; omega
theorem drawn_trans {a b c : World} (h : Drawn0 a b) (h2 : Drawn0 b c) : Drawn0 a c := by
  obtain ⟨n, rfl⟩ := h2
  exact h.step n
theorem take_snoc_rd (l : List Int) (k : Nat) (h : k < l.length) : l.take (k + 1) = l.take k ++ [rd l k] := by
  rw [List.take_succ_eq_append_getElem h]
  simp [rd, List.getD_eq_getElem?_getD, List.getElem?_eq_getElem h]
theorem rd_mem (l : List Int) (k : Nat) (h : k < l.length) : rd l k ∈ l := by
  simp only [rd, Int.toNat_natCast, List.getD_eq_getElem?_getD, List.getElem?_eq_getElem h, Option.getD_some]
  exact List.getElem_mem h
def ipows : List Int := pows.map fun (n : Nat) => (n : Int)
/-- The table of powers lies in a world as its initialiser laid it. -/
structure PW (w : World) : Prop where
  lt : 1 < w.heap.size
  cell : ∀ i, i < 63 → w.cell? ⟨1, i, none⟩ = some (.int .u8 (ipows.getD i 0))
theorem PW.below {w w' : World} (h : PW w) (hb : Below w.heap.size w w') : PW w' :=
  ⟨Nat.lt_of_lt_of_le h.lt hb.size, fun i hi => (hb.cell (p := ⟨1, i, none⟩) h.lt).trans (h.cell i hi)⟩
theorem PW.drawn {w w' : World} (h : PW w) (hd : Drawn0 w w') : PW w' := h.below hd.below
theorem PW.reads {w : World} (h : PW w) : Kd.C (Kd.int .u8) w (some ⟨1, 0, none⟩) 63 ipows :=
  Kd.C_of_reads (d := (0 : Int)) (h1 := fun _ => rfl) ⟨rfl, by decide, fun _ => ⟨_, rfl, fun j hj => by rw [add_plain]; exact h.cell j hj⟩⟩
def logW (n : Nat) : Bool := n == 0 || (slices_Index_uint8_uint8.f 64 ipows n == some ((lgN n : Nat) : Int))
theorem logW_all : all1 logW = true := by decide +kernel
theorem index_pows (a : G) (h : a.n ≠ 0) : slices_Index_uint8_uint8.f 64 ipows a.n = some ((lgN a.n : Nat) : Int) := by
  have h1 := all1_at logW_all a.n a.lt
  simp only [logW, Bool.or_eq_true, beq_iff_eq] at h1
  rcases h1 with h2 | h2
  · exact absurd h2 h
  · exact h2
theorem ipows_at (i : Nat) : ipows.getD i 0 = ((pows.getD i 0 : Nat) : Int) := by
  unfold ipows
  rw [List.getD_eq_getElem?_getD, List.getD_eq_getElem?_getD, List.getElem?_map]
  cases pows[i]? <;> rfl

set_option maxHeartbeats 2000000 in
set_option maxRecDepth 100000 in
theorem log_any (a : G) (w : World) (hp : PW w) (h : a.n ≠ 0) :
    Calls Tryz.prog 119 #[.int .u8 a.n] w fun e w' => e = .returned (.int .i64 (lgN a.n : Nat)) ∧ Drawn0 w w' := by
  have HP := Aside0.mk hp.reads
  have HI := Aside0.mk (index_pows a h)
  go_enter Tryz.func119, Tryz.ntmps119
  go_wp2_with fail
  refine (slices_Index_uint8_uint8.calls 64 _ 63 ipows _ _ _ HP.out (by decide) HI.out).mono ?_
  rintro e w1 ⟨rfl, hd⟩
  have HD := Aside0.mk hd
  clear hd
  go_wp2
  go_ret
  exact ⟨rfl, HD.out⟩
theorem log_quiet (a : G) (w : World) (hp : PW w) (h : a.n ≠ 0) (n : Nat) :
    Calls Tryz.prog 119 #[.int .u8 a.n] (w.drewN n) fun e w'' => e = .returned (.int .i64 (lgN a.n : Nat)) ∧ ∃ k, w'' = w.drewN k := by
  refine (log_any a (w.drewN n) (hp.drawn ⟨n, rfl⟩) h).mono ?_
  rintro e w' ⟨rfl, ⟨k, rfl⟩⟩
  exact ⟨rfl, n + k, World.drewN_drewN ..⟩
theorem mulG_n (a b : G) : (a * b).n = mulN a.n b.n := rfl
set_option maxHeartbeats 2000000 in
set_option maxRecDepth 100000 in
theorem mul_any (a b : G) (w : World) (hp : PW w) :
    Calls Tryz.prog 155 #[.int .u8 a.n, .int .u8 b.n] w fun e w' => e = .returned (.int .u8 ((a * b).n : Nat)) ∧ Drawn0 w w' := by
  have HP := Aside0.mk hp
  by_cases ha : a.n = 0
  · have e : (a * b).n = 0 := by rw [mulG_n, ha, zero_mulN]
    rw [e]
    have hai : (a.n : Int) = 0 := by omega
    go_enter Tryz.func155, Tryz.ntmps155
    go_wp2_with fail
    go_ret
    exact ⟨rfl, Drawn0.refl _⟩
  by_cases hb : b.n = 0
  · have e : (a * b).n = 0 := by rw [mulG_n, hb, mulN_zero]
    rw [e]
    have hai : ¬ (a.n : Int) = 0 := by omega
    have hab : ((a.n : Int) == 0) = false := beq_eq_false_iff_ne.2 hai
    have hbi : (b.n : Int) = 0 := by omega
    go_enter Tryz.func155, Tryz.ntmps155
    go_wp2_with fail
    go_ret
    exact ⟨rfl, Drawn0.refl _⟩
  have e : (a * b).n = pows.getD ((lgN a.n + lgN b.n) % 63) 0 := mulN_ne ha hb
  rw [e]
  have hai : ¬ (a.n : Int) = 0 := by omega
  have hbi : ¬ (b.n : Int) = 0 := by omega
  have hab : ((a.n : Int) == 0) = false := beq_eq_false_iff_ne.2 hai
  have hbb : ((b.n : Int) == 0) = false := beq_eq_false_iff_ne.2 hbi
  have h1 := (lg_at a.n a.lt ha).1
  have h2 := (lg_at b.n b.lt hb).1
  obtain ⟨q, hq⟩ : ∃ q : Nat, (lgN a.n + lgN b.n) % 63 = q := ⟨_, rfl⟩
  have hq63 : q < 63 := by omega
  have hqi : ((lgN a.n : Int) + (lgN b.n : Int)) % 63 = (q : Int) := by omega
  rw [hq]
  have HLA := Aside0.mk (fun w hp => log_any a w hp ha)
  have HLB := Aside0.mk (fun w hp => log_any b w hp hb)
  have HQ := Aside0.mk hq63
  generalize lgN a.n = la at *
  generalize lgN b.n = lb_ at *
  go_enter Tryz.func155, Tryz.ntmps155
  go_wp2_with fail
  refine (HLA.out _ HP.out).mono ?_
  rintro e w1 ⟨rfl, hd⟩
  have HD := Aside0.mk hd
  clear hd
  go_wp2_with fail
  refine (HLB.out _ (HP.out.drawn HD.out)).mono ?_
  rintro e w2 ⟨rfl, hd⟩
  have HD2 := Aside0.mk (drawn_trans HD.out hd)
  clear hd
  have hc := (HP.out.drawn HD2.out).cell q HQ.out
  rw [ipows_at] at hc
  go_wp2
  go_ret
  exact ⟨rfl, HD2.out⟩
theorem invG_n (a : G) : (a⁻¹).n = invN a.n := rfl
set_option maxHeartbeats 2000000 in
set_option maxRecDepth 100000 in
theorem inv_any (a : G) (w : World) (hp : PW w) (h : a.n ≠ 0) :
    Calls Tryz.prog 154 #[.int .u8 a.n] w fun e w' => e = .returned (.int .u8 ((a⁻¹).n : Nat)) ∧ Drawn0 w w' := by
  have HP := Aside0.mk hp
  have e : (a⁻¹).n = pows.getD ((63 - lgN a.n) % 63) 0 := by rw [invG_n]; unfold invN; rw [if_neg h]
  rw [e]
  have h1 := (lg_at a.n a.lt h).1
  obtain ⟨q, hq⟩ : ∃ q : Nat, (63 - lgN a.n) % 63 = q := ⟨_, rfl⟩
  have hq63 : q < 63 := by omega
  have hqi : (63 - (lgN a.n : Int)) % 63 = (q : Int) := by omega
  rw [hq]
  have HLA := Aside0.mk (fun w hp => log_any a w hp h)
  have HQ := Aside0.mk hq63
  generalize lgN a.n = la at *
  go_enter Tryz.func154, Tryz.ntmps154
  go_wp2_with fail
  refine (HLA.out _ HP.out).mono ?_
  rintro e w1 ⟨rfl, hd⟩
  have HD := Aside0.mk hd
  clear hd
  have hc := (HP.out.drawn HD.out).cell q HQ.out
  rw [ipows_at] at hc
  go_wp2
  go_ret
  exact ⟨rfl, HD.out⟩
set_option maxHeartbeats 2000000 in
set_option maxRecDepth 100000 in
theorem Inv_any (a : G) (w : World) (hp : PW w) (h : a.n ≠ 0) :
    Calls Tryz.prog 132 #[.int .u8 a.n] w fun e w' => e = .returned (.tuple #[.int .u8 ((a⁻¹).n : Nat), .int .i64 0]) ∧ Drawn0 w w' := by
  have HI := Aside0.mk (inv_any a w hp h)
  have h64 : (a.n : Int) < 64 := by have := a.lt; omega
  have h0 : ¬ (a.n : Int) = 0 := by omega
  go_enter Tryz.func132, Tryz.ntmps132
  go_wp2_with fail
  refine HI.out.mono ?_
  rintro e w1 ⟨rfl, hd⟩
  have HD := Aside0.mk hd
  clear hd
  go_wp2
  go_ret2
  exact ⟨rfl, HD.out⟩
set_option maxHeartbeats 2000000 in
set_option maxRecDepth 100000 in
theorem Inv_zero (a : G) (w : World) (h : a.n = 0) :
    Calls Tryz.prog 132 #[.int .u8 a.n] w fun e w' => e = .returned (.tuple #[.int .u8 0, .int .i64 6]) ∧ Drawn0 w w' := by
  have h64 : (a.n : Int) < 64 := by have := a.lt; omega
  have h0 : (a.n : Int) = 0 := by omega
  go_enter Tryz.func132, Tryz.ntmps132
  go_wp2_with fail
  go_ret2
  exact ⟨rfl, Drawn0.refl _⟩
set_option maxHeartbeats 2000000 in
set_option maxRecDepth 100000 in
theorem Log_any (a : G) (w : World) (hp : PW w) (h : a.n ≠ 0) :
    Calls Tryz.prog 83 #[.int .u8 a.n] w fun e w' => e = .returned (.tuple #[.int .i64 (lgN a.n : Nat), .int .i64 0]) ∧ Drawn0 w w' := by
  have HI := Aside0.mk (log_any a w hp h)
  have h64 : (a.n : Int) < 64 := by have := a.lt; omega
  have h0 : ¬ (a.n : Int) = 0 := by omega
  go_enter Tryz.func83, Tryz.ntmps83
  go_wp2_with fail
  refine HI.out.mono ?_
  rintro e w1 ⟨rfl, hd⟩
  have HD := Aside0.mk hd
  clear hd
  go_wp2
  go_ret2
  exact ⟨rfl, HD.out⟩
set_option maxHeartbeats 2000000 in
set_option maxRecDepth 100000 in
theorem Log_zero (a : G) (w : World) (h : a.n = 0) :
    Calls Tryz.prog 83 #[.int .u8 a.n] w fun e w' => e = .returned (.tuple #[.int .i64 0, .int .i64 6]) ∧ Drawn0 w w' := by
  have h64 : (a.n : Int) < 64 := by have := a.lt; omega
  have h0 : (a.n : Int) = 0 := by omega
  go_enter Tryz.func83, Tryz.ntmps83
  go_wp2_with fail
  go_ret2
  exact ⟨rfl, Drawn0.refl _⟩
theorem npow_lg (a : G) (h : a.n ≠ 0) (n : Nat) : (a ^ n).n = pows.getD ((lgN a.n * n) % 63) 0 := by
  induction n with
  | zero => rfl
  | succ n ih =>
    have h1 := pow_at ((lgN a.n * n) % 63) (Nat.mod_lt _ (by omega))
    show mulN (a ^ n).n a.n = _
    rw [mulN_ne (by rw [ih]; exact h1.2.2) h, ih, h1.1, Nat.mul_succ]
    congr 1
    omega
set_option maxHeartbeats 2000000 in
set_option maxRecDepth 100000 in
theorem Pow_any (a : G) (n : Nat) (w : World) (hp : PW w) (h : a.n ≠ 0) (hn : n ≤ 1000) :
    Calls Tryz.prog 131 #[.int .u8 a.n, .int .i64 (n : Int)] w fun e w' => e = .returned (.tuple #[.int .u8 ((a ^ n).n : Nat), .int .i64 0]) ∧ Drawn0 w w' := by
  have h64 : (a.n : Int) < 64 := by have := a.lt; omega
  have h0 : ¬ (a.n : Int) = 0 := by omega
  by_cases hn0 : n = 0
  · subst hn0
    go_enter Tryz.func131, Tryz.ntmps131
    go_wp2_with fail
    go_ret2
    exact ⟨rfl, Drawn0.refl _⟩
  have hn1 : ¬ (n : Int) = 0 := by omega
  have hn2 : ¬ (n : Int) < 0 := by omega
  have h1 := (lg_at a.n a.lt h).1
  rw [npow_lg a h n]
  obtain ⟨q, hq⟩ : ∃ q : Nat, (lgN a.n * n) % 63 = q := ⟨_, rfl⟩
  have hq63 : q < 63 := by omega
  have HQ := Aside0.mk (show lgN a.n * (n % 63) % 63 = q by rw [← hq, Nat.mul_mod_mod])
  rw [hq]
  have HLA := Aside0.mk (log_quiet a w hp h)
  have hcq : w.cell? ⟨1, q, none⟩ = some (.int .u8 (pows.getD q 0 : Nat)) := by
    rw [← ipows_at]
    exact hp.cell q hq63
  generalize lgN a.n = la at *
  obtain ⟨r, hr⟩ : ∃ r, n % 63 = r := ⟨_, rfl⟩
  rw [hr] at HQ
  have hr63 : r < 63 := by omega
  have hpr : la * r ≤ 62 * 62 := Nat.mul_le_mul (by omega) (by omega)
  obtain ⟨z, hz⟩ : ∃ z, la * r = z := ⟨_, rfl⟩
  rw [hz] at HQ hpr
  have e1 : Int.tmod (n : Int) 63 = (r : Int) := by rw [Int.tmod_eq_emod_of_nonneg (by omega)]; omega
  have e1b : (n : Int) % 63 = (r : Int) := by omega
  have e2 : IntKind.i64.wrap ((r : Int) + 63) = (r : Int) + 63 := i64_small _ ⟨by omega, by omega⟩
  have e3 : Int.tmod ((r : Int) + 63) 63 = (r : Int) := by rw [Int.tmod_eq_emod_of_nonneg (by omega)]; omega
  have e3b : ((r : Int) + 63) % 63 = (r : Int) := by omega
  have e4 : (la : Int) * (r : Int) = (z : Int) := by rw [← hz]; simp
  have e5 : IntKind.i64.wrap (z : Int) = (z : Int) := i64_small _ ⟨by omega, by omega⟩
  have e6 : Int.tmod (z : Int) 63 = (q : Int) := by rw [Int.tmod_eq_emod_of_nonneg (by omega)]; have := HQ.out; omega
  have e6b : (z : Int) % 63 = (q : Int) := by have := HQ.out; omega
  clear hq hr hz
  have hqb : (0 : Int) ≤ (q : Int) ∧ (q : Int) < 63 := by omega
  go_enter Tryz.func131, Tryz.ntmps131
  go_wp2_with fail
  go_quiet ((go_at_call 119; with_reducible exact HLA.out _))
  generalize hW1 : World.drewN _ nq = W1
  have D1 : Drawn0 w W1 := ⟨nq, hW1.symm⟩
  clear hW1
  go_wp2
  go_ret2
  exact ⟨rfl, D1⟩
end Go.Proofs.YtajccgmeminlhaaGreatDoor
end
section
/- slices.ContainsFunc with the test 'not in the field', field.check, Mul: walks. -/
set_option linter.unusedVariables false
set_option linter.unusedSimpArgs false
namespace Go.Proofs.YtajccgmeminlhaaGreatDoor
open Go.RowKit Go.Proofs.YtajccgmeminlhaaGreatDoorW.PrintWords Go.Proofs.YtajccgmeminlhaaGreatDoor.Q Go.Proofs.YtajccgmeminlhaaGreatDoor.Gf

/-- Where the first one is that is not in the field. -/
def big (x : Int) : Bool := decide (64 ≤ x)
theorem big_take (l : List Int) (k : Nat) (h : k < l.length) : (l.take (k + 1)).any big = ((l.take k).any big || big (rd l k)) := by
  rw [take_snoc_rd l k h, List.any_append]
  simp
theorem any_at {l : List Int} {k : Nat} (h : k < l.length) (hb : big (rd l k) = true) : l.any big = true := by
  rw [List.any_eq_true]
  exact ⟨rd l k, rd_mem l k h, hb⟩

set_option maxHeartbeats 2000000 in
set_option maxRecDepth 100000 in
theorem big1_any (x : Int) (w : World) :
    Calls Tryz.prog 157 #[.int .u8 x] w fun e w' => e = .returned (.bool (big x)) ∧ w' = w := by
  go_enter Tryz.func157, Tryz.ntmps157
  go_wp2_with fail
  go_ret
  exact ⟨rfl, rfl⟩
set_option maxHeartbeats 4000000 in
set_option maxRecDepth 100000 in
theorem indexFunc1_any (A0 : Option Addr) (c0 : Nat) (l0 : List Int) (w : World) (hr0 : Kd.C (Kd.int .u8) w A0 l0.length l0) (hc0 : l0.length ≤ c0) (hn : l0.length ≤ 1000000000) :
    Calls Tryz.prog 128 #[.slice A0 l0.length c0, .func (.func 157) #[] #[]] w fun e w' => ∃ i : Int, e = .returned (.int .i64 i) ∧ decide (0 ≤ i) = l0.any big ∧ w' = w := by
  have HR := Aside0.mk hr0
  clear hr0
  go_enter Tryz.func128, Tryz.ntmps128
  go_wp2_with fail
  go_loop [8] (fun i => ∃ k : Nat, k ≤ l0.length ∧ i = .int .i64 k ∧ (l0.take k).any big = false) (fun i => l0.length - (intOf i).toNat)
  case atStart => exact ⟨0, Nat.zero_le _, rfl, rfl⟩
  case round =>
    obtain ⟨k, hk, rfl, hno⟩ := hrel
    by_cases hp : k < l0.length
    · obtain ⟨ad, rfl, hx⟩ := Kd.at_int HR.out k (by omega) (by omega)
      simp only [Int.toNat_natCast] at hx
      have HNO := Aside0.mk (big_take l0 k hp)
      have HAN := Aside0.mk (any_at (l := l0) hp)
      rw [hno] at HNO
      clear hno
      generalize rd l0 k = x at hx HNO HAN
      go_wp2_with fail
      go_at_call 157
      refine (big1_any x _).mono ?_
      rintro e w1 ⟨rfl, rfl⟩
      cases hb : big x with
      | true =>
        go_wp2
        go_ret
        exact ⟨_, rfl, by rw [HAN.out hb]; exact decide_eq_true (by omega), rfl⟩
      | false =>
        go_wp2
        go_round
        case rel => exact ⟨k + 1, by omega, by go_num, by rw [HNO.out, hb]; rfl⟩
        case measure => simp [intOf]; omega
    · obtain rfl : k = l0.length := by omega
      rw [List.take_of_length_le (Nat.le_refl _)] at hno
      go_wp2
      go_ret
      exact ⟨_, rfl, by first | decide | (rw [hno]; rfl), rfl⟩
set_option maxHeartbeats 4000000 in
set_option maxRecDepth 100000 in
theorem containsFunc1_any (A0 : Option Addr) (c0 : Nat) (l0 : List Int) (w : World) (hr0 : Kd.C (Kd.int .u8) w A0 l0.length l0) (hc0 : l0.length ≤ c0) (hn : l0.length ≤ 1000000000) :
    Calls Tryz.prog 107 #[.slice A0 l0.length c0, .func (.func 157) #[] #[]] w fun e w' => e = .returned (.bool (l0.any big)) ∧ w' = w := by
  have HI := Aside0.mk (indexFunc1_any A0 c0 l0 w hr0 hc0 hn)
  go_enter Tryz.func107, Tryz.ntmps107
  go_wp2_with fail
  refine HI.out.mono ?_
  rintro e w1 ⟨i, rfl, hi, rfl⟩
  go_wp2
  go_ret
  exact ⟨rfl, rfl⟩

set_option maxHeartbeats 2000000 in
set_option maxRecDepth 100000 in
theorem big2_any (x : Int) (w : World) :
    Calls Tryz.prog 108 #[.int .u8 x] w fun e w' => e = .returned (.bool (big x)) ∧ w' = w := by
  go_enter Tryz.func108, Tryz.ntmps108
  go_wp2_with fail
  go_ret
  exact ⟨rfl, rfl⟩
set_option maxHeartbeats 4000000 in
set_option maxRecDepth 100000 in
theorem indexFunc2_any (A0 : Option Addr) (c0 : Nat) (l0 : List Int) (w : World) (hr0 : Kd.C (Kd.int .u8) w A0 l0.length l0) (hc0 : l0.length ≤ c0) (hn : l0.length ≤ 1000000000) :
    Calls Tryz.prog 128 #[.slice A0 l0.length c0, .func (.func 108) #[] #[]] w fun e w' => ∃ i : Int, e = .returned (.int .i64 i) ∧ decide (0 ≤ i) = l0.any big ∧ w' = w := by
  have HR := Aside0.mk hr0
  clear hr0
  go_enter Tryz.func128, Tryz.ntmps128
  go_wp2_with fail
  go_loop [8] (fun i => ∃ k : Nat, k ≤ l0.length ∧ i = .int .i64 k ∧ (l0.take k).any big = false) (fun i => l0.length - (intOf i).toNat)
  case atStart => exact ⟨0, Nat.zero_le _, rfl, rfl⟩
  case round =>
    obtain ⟨k, hk, rfl, hno⟩ := hrel
    by_cases hp : k < l0.length
    · obtain ⟨ad, rfl, hx⟩ := Kd.at_int HR.out k (by omega) (by omega)
      simp only [Int.toNat_natCast] at hx
      have HNO := Aside0.mk (big_take l0 k hp)
      have HAN := Aside0.mk (any_at (l := l0) hp)
      rw [hno] at HNO
      clear hno
      generalize rd l0 k = x at hx HNO HAN
      go_wp2_with fail
      go_at_call 108
      refine (big2_any x _).mono ?_
      rintro e w1 ⟨rfl, rfl⟩
      cases hb : big x with
      | true =>
        go_wp2
        go_ret
        exact ⟨_, rfl, by rw [HAN.out hb]; exact decide_eq_true (by omega), rfl⟩
      | false =>
        go_wp2
        go_round
        case rel => exact ⟨k + 1, by omega, by go_num, by rw [HNO.out, hb]; rfl⟩
        case measure => simp [intOf]; omega
    · obtain rfl : k = l0.length := by omega
      rw [List.take_of_length_le (Nat.le_refl _)] at hno
      go_wp2
      go_ret
      exact ⟨_, rfl, by first | decide | (rw [hno]; rfl), rfl⟩
set_option maxHeartbeats 4000000 in
set_option maxRecDepth 100000 in
theorem containsFunc2_any (A0 : Option Addr) (c0 : Nat) (l0 : List Int) (w : World) (hr0 : Kd.C (Kd.int .u8) w A0 l0.length l0) (hc0 : l0.length ≤ c0) (hn : l0.length ≤ 1000000000) :
    Calls Tryz.prog 107 #[.slice A0 l0.length c0, .func (.func 108) #[] #[]] w fun e w' => e = .returned (.bool (l0.any big)) ∧ w' = w := by
  have HI := Aside0.mk (indexFunc2_any A0 c0 l0 w hr0 hc0 hn)
  go_enter Tryz.func107, Tryz.ntmps107
  go_wp2_with fail
  refine HI.out.mono ?_
  rintro e w1 ⟨i, rfl, hi, rfl⟩
  go_wp2
  go_ret
  exact ⟨rfl, rfl⟩
set_option maxHeartbeats 4000000 in
set_option maxRecDepth 100000 in
/-- field.check of one list that is in the field. -/
theorem check1_any (g : Nat) (A0 : Option Addr) (c0 : Nat) (l0 : List Int) (w : World) (hr0 : Kd.C (Kd.int .u8) w A0 l0.length l0) (hc0 : l0.length ≤ c0) (hn : l0.length ≤ 128) (hb : l0.any big = false) (hg : w.cell? ⟨g, 0, none⟩ = some (.slice A0 l0.length c0)) :
    Calls Tryz.prog 139 #[.slice (some ⟨g, 0, none⟩) 1 1] w fun e w' => e = .returned (.int .i64 0) ∧ w' = w := by
  have HI := Aside0.mk (containsFunc1_any A0 c0 l0 w hr0 hc0 (by omega))
  rw [hb] at HI
  go_enter Tryz.func139, Tryz.ntmps139
  go_wp2_with fail
  refine wp_loop_rounds 2 ?_
  iterate 2 (rw [rounds_succ]; go_wp2)
  refine wp_loop_rounds 2 ?_
  rw [rounds_succ]
  go_wp2_with fail
  refine HI.out.mono ?_
  rintro e w1 ⟨rfl, rfl⟩
  go_wp2
  rw [rounds_succ]
  go_wp2
  go_ret
  exact ⟨rfl, rfl⟩
set_option maxHeartbeats 4000000 in
set_option maxRecDepth 100000 in
/-- field.check of two lists that are in the field. -/
theorem check2_any (g : Nat) (A0 : Option Addr) (c0 : Nat) (l0 : List Int) (A1 : Option Addr) (c1 : Nat) (l1 : List Int) (w : World) (hr0 : Kd.C (Kd.int .u8) w A0 l0.length l0) (hc0 : l0.length ≤ c0) (hn : l0.length ≤ 128) (hb : l0.any big = false) (hg : w.cell? ⟨g, 0, none⟩ = some (.slice A0 l0.length c0)) (hr1 : Kd.C (Kd.int .u8) w A1 l1.length l1) (hc1 : l1.length ≤ c1) (hn1 : l1.length ≤ 128) (hb1 : l1.any big = false) (hg1 : w.cell? ⟨g, 1, none⟩ = some (.slice A1 l1.length c1)) :
    Calls Tryz.prog 139 #[.slice (some ⟨g, 0, none⟩) 2 2] w fun e w' => e = .returned (.int .i64 0) ∧ w' = w := by
  have HI := Aside0.mk (containsFunc1_any A0 c0 l0 w hr0 hc0 (by omega))
  have HI1 := Aside0.mk (containsFunc1_any A1 c1 l1 w hr1 hc1 (by omega))
  rw [hb] at HI
  rw [hb1] at HI1
  go_enter Tryz.func139, Tryz.ntmps139
  go_wp2_with fail
  refine wp_loop_rounds 3 ?_
  iterate 3 (rw [rounds_succ]; go_wp2)
  refine wp_loop_rounds 3 ?_
  rw [rounds_succ]
  go_wp2_with fail
  refine HI.out.mono ?_
  rintro e w1 ⟨rfl, rfl⟩
  go_wp2
  rw [rounds_succ]
  go_wp2_with fail
  refine HI1.out.mono ?_
  rintro e w2 ⟨rfl, rfl⟩
  go_wp2
  rw [rounds_succ]
  go_wp2
  go_ret
  exact ⟨rfl, rfl⟩
theorem big_n (a : G) : big (a.n : Int) = false := decide_eq_false (by have := a.lt; omega)
/-- A row of numbers that a literal has just made. -/
theorem lit_reads (w : World) (k : IntKind) (e : TypeId) (xs : List Int) (cs : Array Value) (hcs : (nums k xs).toArray = cs) (n : Nat) (hn : xs.length = n) (hm : n ≤ 9223372036854775807) :
    Kd.C (Kd.int k) (w.alloc (.cells cs e)) (some ⟨w.heap.size, 0, none⟩) n xs := by
  subst hcs
  refine Kd.C_of_reads (d := (0 : Int)) (h1 := fun _ => rfl) ⟨hn, hm, fun _ => ⟨_, rfl, fun j hj => World.news_of_block (heap_alloc_new w _) j _ ?_⟩⟩
  have hj2 : j < xs.length := by omega
  simp [nums, List.getElem?_eq_getElem hj2, List.getD_eq_getElem?_getD]
theorem lit_cell (w : World) (cs : Array Value) (e : TypeId) (j : Nat) : (w.alloc (.cells cs e)).cell? ⟨w.heap.size, j, none⟩ = cs[j]? := by
  have hb := heap_alloc_new w (.cells cs e)
  unfold World.cell?
  rw [hb]
  simp
theorem lit_cell2 (w : World) (o : Obj) (cs : Array Value) (e : TypeId) (j : Nat) : ((w.alloc o).alloc (.cells cs e)).cell? ⟨w.heap.size + 1, j, none⟩ = cs[j]? := by
  have h := lit_cell (w.alloc o) cs e j
  rw [show (w.alloc o).heap.size = w.heap.size + 1 by simp] at h
  exact h
theorem two_below (w : World) (o1 o2 : Obj) : Below w.heap.size w ((w.alloc o1).alloc o2) := ((Below.refl _ w).alloc (Nat.le_refl _) o1).alloc (by simp) o2
set_option maxHeartbeats 4000000 in
set_option maxRecDepth 100000 in
theorem Mul_any (a b : G) (w : World) (hp : PW w) :
    Calls Tryz.prog 133 #[.int .u8 a.n, .int .u8 b.n] w fun e w' => e = .returned (.tuple #[.int .u8 ((a * b).n : Nat), .int .i64 0]) ∧ Below w.heap.size w w' := by
  have HP := Aside0.mk hp
  have hr := Kd.C_alloc (lit_reads w .u8 5 [(a.n : Int), (b.n : Int)] _ rfl 2 rfl (by omega)) (.cells #[.slice (some ⟨w.heap.size, 0, none⟩) 2 2] 48)
  have hb := two_below w (.cells #[.int .u8 a.n, .int .u8 b.n] 5) (.cells #[.slice (some ⟨w.heap.size, 0, none⟩) 2 2] 48)
  have hc := check1_any (w.heap.size + 1) (some ⟨w.heap.size, 0, none⟩) 2 [(a.n : Int), (b.n : Int)] _ hr (by simp) (by simp) (by simp [big_n]) (lit_cell2 w _ _ _ _)
  have HM := Aside0.mk (mul_any a b _ (hp.below hb))
  have HC := Aside0.mk hc
  have HB := Aside0.mk hb
  clear hr hb hc hp
  go_enter Tryz.func133, Tryz.ntmps133
  go_wp2_with fail
  refine HC.out.mono ?_
  rintro e w1 ⟨rfl, rfl⟩
  go_wp2_with fail
  refine HM.out.mono ?_
  rintro e w2 ⟨rfl, hd⟩
  have HD := Aside0.mk (HB.out.trans (hd.below.mono HB.out.size))
  clear hd
  go_wp2
  go_ret2
  exact ⟨rfl, HD.out⟩
end Go.Proofs.YtajccgmeminlhaaGreatDoor
end
section
/- field.eval by slices.Backward, field.Eval: walks. -/
set_option linter.unusedVariables false
set_option linter.unusedSimpArgs false
namespace Go.Proofs.YtajccgmeminlhaaGreatDoor
open Go.RowKit Go.Shelf Go.Proofs.YtajccgmeminlhaaGreatDoorW.PrintWords Go.Proofs.YtajccgmeminlhaaGreatDoor.Q Go.Proofs.YtajccgmeminlhaaGreatDoor.Gf
attribute [local go_sem] Oper.semAt_some

/-- A list of the field's elements as numbers. -/
def ns (l : List G) : List Int := l.map fun g => (g.n : Int)
theorem ns_length (l : List G) : (ns l).length = l.length := List.length_map _
theorem ns_at (l : List G) (i : Nat) : (ns l).getD i 0 = ((l.getD i 0).n : Int) := by
  unfold ns
  rw [List.getD_eq_getElem?_getD, List.getD_eq_getElem?_getD, List.getElem?_map]
  cases l[i]? <;> rfl
theorem ns_rd (l : List G) (i : Nat) : rd (ns l) i = ((l.getD i 0).n : Int) := by
  unfold rd
  rw [Int.toNat_natCast, ns_at]
theorem ns_big (l : List G) : (ns l).any big = false := by
  rw [List.any_eq_false]
  intro x hx
  unfold ns at hx
  obtain ⟨g, _, rfl⟩ := List.mem_map.1 hx
  simp [big_n]
theorem ns_append (a b : List G) : ns (a ++ b) = ns a ++ ns b := List.map_append
/-- Places and elements that have come when j are left. -/
def bk (l : List G) : Nat → Nat → List (Nat × G)
  | _, 0 => []
  | j, d + 1 => bk l (j + 1) d ++ [(j, l.getD j 0)]
theorem bk_length (l : List G) : ∀ d j, (bk l j d).length = d := by
  intro d
  induction d with
  | zero => intro j; rfl
  | succ d ih => intro j; simp [bk, ih]
/-- Blocks below a bound are as they were. -/
def Old (B : Nat) (X Y : World) : Prop := ∀ k, k < B → Y.heap[k]? = X.heap[k]?
theorem Old.cell {B : Nat} {X Y : World} (h : Old B X Y) {p : Addr} (hp : p.block < B) : Y.cell? p = X.cell? p := World.cell?_of_block (h _ hp)

set_option maxHeartbeats 2000000 in
set_option maxRecDepth 100000 in
theorem back1 (n : Nat) (hn : 1 ≤ n) (l : List G) (hl : l.length ≤ 1000000) (A : Option Addr) (c : Nat) (w0 : World) (hC : Kd.C (Kd.int .u8) w0 A (ns l).length (ns l)) (Bt : Nat) (w : World) (hw : Below w0.heap.size w0 w) (hB : Boxed w Bt 48 (.slice A l.length c)) :
    SeqStopsK Fence.wide n Tryz.prog 165 #[.pointer (some ⟨Bt, 0, none⟩)] (fun x : Nat × G => #[.int .i64 x.1, .int .u8 x.2.n]) (fun W W' => (∀ v, Boxed W Bt 48 v → Boxed W' Bt 48 v) ∧ Old w0.heap.size W W') (fun xs => xs = bk l 0 l.length) (fun _ => True) l.length w := by
  intro y J Jx W hW hJ hJx hY h0
  have hBW : Boxed W Bt 48 (.slice A l.length c) := (hW.block _ hB.lt).trans hB
  have hOW : Old w0.heap.size w0 W := fun k hk => (hW.block k (Nat.lt_of_lt_of_le hk hw.size)).trans (hw.block k hk)
  have HC := Aside0.mk hC
  clear hB hC
  refine callsIn_of_wp Tryz.func165 rfl trivial ?_ rfl
  simp only [Tryz.ntmps165, List.size_toArray, List.length_cons, List.length_nil, Nat.reduceAdd, Nat.reduceSub, Array.replicate_succ, Array.replicate_zero, List.push_toArray, List.append_toArray, List.nil_append, List.cons_append]
  have hc := hBW.cell
  gi_wp2
  gi_loopw [3] (fun i wr => ∃ j : Nat, j ≤ l.length ∧ i = .int .i64 ((j : Int) - 1) ∧ J (bk l j (l.length - j)) wr ∧ Boxed wr Bt 48 (.slice A l.length c) ∧ Old w0.heap.size w0 wr) (fun i _ => (intOf i + 1).toNat)
  case atStart =>
    refine ⟨l.length, Nat.le_refl _, rfl, ?_, hBW, hOW⟩
    rw [Nat.sub_self]
    exact h0
  case round =>
    obtain ⟨j, hj, rfl, hJs, hBr, hOr⟩ := hrel
    have HJ := Aside0.mk hJs
    have HBr := Aside0.mk hBr
    have HOr := Aside0.mk hOr
    have hcr := hBr.cell
    clear hJs hBr hOr
    cases j with
    | zero =>
      gi_wp2
      go_end0
      exact ⟨⟨_, rfl⟩, .inl ⟨_, rfl, HJ.out⟩⟩
    | succ j =>
      have ej : ((j + 1 : Nat) : Int) - 1 = (j : Int) := by omega
      rw [ej]
      have hsub : Aside0 (l.length - j = l.length - (j + 1) + 1) := ⟨by omega⟩
      have hbk : Aside0 (bk l j (l.length - j) = bk l (j + 1) (l.length - (j + 1)) ++ [(j, l.getD j 0)]) := ⟨by rw [hsub.out]; rfl⟩
      obtain ⟨ad, rfl, hx⟩ := Kd.at_int HC.out j (by omega) (by rw [ns_length]; omega)
      rw [ns_rd, Int.toNat_natCast] at hx
      have hx2 : wr.cell? (ad.add j) = some (.int .u8 ((l.getD j 0).n : Nat)) := (HOr.out.cell (World.block_lt_of_cell? _ _ hx)).trans hx
      clear hx
      obtain ⟨fn, tmps, assign, body, hy, hR⟩ := hY _ (j, l.getD j 0) wr HJ.out (by rw [bk_length]; omega)
      have HR := Aside0.mk hR
      clear hR
      have hbnd : (j : Int) < (l.length : Int) := by omega
      generalize hgx : l.getD j 0 = gx at *
      gi_wp2
      refine HR.out.mono ?_
      rintro e w3 (⟨rfl, hJ3, hk3⟩ | ⟨rfl, hJx3⟩)
      · gi_wp2
        exact ⟨⟨j, by omega, rfl, by rw [hbk.out]; exact hJ3, hk3.1 _ HBr.out, fun k hk => (hk3.2 k hk).trans (HOr.out k hk)⟩, by simp [intOf]⟩
      · gi_wp2
        exact bodyPost_ret (v := .tuple #[]) (by simp [results, Tryz.results165, go_sem]) rfl ⟨⟨_, rfl⟩, .inr ⟨_, trivial, hJx3⟩⟩

theorem backward_any (A : Option Addr) (n c : Nat) (w : World) :
    Calls Tryz.prog 158 #[.slice A n c] w fun e w' => e = .returned (.func (.func 165) #[] #[.pointer (some ⟨w.heap.size, 0, none⟩)]) ∧ w.alloc (.cells #[.slice A n c] 48) = w' := by
  have hmf : ∀ (fn : Fn) (first cap : Array Value) (w : World), (Instr.makeFunc fn first cap).run Tryz.prog w = .ok (.func fn first cap) w := fun _ _ _ _ => rfl
  go_enter Tryz.func158, Tryz.ntmps158
  go_wp2
  go_ret
  exact ⟨rfl, rfl⟩

/-- A polynomial at a place: the first element is that of degree 0. -/
def horner (x : G) (l : List G) : G := l.foldr (fun a acc => acc * x + a) 0
def evp (x : G) (pre : List (Nat × G)) : G := pre.foldl (fun acc p => acc * x + p.2) 0
theorem evp_snoc (x : G) (pre : List (Nat × G)) (p : Nat × G) : evp x (pre ++ [p]) = evp x pre * x + p.2 := by simp [evp]
theorem evp_bk (x : G) (l : List G) : ∀ d j, j + d = l.length → evp x (bk l j d) = horner x (l.drop j) := by
  intro d
  induction d with
  | zero => intro j h; rw [List.drop_eq_nil_of_le (by omega)]; rfl
  | succ d ih =>
    intro j h
    rw [bk, evp_snoc, ih (j + 1) (by omega)]
    conv => rhs; rw [List.drop_eq_getElem_cons (show j < l.length by omega)]
    unfold horner
    rw [List.foldr_cons, List.getD_eq_getElem?_getD, List.getElem?_eq_getElem (show j < l.length by omega)]
    rfl
theorem addG_n (a b : G) : (a + b).n = a.n ^^^ b.n := rfl
theorem xor_n (a b : G) : bits .xor .u8 (a.n : Int) (b.n : Int) = ((a + b).n : Int) := by
  rw [u8_xor_nat a.n b.n (by have := a.lt; omega) (by have := b.lt; omega), addG_n]
theorem boxed_alloc {W : World} {b : Nat} {t : TypeId} {v : Value} (h : Boxed W b t v) (o : Obj) : Boxed (W.alloc o) b t v := (Below.heap_alloc _ _ _ h.lt).trans h
theorem boxed_set {W : World} {b g : Nat} {t : TypeId} {v : Value} (h : Boxed W b t v) (x : Value) (hne : g ≠ b) : Boxed (W.setCell ⟨g, 0, none⟩ x) b t v := by
  unfold Boxed at h ⊢
  rw [heap_setCell_other _ _ _ _ (fun e => hne e.symm)]
  exact h
theorem boxed_put {W : World} {b : Nat} {t : TypeId} {v : Value} (h : Boxed W b t v) (x : Value) : Boxed (W.setCell ⟨b, 0, none⟩ x) b t x := by
  unfold Boxed at h ⊢
  exact heap_setCell_same _ _ _ _ _ _ h
set_option maxHeartbeats 2000000 in
set_option maxRecDepth 100000 in
theorem eval_any (A : Option Addr) (c : Nat) (l : List G) (x : G) (w : World) (hp : PW w) (hr : Kd.C (Kd.int .u8) w A l.length (ns l)) (hc : l.length ≤ c) (hn : l.length ≤ 1000) :
    Calls Tryz.prog 141 #[.slice A l.length c, .int .u8 x.n] w fun e w' => e = .returned (.int .u8 ((horner x l).n : Nat)) ∧ Below w.heap.size w w' := by
  refine (callsIn_wide (n := 5)).1 ?_
  refine callsIn_of_wp_marks Tryz.func141 rfl trivial ?_ rfl
  simp only [Tryz.ntmps141, List.size_toArray, List.length_cons, List.length_nil, Nat.reduceAdd, Nat.reduceSub, Array.replicate_succ, Array.replicate_zero, List.push_toArray, List.append_toArray, List.nil_append, List.cons_append]
  gi_wp2
  refine ⟨trivial, callsIn_wide.2 ((backward_any A l.length c _).mono ?_)⟩
  rintro e w1 ⟨rfl, rfl⟩
  gi_wp2
  obtain ⟨W, hW⟩ : ∃ W, ((w.alloc (.cells #[.int .u8 x.n] 5)).alloc (.cells #[.int .u8 0] 5)).alloc (.cells #[.slice A l.length c] 48) = W := ⟨_, rfl⟩
  have hsz : W.heap.size = w.heap.size + 3 := by rw [← hW]; simp
  have hBx : Boxed W w.heap.size 5 (.int .u8 x.n) := by
    rw [← hW]
    exact boxed_alloc (boxed_alloc (Boxed.new w 5 (.int .u8 x.n)) _) _
  have hBo : Boxed W (w.heap.size + 1) 5 (.int .u8 0) := by
    rw [← hW]
    have := Boxed.new (w.alloc (.cells #[.int .u8 x.n] 5)) 5 (.int .u8 0)
    rw [World.size_alloc] at this
    exact boxed_alloc this _
  have hBs : Boxed W (w.heap.size + 2) 48 (.slice A l.length c) := by
    rw [← hW]
    have := Boxed.new ((w.alloc (.cells #[.int .u8 x.n] 5)).alloc (.cells #[.int .u8 0] 5)) 48 (.slice A l.length c)
    rw [World.size_alloc, World.size_alloc] at this
    exact this
  have hbl : Below w.heap.size w W := by rw [← hW]; exact (((Below.refl _ w).alloc (Nat.le_refl _) _).alloc (by simp) _).alloc (by simp; omega) _
  rw [hW]
  have hlen : Aside0 ((bk l 0 l.length).length ≤ 1000) := ⟨by rw [bk_length]; exact hn⟩
  refine wpIn_rangeFunc_ownF rfl (by omega) (gf := 165) (lb := #[.pointer (some ⟨w.heap.size + 2, 0, none⟩)]) rfl trivial (enters_of Tryz.func165 (by kernel_rfl) rfl)
    (back1 _ (by omega) l (by omega) A c w (by rw [ns_length]; exact hr) (w.heap.size + 2) W hbl hBs) (fun h k => ⟨fun v hv => k.1 v (h.1 v hv), fun j hj => (k.2 j hj).trans (h.2 j hj)⟩)
    (fun X y o o' hl' ho hc _ => ⟨fun v hv => by
      have hne : y ≠ w.heap.size + 2 := by omega
      unfold Boxed at hv ⊢
      rw [World.putObj_heap_other (fun e => hne e.symm)]
      exact hv, fun k hk => World.putObj_heap_other (by omega)⟩) (Below.refl _ _) (fun _ => rfl)
    (fun pre X => Boxed X w.heap.size 5 (.int .u8 x.n) ∧ Boxed X (w.heap.size + 1) 5 (.int .u8 ((evp x pre).n : Nat)) ∧ Below w.heap.size w X)
    (fun _ _ _ => False)
    (OwnFrom.and (fun pre X Y row hs hg hr => (hg.block _ hs.lt (fun e => by have := (hr _ e.symm).1; omega)).trans hs) (OwnFrom.and (fun pre X Y row hs hg hr => (hg.block _ hs.lt (fun e => by have := (hr _ e.symm).1; omega)).trans hs) (ownFrom_below (Nat.le_refl _) (by omega))))
    (fun _ _ _ _ _ hs _ _ => hs)
    ⟨hBx, hBo, hbl⟩
    (fun p => { tmps := #[.slice A l.length c, .int .u8 x.n, undef, .pointer (some ⟨w.heap.size, 0, none⟩), .int .u8 0, .pointer (some ⟨w.heap.size + 1, 0, none⟩), undef, .int .u8 p.2.n, .slice A l.length c, .func (.func 165) #[] #[.pointer (some ⟨w.heap.size + 2, 0, none⟩)], .int .i64 p.1, .int .u8 p.2.n, undef, undef, undef, undef, undef, undef], defers := [] }) ?assign ?body ?done ?stop
  case assign =>
    intro y p X K hK
    gi_wp2
    exact hK
  case body =>
    rintro y pre ⟨q, a⟩ X ⟨hbx, hbo, hb⟩ hpre
    have HX := Aside0.mk hbx
    have HO := Aside0.mk hbo
    have HB := Aside0.mk hb
    have hs := hb.size
    have hcx := hbx.cell
    have hco := hbo.cell
    have HP := Aside0.mk (hp.below hb)
    clear hbx hbo hb
    gi_wp2
    refine ⟨trivial, CallsIn.inRound y (callsIn_wide.2 ((mul_any (evp x pre) x X HP.out).mono ?_))⟩
    rintro e X2 ⟨rfl, hd⟩
    have HD := Aside0.mk hd
    have hb2 := hd.below
    have hbx2 : Boxed X2 w.heap.size 5 (.int .u8 x.n) := (hb2.block _ HX.out.lt).trans HX.out
    have hbo2 : Boxed X2 (w.heap.size + 1) 5 (.int .u8 ((evp x pre).n : Nat)) := (hb2.block _ HO.out.lt).trans HO.out
    have HX2 := Aside0.mk hbx2
    have HO2 := Aside0.mk hbo2
    have HB2 := Aside0.mk (HB.out.trans (hb2.mono HB.out.size))
    have hco2 := hbo2.cell
    have hfo2 := hbo2.frozen
    have HXOR := Aside0.mk (xor_n (evp x pre * x) a)
    have HKO := Aside0.mk hb2
    clear hd hb2 hbx2 hbo2
    gi_wp2
    rw [HXOR.out]
    have hoth : ∀ k, k < X.heap.size → k ≠ w.heap.size + 1 → (X2.setCell ⟨w.heap.size + 1, 0, none⟩ (.int .u8 ((evp x pre * x + a).n : Nat))).heap[k]? = X.heap[k]? := fun k hk hne => (heap_setCell_other _ _ _ _ hne).trans (HKO.out.block k hk)
    refine ⟨⟨by simpa using HKO.out.size, fun k o hk ho => ?_⟩, ⟨fun v hv => ?_, fun k hk => hoth k (by omega) (by omega)⟩, boxed_set HX2.out _ (by omega), ?_, HB2.out.setCell (p := ⟨w.heap.size + 1, 0, none⟩) (by simp) _⟩
    · have hlt : k < X.heap.size := (Array.getElem?_eq_some_iff.1 hk).1
      by_cases e : k = w.heap.size + 1
      · subst e
        have := HO.out
        unfold Boxed at this
        rw [this] at hk
        cases hk
        simp [Obj.isCells] at ho
      · exact (hoth k hlt e).trans hk
    · exact (hoth _ hv.lt (by omega)).trans hv
    · rw [evp_snoc]
      exact boxed_put HO2.out _
  case done =>
    rintro D ys X hD rfl ⟨hbx, hbo, hb⟩ hK
    have HB := Aside0.mk hb
    have HS := Aside0.mk hb.size
    have HK := Aside0.mk hK
    have hco := hbo.cell
    clear hK
    gi_wp2
    rw [evp_bk x l l.length 0 (by omega), List.drop_zero]
    refine ⟨by simp, .inl ⟨_, _, rfl, run_takeDeferred HK.out, ?_⟩⟩
    exact ⟨_, results_tmp rfl _ _ _, rfl, HB.out.trans (belowK_b (w := w) (Nat.le_refl _) X D _ _ (by omega) HK.out rfl rfl)⟩
  case stop =>
    rintro D c pre X _ _ h _
    exact h.elim
set_option maxHeartbeats 4000000 in
set_option maxRecDepth 100000 in
theorem Eval_any (A : Option Addr) (c : Nat) (l : List G) (x : G) (w : World) (hp : PW w) (hr : Kd.C (Kd.int .u8) w A l.length (ns l)) (hc : l.length ≤ c) (hn : l.length ≤ 128) :
    Calls Tryz.prog 130 #[.slice A l.length c, .int .u8 x.n] w fun e w' => e = .returned (.tuple #[.int .u8 ((horner x l).n : Nat), .int .i64 0]) ∧ Below w.heap.size w w' := by
  have hb := two_below w (.cells #[.int .u8 x.n] 5) (.cells #[.slice A l.length c, .slice (some ⟨w.heap.size, 0, none⟩) 1 1] 48)
  have hr1 := Kd.C_alloc (lit_reads w .u8 5 [(x.n : Int)] _ rfl 1 rfl (by omega)) (.cells #[.slice A l.length c, .slice (some ⟨w.heap.size, 0, none⟩) 1 1] 48)
  have hr2 := Kd.C_below hr hb
  have hck := check2_any (w.heap.size + 1) A c (ns l) (some ⟨w.heap.size, 0, none⟩) 1 [(x.n : Int)] _ (by rw [ns_length]; exact hr2) (by rw [ns_length]; exact hc) (by rw [ns_length]; exact hn) (ns_big l) (by rw [ns_length]; exact lit_cell2 w _ _ _ 0) hr1 (by simp) (by simp) (by simp [big_n]) (lit_cell2 w _ _ _ 1)
  have HCK := Aside0.mk hck
  have HE := Aside0.mk (eval_any A c l x _ (hp.below hb) hr2 hc (by omega))
  have HB := Aside0.mk hb
  clear hb hr1 hr2 hck
  go_enter Tryz.func130, Tryz.ntmps130
  go_wp2_with fail
  refine HCK.out.mono ?_
  rintro e w1 ⟨rfl, rfl⟩
  go_wp2_with fail
  refine HE.out.mono ?_
  rintro e w2 ⟨rfl, hb2⟩
  have HB2 := Aside0.mk (HB.out.trans (hb2.mono HB.out.size))
  clear hb2
  go_wp2
  go_ret2
  exact ⟨rfl, HB2.out⟩
end Go.Proofs.YtajccgmeminlhaaGreatDoor
end
section
/- slices.Clone, field.trim, Roots: walks. -/
set_option linter.unusedVariables false
set_option linter.unusedSimpArgs false
namespace Go.Proofs.YtajccgmeminlhaaGreatDoor
open Go.RowKit Go.Shelf Go.Proofs.YtajccgmeminlhaaGreatDoorW.PrintWords Go.Proofs.YtajccgmeminlhaaGreatDoor.Q Go.Proofs.YtajccgmeminlhaaGreatDoor.Gf

theorem info_int : (Tryz.prog.info? 3).map (fun i => (i.zero, i.size, i.bytes)) = some (some (.int .i64 0), 1, 8) := by kernel_rfl
theorem info_u8 : (Tryz.prog.info? 5).map (fun i => (i.zero, i.size, i.bytes)) = some (some (.int .u8 0), 1, 1) := by kernel_rfl
/-- A row of the call's own. -/
def Own (k : IntKind) (e : TypeId) (w' : World) (base : Nat) (v : Value) (l : List Int) : Prop := w'.ownsRow base e 1 v l.length (nums k l)
theorem Own.toR {k : IntKind} {e : TypeId} {w' : World} {base : Nat} {v : Value} {l : List Int} (h : Own k e w' base v l) : Kd.R (Kd.int k) e w' base (fun _ => True) v l := Kd.R_of_own (h1 := fun _ => rfl) (ok := fun _ => True) h (fun _ _ => trivial)
theorem Own.below {k : IntKind} {e : TypeId} {w w' : World} {base : Nat} {v : Value} {l : List Int} (h : Own k e w base v l) (hb : Below w.heap.size w w') : Own k e w' base v l := pw_own_below h hb
theorem nums_nil (k : IntKind) : nums k [] = [] := rfl
set_option maxHeartbeats 2000000 in
set_option maxRecDepth 100000 in
theorem clone_u8 (A : Option Addr) (c : Nat) (l : List Int) (w : World) (hr : Kd.C (Kd.int .u8) w A l.length l) (hc : l.length ≤ c) (hn : l.length ≤ 1000000) :
    Calls Tryz.prog 74 #[.slice A l.length c] w fun e w' => ∃ v, e = .returned v ∧ Own .u8 5 w' w.heap.size v l ∧ Below w.heap.size w w' := by
  have q22 : ∀ (w : World) (a : Option Addr) (n c n' c' : Nat), (binOp .eql 48 (.slice a n c) (.slice none n' c')).run Tryz.prog w = .ok (.bool a.isNone) w := fun w a n c n' c' => Lib.run_eql_slice_nil w _ _ a n c n' c' Tryz.underlying48
  cases A with
  | none =>
    have h0 : l.length = 0 := by
      rcases Nat.eq_zero_or_pos l.length with h | h
      · exact h
      · obtain ⟨ad, h2, _⟩ := Kd.at_int hr 0 (by omega) (by simpa using h)
        cases h2
    obtain rfl : l = [] := List.eq_nil_of_length_eq_zero h0
    go_enter Tryz.func74, Tryz.ntmps74
    go_wp2_with fail
    exact bodyPost_ret (v := .slice none 0 0) (by simp [results, Tryz.results74, go_sem]) rfl ⟨_, rfl, World.ownsRow_nil _ _ _ _, Below.refl _ _⟩
  | some ad =>
    have HR := Aside0.mk (Kd.C_alloc hr (.cells #[] 5))
    have HO := Aside0.mk (World.ownsRow_lit (base := w.heap.size) (e := 5) (size := 1) w #[] 0 (Nat.le_refl _) (by decide) rfl)
    have HB := Aside0.mk ((Below.refl _ w).alloc (Nat.le_refl _) (.cells #[] 5))
    clear hr
    go_enter Tryz.func74, Tryz.ntmps74
    go_wp2_with (first | (at_builtin; refine print_append_row (w0 := w) w.heap.size rfl _ _ 48 5 .u8 1 rfl Tryz.underlying48 info_u8 (by decide) _ [] l (some ad) l.length c rfl rfl HO.out (Kd.reads_of_C HR.out) HB.out HB.out.size (by simp; omega) ?_; intro v1 w1 hown hB1 hg hat; have HO1 := Aside0.mk hown; have HB1 := Aside0.mk hB1; clear hown hB1 hg hat))
    exact bodyPost_ret (v := v1) (by simp [results, Tryz.results74, go_sem]) rfl ⟨_, rfl, by simpa [Own] using HO1.out, HB1.out⟩
end Go.Proofs.YtajccgmeminlhaaGreatDoor
end
