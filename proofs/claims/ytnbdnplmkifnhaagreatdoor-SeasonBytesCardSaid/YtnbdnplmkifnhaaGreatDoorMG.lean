/- A part of the proof: an abstract heap, a verified walk over the program, and plain laws over lists. Conditions: none beyond the statement. -/
import Derived.Test.YtnbdnplmkifnhaaGreatDoorMF
import Derived.Test.YtnbdnplmkifnhaaGreatDoorME
import Derived.Test.YtnbdnplmkifnhaaGreatDoorRows
import Derived.Lib.LaidU8
import Derived.Shelf.Vars
import Derived.Lay
import Derived.LaidOnce
import Derived.ProofKit
import Derived.SliceStrings
import Derived.ChangeMaps5
import Derived.Carry
import Derived.Handed
set_option linter.unusedVariables false
set_option linter.unusedSimpArgs false
namespace Go.Bv
theorem mat_one (t : List UInt8) (j : Nat) (c : UInt8) : mat (t.drop j) [c] = bif decide (j < t.length) && decide ((t.getD j 0).toNat = c.toNat) then (1, true) else (0, false) := by
  by_cases h : j < t.length
  · rw [drop_cons h 0]
    have e : decide (j < t.length) = true := by simpa using h
    simp only [mat, e, Bool.true_and]
  · have e : decide (j < t.length) = false := by simpa using h
    rw [List.drop_eq_nil_of_le (by omega), e]; rfl
theorem lineL_eq (t : List UInt8) (a : Nat) : lineL t a =
    bif decide (0 < (dgL (t.drop a) 0 0).1) && (decide (a + (dgL (t.drop a) 0 0).1 < t.length) && decide ((t.getD (a + (dgL (t.drop a) 0 0).1) 0).toNat = 32)) then lineL2 t (a + (dgL (t.drop a) 0 0).1 + 1) (dgL (t.drop a) 0 0).2
    else (([], false), a + (dgL (t.drop a) 0 0).1) := by
  unfold lineL
  rw [mat_one]
  generalize dgL (t.drop a) 0 0 = q
  obtain ⟨k, l⟩ := q
  simp only
  cases hk : decide (k = 0) with
  | true =>
    have : decide (0 < k) = false := by simp only [decide_eq_true_eq, decide_eq_false_iff_not] at hk ⊢; omega
    rw [this]; rfl
  | false =>
    have : decide (0 < k) = true := by simp only [decide_eq_true_eq, decide_eq_false_iff_not] at hk ⊢; omega
    rw [this, Bool.true_and]
    simp only [show UInt8.toNat 32 = 32 from rfl]
    generalize (decide (a + k < t.length) && decide ((t.getD (a + k) 0).toNat = 32)) = b
    cases b <;> rfl
theorem lenF_eq (t : List UInt8) (a : Nat) (h : a < t.length) : lenF t a =
    bif decide (0 < (dgL (t.drop a) 0 0).1) && (decide (a + (dgL (t.drop a) 0 0).1 < t.length) && decide ((t.getD (a + (dgL (t.drop a) 0 0).1) 0).toNat = 32)) then ((((dgL (t.drop a) 0 0).2 : Nat) : Int), a + (dgL (t.drop a) 0 0).1 + 1)
    else ((-1 : Int), a + (dgL (t.drop a) 0 0).1) := by
  have d1 := dgL_le (t.drop a) 0 0
  rw [List.length_drop] at d1
  unfold lenF lenV
  rw [Nat.sub_self, Nat.zero_add]
  generalize dgL (t.drop a) 0 0 = q at d1 ⊢
  obtain ⟨k, l⟩ := q
  simp only at d1 ⊢
  cases hk : decide (a + k < t.length) with
  | true => simp only [cond_true, Bool.true_and]
  | false =>
    simp only [decide_eq_false_iff_not] at hk
    simp only [cond_false, Bool.false_and, Bool.and_false]
    rw [show a + k = t.length by omega]
theorem prL_all : ∀ (t : List UInt8) (n : Nat), (prL t n).2 = true → (prL t n).1 = n
  | t, 0, _ => by simp [prL]
  | [], n + 1, h => by simp [prL] at h
  | x :: t, n + 1, h => by
    simp only [prL] at h ⊢
    cases hx : prB x with
    | true => rw [hx] at h; simp only [cond_true] at h ⊢; rw [prL_all t n h]
    | false => rw [hx] at h; simp at h
theorem lineL2_eq (t : List UInt8) (i n : Nat) : lineL2 t i n =
    bif (prL (t.drop i) n).2 then
      bif decide (i + n < t.length) && decide ((t.getD (i + n) 0).toNat = 10) then (((t.take (i + n)).drop i, true), i + n + 1) else (((t.take (i + n)).drop i, false), i + n)
    else (([], false), i + (prL (t.drop i) n).1) := by
  unfold lineL2
  cases h : (prL (t.drop i) n).2 with
  | false => rfl
  | true =>
    rw [prL_all _ _ h, mat_one]
    simp only [show UInt8.toNat 10 = 10 from rfl]
    generalize (decide (i + n < t.length) && decide ((t.getD (i + n) 0).toNat = 10)) = b
    cases b <;> rfl
theorem round2_of {P : Program} {X : SX} {inl : FuncId → FSpec} {na : Nat} {L : Nat → Option LoopT} {b : Code} {ι : Type} (hX : XOK P X) (hI : ∀ f, FOK2 P f (inl f)) (hm : P.follows .mixedOrders = true)
    {keep keepE keepR : List Nat} {S : ι → VS} {N : ι → Prop} {D : Exit → VS → Prop} {s : VS}
    (round : roundP2 P X inl na L b keep keepE keepR s (fun o => ∃ j, o = some (S j) ∧ N j) (fun e o => ∃ s2, o = some s2 ∧ D e s2)) :
    ∃ e s1, VWn P na none b s (Is e s1) ∧ RoundEnd na keep S N D e s1 := by
  obtain ⟨e, s1, W1, h1, h2⟩ := codeP_ok hX hI hm b 1 s [] _ round
  cases e with
  | normal =>
    obtain ⟨j, h3, h4⟩ := h2
    exact ⟨_, s1, h1, j, h3, h4⟩
  | exit id => obtain ⟨s2, h3, h4⟩ := h2; exact ⟨_, s2, h1.canon h3, h4⟩
  | goto l => obtain ⟨s2, h3, h4⟩ := h2; exact ⟨_, s2, h1.canon h3, h4⟩
  | ret => obtain ⟨s2, h3, h4⟩ := h2; exact ⟨_, s2, h1.canon h3, h4⟩
  | panic ch => obtain ⟨s2, h3, h4⟩ := h2; exact ⟨_, s2, h1.canon h3, h4⟩
  | outgrown => obtain ⟨s2, h3, h4⟩ := h2; exact ⟨_, s2, h1.canon h3, h4⟩
end Go.Bv
namespace Go.Proofs
open Go Go.Bv

def lRi0 : Nat → Option LoopT := fun p => bif Nat.beq p 442 then some riT0 else none
def lRi1 : Nat → Option LoopT := fun p => bif Nat.beq p 442 then some riT1 else none
def rrS0 (t : List UInt8) (i : Nat) : VS := stN 134 [(0, .d (.str t)), (5, .d (.int .i64 i)), (6, .d (.slice true []))] []
def rrS1 (t : List UInt8) (i : Nat) (xs : List (List UInt8)) : VS := stN 134 [(0, .d (.str t)), (5, .d (.int .i64 i)), (6, .sref 0 xs.length)] [.row 1 0 false (strsD xs)]
def rrS (t : List UInt8) (i : Nat) (xs : List (List UInt8)) : VS := bif xs.isEmpty then rrS0 t i else rrS1 t i xs
theorem rr_round0 (t : List UInt8) (i : Nat) (Kn : Option Go.Bv.VS → Prop) (Ke : Go.Exit → Option Go.Bv.VS → Prop) : (bif Decidable.decide ((↑i : Int) < (↑(List.length t) : Int)) then ((0 : Int) ≤ (↑i : Int) ∧ (↑i : Int) < (↑(List.length t) : Int)) ∧ bif !Decidable.decide ((↑(UInt8.toNat (List.getD t (Int.toNat (↑i : Int)) (0 : UInt8))) : Int) = (101 : Int)) then ((0 : Int) ≤ (↑i : Int) ∧ Int.toNat (↑i : Int) ≤ List.length t ∧ List.length t ≤ (4294967280 : Nat)) ∧ bif Decidable.decide (Prod.fst (Go.Bv.lenF t (Int.toNat (↑i : Int))) < (0 : Int)) then Ke Go.Exit.ret (Option.some (Go.Bv.VS.mk [((2 : Nat), Go.Bv.V.d (Go.Bv.D.slice Bool.true [])), ((3 : Nat), Go.Bv.V.d (Go.Bv.D.int Go.IntKind.i64 (↑(Prod.snd (Go.Bv.lenF t (Int.toNat (↑i : Int)))) : Int))), ((4 : Nat), Go.Bv.V.d (Go.Bv.D.int Go.IntKind.i64 (122 : Int)))] [] (0 : Nat) [] (134 : Nat))) else Go.Bv.LoopOK Go.Proofs.Tryz.prog (0 : Nat) Option.none (Go.Bv.loopB Go.Proofs.Tryz.prog (11 : Nat) [Bool.true, Bool.true, Bool.true, Bool.false, Bool.false, Bool.false, Bool.true, Bool.false, Bool.true, Bool.true, Bool.true, Bool.false, Bool.true, Bool.false]) Go.Proofs.riT0 ∧ ∃ (t_1 : List UInt8), ∃ (i_1 : Nat), ∃ (n : Nat), Option.some (Go.Bv.VS.mk [((0 : Nat), Go.Bv.V.d (Go.Bv.D.str t)), ((5 : Nat), Go.Bv.V.d (Go.Bv.D.int Go.IntKind.i64 (↑(Prod.snd (Go.Bv.lenF t (Int.toNat (↑i : Int)))) : Int))), ((6 : Nat), Go.Bv.V.d (Go.Bv.D.slice Bool.true [])), ((7 : Nat), Go.Bv.V.d (Go.Bv.D.int Go.IntKind.i64 (Prod.fst (Go.Bv.lenF t (Int.toNat (↑i : Int)))))), ((9 : Nat), Go.Bv.V.d (Go.Bv.D.int Go.IntKind.i64 (0 : Int)))] [] (0 : Nat) [] (134 : Nat)) = Option.some (Go.Bv.VS.mk [((0 : Nat), Go.Bv.V.d (Go.Bv.D.str t_1)), ((5 : Nat), Go.Bv.V.d (Go.Bv.D.int Go.IntKind.i64 (↑i_1 : Int))), ((6 : Nat), Go.Bv.V.d (Go.Bv.D.slice Bool.true [])), ((7 : Nat), Go.Bv.V.d (Go.Bv.D.int Go.IntKind.i64 (↑n : Int))), ((9 : Nat), Go.Bv.V.d (Go.Bv.D.int Go.IntKind.i64 (0 : Int)))] [] (0 : Nat) [] (134 : Nat)) ∧ (i_1 ≤ List.length t_1 ∧ List.length t_1 ≤ (4294967280 : Nat) ∧ n ≤ (60 : Nat)) ∧ bif Prod.snd (Go.Bv.prL (List.drop i_1 t_1) n) then bif Decidable.decide ((↑(List.length t_1) : Int) ≤ Go.IntKind.wrap Go.IntKind.i64 ((↑i_1 : Int) + (↑n : Int))) then Ke Go.Exit.ret (Option.some (Go.Bv.VS.mk [((2 : Nat), Go.Bv.V.d (Go.Bv.D.slice Bool.true [])), ((3 : Nat), Go.Bv.V.d (Go.Bv.D.int Go.IntKind.i64 (Go.IntKind.wrap Go.IntKind.i64 ((↑i_1 : Int) + (↑n : Int))))), ((4 : Nat), Go.Bv.V.d (Go.Bv.D.int Go.IntKind.i64 (122 : Int)))] [] (0 : Nat) [] (134 : Nat))) else ((0 : Int) ≤ Go.IntKind.wrap Go.IntKind.i64 ((↑i_1 : Int) + (↑n : Int)) ∧ Go.IntKind.wrap Go.IntKind.i64 ((↑i_1 : Int) + (↑n : Int)) < (↑(List.length t_1) : Int)) ∧ bif !Decidable.decide ((↑(UInt8.toNat (List.getD t_1 (Int.toNat (Go.IntKind.wrap Go.IntKind.i64 ((↑i_1 : Int) + (↑n : Int)))) (0 : UInt8))) : Int) = (10 : Int)) then Ke Go.Exit.ret (Option.some (Go.Bv.VS.mk [((2 : Nat), Go.Bv.V.d (Go.Bv.D.slice Bool.true [])), ((3 : Nat), Go.Bv.V.d (Go.Bv.D.int Go.IntKind.i64 (Go.IntKind.wrap Go.IntKind.i64 ((↑i_1 : Int) + (↑n : Int))))), ((4 : Nat), Go.Bv.V.d (Go.Bv.D.int Go.IntKind.i64 (122 : Int)))] [] (0 : Nat) [] (134 : Nat))) else ((0 : Int) ≤ (↑i_1 : Int) ∧ (↑i_1 : Int) ≤ Go.IntKind.wrap Go.IntKind.i64 ((↑i_1 : Int) + (↑n : Int)) ∧ Go.IntKind.wrap Go.IntKind.i64 ((↑i_1 : Int) + (↑n : Int)) ≤ (↑(List.length t_1) : Int)) ∧ (Bool.true = Bool.true ∧ Bool.true = Bool.true ∧ ((0 : Nat) + List.length [[Go.Bv.D.str (List.drop (Int.toNat (↑i_1 : Int)) (List.take (Int.toNat (Go.IntKind.wrap Go.IntKind.i64 ((↑i_1 : Int) + (↑n : Int)))) t_1))]]) * (16 : Nat) ≤ (140737488355328 : Nat) ∧ (0 : Nat) + List.length [[Go.Bv.D.str (List.drop (Int.toNat (↑i_1 : Int)) (List.take (Int.toNat (Go.IntKind.wrap Go.IntKind.i64 ((↑i_1 : Int) + (↑n : Int)))) t_1))]] ≤ (9223372036854775807 : Nat)) ∧ Kn (Option.some (Go.Bv.VS.mk [((0 : Nat), Go.Bv.V.d (Go.Bv.D.str t_1)), ((5 : Nat), Go.Bv.V.d (Go.Bv.D.int Go.IntKind.i64 (Go.IntKind.wrap Go.IntKind.i64 ((↑i_1 : Int) + Go.IntKind.wrap Go.IntKind.i64 ((↑n : Int) + (1 : Int)))))), ((6 : Nat), Go.Bv.V.sref (0 : Nat) (1 : Nat))] [((0 : Nat), Go.Bv.Blk.row (1 : Nat) (0 : Nat) Bool.false ([] ++ [[Go.Bv.D.str (List.drop (Int.toNat (↑i_1 : Int)) (List.take (Int.toNat (Go.IntKind.wrap Go.IntKind.i64 ((↑i_1 : Int) + (↑n : Int)))) t_1))]]))] (1 : Nat) [] (134 : Nat))) else Ke Go.Exit.ret (Option.some (Go.Bv.VS.mk [((2 : Nat), Go.Bv.V.d (Go.Bv.D.slice Bool.true [])), ((3 : Nat), Go.Bv.V.d (Go.Bv.D.int Go.IntKind.i64 (↑(i_1 + Prod.fst (Go.Bv.prL (List.drop i_1 t_1) n)) : Int))), ((4 : Nat), Go.Bv.V.d (Go.Bv.D.int Go.IntKind.i64 (122 : Int)))] [] (0 : Nat) [] (134 : Nat))) else Ke (Go.Exit.exit (0 : Nat)) (Option.some (Go.Bv.VS.mk [((0 : Nat), Go.Bv.V.d (Go.Bv.D.str t)), ((5 : Nat), Go.Bv.V.d (Go.Bv.D.int Go.IntKind.i64 (↑i : Int))), ((6 : Nat), Go.Bv.V.d (Go.Bv.D.slice Bool.true []))] [] (0 : Nat) [] (134 : Nat))) else Ke (Go.Exit.exit (0 : Nat)) (Option.some (Go.Bv.VS.mk [((0 : Nat), Go.Bv.V.d (Go.Bv.D.str t)), ((5 : Nat), Go.Bv.V.d (Go.Bv.D.int Go.IntKind.i64 (↑i : Int))), ((6 : Nat), Go.Bv.V.d (Go.Bv.D.slice Bool.true []))] [] (0 : Nat) [] (134 : Nat)))) = (roundP2 Tryz.prog xRef3 (inlN Tryz.prog xRef3 l0 4) 0 lRi0 (loopB Tryz.prog 11 [true, true, true, false, false]) [0, 5, 6] [0, 5, 6] [2, 3, 4] (rrS0 t i) Kn Ke) := by kernel_rfl
theorem rr_round1 (t : List UInt8) (i : Nat) (xs : List (List UInt8)) (Kn : Option Go.Bv.VS → Prop) (Ke : Go.Exit → Option Go.Bv.VS → Prop) : (bif Decidable.decide ((↑i : Int) < (↑(List.length t) : Int)) then ((0 : Int) ≤ (↑i : Int) ∧ (↑i : Int) < (↑(List.length t) : Int)) ∧ bif !Decidable.decide ((↑(UInt8.toNat (List.getD t (Int.toNat (↑i : Int)) (0 : UInt8))) : Int) = (101 : Int)) then bif Decidable.decide ((↑(List.length xs) : Int) < (80 : Int)) then ((0 : Int) ≤ (↑i : Int) ∧ Int.toNat (↑i : Int) ≤ List.length t ∧ List.length t ≤ (4294967280 : Nat)) ∧ bif Decidable.decide (Prod.fst (Go.Bv.lenF t (Int.toNat (↑i : Int))) < (0 : Int)) then Ke Go.Exit.ret (Option.some (Go.Bv.VS.mk [((2 : Nat), Go.Bv.V.d (Go.Bv.D.slice Bool.true [])), ((3 : Nat), Go.Bv.V.d (Go.Bv.D.int Go.IntKind.i64 (↑(Prod.snd (Go.Bv.lenF t (Int.toNat (↑i : Int)))) : Int))), ((4 : Nat), Go.Bv.V.d (Go.Bv.D.int Go.IntKind.i64 (122 : Int)))] [] (0 : Nat) [] (134 : Nat))) else Go.Bv.LoopOK Go.Proofs.Tryz.prog (0 : Nat) Option.none (Go.Bv.loopB Go.Proofs.Tryz.prog (11 : Nat) [Bool.true, Bool.true, Bool.true, Bool.false, Bool.false, Bool.false, Bool.true, Bool.false, Bool.true, Bool.true, Bool.true, Bool.false, Bool.true, Bool.false]) Go.Proofs.riT1 ∧ ∃ (t_1 : List UInt8), ∃ (i_1 : Nat), ∃ (n : Nat), ∃ (xs_1 : List (List UInt8)), Option.some (Go.Bv.VS.mk [((0 : Nat), Go.Bv.V.d (Go.Bv.D.str t)), ((5 : Nat), Go.Bv.V.d (Go.Bv.D.int Go.IntKind.i64 (↑(Prod.snd (Go.Bv.lenF t (Int.toNat (↑i : Int)))) : Int))), ((6 : Nat), Go.Bv.V.sref (0 : Nat) (List.length xs)), ((7 : Nat), Go.Bv.V.d (Go.Bv.D.int Go.IntKind.i64 (Prod.fst (Go.Bv.lenF t (Int.toNat (↑i : Int)))))), ((9 : Nat), Go.Bv.V.d (Go.Bv.D.int Go.IntKind.i64 (0 : Int)))] [((0 : Nat), Go.Bv.Blk.row (1 : Nat) (0 : Nat) Bool.false (Go.Bv.strsD xs))] (1 : Nat) [] (134 : Nat)) = Option.some (Go.Bv.VS.mk [((0 : Nat), Go.Bv.V.d (Go.Bv.D.str t_1)), ((5 : Nat), Go.Bv.V.d (Go.Bv.D.int Go.IntKind.i64 (↑i_1 : Int))), ((6 : Nat), Go.Bv.V.sref (0 : Nat) (List.length xs_1)), ((7 : Nat), Go.Bv.V.d (Go.Bv.D.int Go.IntKind.i64 (↑n : Int))), ((9 : Nat), Go.Bv.V.d (Go.Bv.D.int Go.IntKind.i64 (0 : Int)))] [((0 : Nat), Go.Bv.Blk.row (1 : Nat) (0 : Nat) Bool.false (Go.Bv.strsD xs_1))] (1 : Nat) [] (134 : Nat)) ∧ (i_1 ≤ List.length t_1 ∧ List.length t_1 ≤ (4294967280 : Nat) ∧ n ≤ (60 : Nat)) ∧ bif Prod.snd (Go.Bv.prL (List.drop i_1 t_1) n) then bif Decidable.decide ((↑(List.length t_1) : Int) ≤ Go.IntKind.wrap Go.IntKind.i64 ((↑i_1 : Int) + (↑n : Int))) then Ke Go.Exit.ret (Option.some (Go.Bv.VS.mk [((2 : Nat), Go.Bv.V.d (Go.Bv.D.slice Bool.true [])), ((3 : Nat), Go.Bv.V.d (Go.Bv.D.int Go.IntKind.i64 (Go.IntKind.wrap Go.IntKind.i64 ((↑i_1 : Int) + (↑n : Int))))), ((4 : Nat), Go.Bv.V.d (Go.Bv.D.int Go.IntKind.i64 (122 : Int)))] [] (0 : Nat) [] (134 : Nat))) else ((0 : Int) ≤ Go.IntKind.wrap Go.IntKind.i64 ((↑i_1 : Int) + (↑n : Int)) ∧ Go.IntKind.wrap Go.IntKind.i64 ((↑i_1 : Int) + (↑n : Int)) < (↑(List.length t_1) : Int)) ∧ bif !Decidable.decide ((↑(UInt8.toNat (List.getD t_1 (Int.toNat (Go.IntKind.wrap Go.IntKind.i64 ((↑i_1 : Int) + (↑n : Int)))) (0 : UInt8))) : Int) = (10 : Int)) then Ke Go.Exit.ret (Option.some (Go.Bv.VS.mk [((2 : Nat), Go.Bv.V.d (Go.Bv.D.slice Bool.true [])), ((3 : Nat), Go.Bv.V.d (Go.Bv.D.int Go.IntKind.i64 (Go.IntKind.wrap Go.IntKind.i64 ((↑i_1 : Int) + (↑n : Int))))), ((4 : Nat), Go.Bv.V.d (Go.Bv.D.int Go.IntKind.i64 (122 : Int)))] [] (0 : Nat) [] (134 : Nat))) else ((0 : Int) ≤ (↑i_1 : Int) ∧ (↑i_1 : Int) ≤ Go.IntKind.wrap Go.IntKind.i64 ((↑i_1 : Int) + (↑n : Int)) ∧ Go.IntKind.wrap Go.IntKind.i64 ((↑i_1 : Int) + (↑n : Int)) ≤ (↑(List.length t_1) : Int)) ∧ (List.length xs_1 ≤ List.length (Go.Bv.strsD xs_1) ∧ (0 : Nat) ≤ List.length xs_1 ∧ (List.length xs_1 + List.length [[Go.Bv.D.str (List.drop (Int.toNat (↑i_1 : Int)) (List.take (Int.toNat (Go.IntKind.wrap Go.IntKind.i64 ((↑i_1 : Int) + (↑n : Int)))) t_1))]]) * (16 : Nat) ≤ (140737488355328 : Nat) ∧ List.length xs_1 + List.length [[Go.Bv.D.str (List.drop (Int.toNat (↑i_1 : Int)) (List.take (Int.toNat (Go.IntKind.wrap Go.IntKind.i64 ((↑i_1 : Int) + (↑n : Int)))) t_1))]] ≤ (9223372036854775807 : Nat)) ∧ Kn (Option.some (Go.Bv.VS.mk [((0 : Nat), Go.Bv.V.d (Go.Bv.D.str t_1)), ((5 : Nat), Go.Bv.V.d (Go.Bv.D.int Go.IntKind.i64 (Go.IntKind.wrap Go.IntKind.i64 ((↑i_1 : Int) + Go.IntKind.wrap Go.IntKind.i64 ((↑n : Int) + (1 : Int)))))), ((6 : Nat), Go.Bv.V.sref (0 : Nat) (List.length xs_1 + List.length [[Go.Bv.D.str (List.drop (Int.toNat (↑i_1 : Int)) (List.take (Int.toNat (Go.IntKind.wrap Go.IntKind.i64 ((↑i_1 : Int) + (↑n : Int)))) t_1))]]))] [((0 : Nat), Go.Bv.Blk.row (1 : Nat) (0 : Nat) Bool.false (List.take (List.length xs_1) (Go.Bv.strsD xs_1) ++ [[Go.Bv.D.str (List.drop (Int.toNat (↑i_1 : Int)) (List.take (Int.toNat (Go.IntKind.wrap Go.IntKind.i64 ((↑i_1 : Int) + (↑n : Int)))) t_1))]]))] (1 : Nat) [] (134 : Nat))) else Ke Go.Exit.ret (Option.some (Go.Bv.VS.mk [((2 : Nat), Go.Bv.V.d (Go.Bv.D.slice Bool.true [])), ((3 : Nat), Go.Bv.V.d (Go.Bv.D.int Go.IntKind.i64 (↑(i_1 + Prod.fst (Go.Bv.prL (List.drop i_1 t_1) n)) : Int))), ((4 : Nat), Go.Bv.V.d (Go.Bv.D.int Go.IntKind.i64 (122 : Int)))] [] (0 : Nat) [] (134 : Nat))) else Ke (Go.Exit.exit (0 : Nat)) (Option.some (Go.Bv.VS.mk [((0 : Nat), Go.Bv.V.d (Go.Bv.D.str t)), ((5 : Nat), Go.Bv.V.d (Go.Bv.D.int Go.IntKind.i64 (↑i : Int))), ((6 : Nat), Go.Bv.V.sref (0 : Nat) (List.length xs))] [((0 : Nat), Go.Bv.Blk.row (1 : Nat) (0 : Nat) Bool.false (Go.Bv.strsD xs))] (1 : Nat) [] (134 : Nat))) else Ke (Go.Exit.exit (0 : Nat)) (Option.some (Go.Bv.VS.mk [((0 : Nat), Go.Bv.V.d (Go.Bv.D.str t)), ((5 : Nat), Go.Bv.V.d (Go.Bv.D.int Go.IntKind.i64 (↑i : Int))), ((6 : Nat), Go.Bv.V.sref (0 : Nat) (List.length xs))] [((0 : Nat), Go.Bv.Blk.row (1 : Nat) (0 : Nat) Bool.false (Go.Bv.strsD xs))] (1 : Nat) [] (134 : Nat))) else Ke (Go.Exit.exit (0 : Nat)) (Option.some (Go.Bv.VS.mk [((0 : Nat), Go.Bv.V.d (Go.Bv.D.str t)), ((5 : Nat), Go.Bv.V.d (Go.Bv.D.int Go.IntKind.i64 (↑i : Int))), ((6 : Nat), Go.Bv.V.sref (0 : Nat) (List.length xs))] [((0 : Nat), Go.Bv.Blk.row (1 : Nat) (0 : Nat) Bool.false (Go.Bv.strsD xs))] (1 : Nat) [] (134 : Nat)))) = (roundP2 Tryz.prog xRef3 (inlN Tryz.prog xRef3 l0 4) 0 lRi1 (loopB Tryz.prog 11 [true, true, true, false, false]) [0, 5, 6] [0, 5, 6] [2, 3, 4] (rrS1 t i xs) Kn Ke) := by kernel_rfl
def rrR (p : List UInt8 × Nat × List (List UInt8)) (e : Exit) (s' : VS) : Prop :=
  bif (rdL p.1 p.2.1 p.2.2).1 then e = .exit 0 ∧ s' = rrS p.1 (rdL p.1 p.2.1 p.2.2).2.1 (rdL p.1 p.2.1 p.2.2).2.2 else e = .ret ∧ s' = retS ((rdL p.1 p.2.1 p.2.2).2.1 : Nat)
def rrT : LoopT := fun s W Q => ∃ (t : List UInt8), canonN 0 [0, 5, 6] s = some (rrS0 t 0) ∧ (t.length ≤ 4294967280) ∧
  bif (rdL t 0 []).1 then (bif (rdL t 0 []).2.2.isEmpty then Q (.exit 0) (rrS0 t (rdL t 0 []).2.1) [] else Q (.exit 0) (rrS1 t (rdL t 0 []).2.1 (rdL t 0 []).2.2) [])
  else Q .ret (retS ((rdL t 0 []).2.1 : Nat)) []
def iRef3 : FuncId → FSpec := inlN Tryz.prog xRef3 l0 4
theorem iRef3_ok : ∀ f, FOK2 Tryz.prog f (iRef3 f) := inlN_ok xRef3_ok mixed 4
theorem rr_step0 (t : List UInt8) (i : Nat)  (hi : i ≤ t.length) (ht : t.length ≤ 4294967280) (hx : ([] : List (List UInt8)).length ≤ 80)  :
    roundP2 Tryz.prog xRef3 (inlN Tryz.prog xRef3 l0 4) 0 lRi0 (loopB Tryz.prog 11 [true, true, true, false, false]) [0, 5, 6] [0, 5, 6] [2, 3, 4] (rrS0 t i )
      (fun o => ∃ j : List UInt8 × Nat × List (List UInt8), o = some (rrS j.1 j.2.1 j.2.2) ∧ (j.2.1 ≤ j.1.length ∧ j.1.length ≤ 4294967280 ∧ j.2.2.length ≤ 80) ∧ 80 - j.2.2.length < 80 - ([] : List (List UInt8)).length ∧ ∀ e s', rrR j e s' → rrR (t, i, ([] : List (List UInt8))) e s')
      (fun e o => ∃ s2, o = some s2 ∧ rrR (t, i, ([] : List (List UInt8))) e s2) := by
  have over : (decide (([] : List (List UInt8)).length < 80) && (decide (i < t.length) && !decide ((t.getD i 0).toNat = 101))) = false → rrR (t, i, ([] : List (List UInt8))) (.exit 0) (rrS0 t i ) := by
    intro h1
    have e : rdL t i ([] : List (List UInt8)) = (true, i, ([] : List (List UInt8))) := by rw [rdL_eq, h1]; rfl
    simp [rrR, e, rrS, List.isEmpty_nil]
  have bad : ∀ a : Nat, (decide (([] : List (List UInt8)).length < 80) && (decide (i < t.length) && !decide ((t.getD i 0).toNat = 101))) = true → (lineL t i).1.2 = false → (lineL t i).2 = a → rrR (t, i, ([] : List (List UInt8))) .ret (retS (a : Nat)) := by
    intro a h1 h2 h3
    have e : rdL t i ([] : List (List UInt8)) = (false, a, []) := by rw [rdL_eq, h1, h2, h3]; rfl
    simp [rrR, e]
  have good : ∀ (s2 : VS) (a : Nat) (x : List UInt8), (decide (([] : List (List UInt8)).length < 80) && (decide (i < t.length) && !decide ((t.getD i 0).toNat = 101))) = true → lineL t i = ((x, true), a) → s2 = rrS1 t a (([] : List (List UInt8)) ++ [x]) →
      ∃ j : List UInt8 × Nat × List (List UInt8), some s2 = some (rrS j.1 j.2.1 j.2.2) ∧ (j.2.1 ≤ j.1.length ∧ j.1.length ≤ 4294967280 ∧ j.2.2.length ≤ 80) ∧ 80 - j.2.2.length < 80 - ([] : List (List UInt8)).length ∧ ∀ e s', rrR j e s' → rrR (t, i, ([] : List (List UInt8))) e s' := by
    intro s2 a x h1 h2 h3
    have h80 : ([] : List (List UInt8)).length < 80 := by simp only [Bool.and_eq_true, decide_eq_true_eq] at h1; exact h1.1
    have hlen : (([] : List (List UInt8)) ++ [x]).length = ([] : List (List UInt8)).length + 1 := by rw [List.length_append, List.length_singleton]
    have hl := lineL_le t i hi
    rw [h2] at hl
    refine ⟨(t, a, ([] : List (List UInt8)) ++ [x]), ?_, ⟨hl, ht, by rw [hlen]; omega⟩, by rw [hlen]; omega, fun e s' h => ?_⟩
    · rw [h3]
      have : (([] : List (List UInt8)) ++ [x]).isEmpty = false := by rfl
      simp only [rrS, this, cond_false]
    · have e1 : rdL t i ([] : List (List UInt8)) = rdL t a (([] : List (List UInt8)) ++ [x]) := by rw [rdL_eq t i ([] : List (List UInt8)), h1, h2]; rfl
      simp only [rrR] at h ⊢
      rw [e1]; exact h
  rw [← rr_round0]
  simp only [Int.toNat_natCast]
  cases hlt : decide ((i : Int) < (t.length : Int)) with
  | false =>
    have e : decide (i < t.length) = false := by simp only [decide_eq_false_iff_not] at hlt ⊢; omega
    exact ⟨_, rfl, over (by rw [e]; simp)⟩
  | true =>
    have e : decide (i < t.length) = true := by simp only [decide_eq_true_eq] at hlt ⊢; omega
    have hlt' : i < t.length := by simpa using e
    refine ⟨⟨by omega, by omega⟩, ?_⟩
    cases h101 : decide (((t.getD i 0).toNat : Int) = 101) with
    | true =>
      have e2 : decide ((t.getD i 0).toNat = 101) = true := by simp only [decide_eq_true_eq] at h101 ⊢; omega
      exact ⟨_, rfl, over (by rw [e, e2]; simp)⟩
    | false =>
      have e2 : decide ((t.getD i 0).toNat = 101) = false := by simp only [decide_eq_false_iff_not] at h101 ⊢; omega
      have e80 : decide (([] : List (List UInt8)).length < 80) = true := rfl
      have hC : (decide (([] : List (List UInt8)).length < 80) && (decide (i < t.length) && !decide ((t.getD i 0).toNat = 101))) = true := by rw [e80, e, e2]; rfl
      refine ⟨⟨by omega, hi, ht⟩, ?_⟩
      have d1 := dgL_le (t.drop i) 0 0
      rw [List.length_drop] at d1
      have d2 := dgL_60 (t.drop i) 0 0 (by omega)
      have hL := lineL_eq t i
      simp only [lenF_eq t i hlt']
      generalize dgL (t.drop i) 0 0 = q at hL d1 d2 ⊢
      obtain ⟨k, l⟩ := q
      simp only at hL d1 d2 ⊢
      generalize hok : (decide (0 < k) && (decide (i + k < t.length) && decide ((t.getD (i + k) 0).toNat = 32))) = ok at hL ⊢
      cases ok with
      | false => exact ⟨_, rfl, bad (i + k) hC (by rw [hL]; rfl) (by rw [hL]; rfl)⟩
      | true =>
        simp only [Bool.and_eq_true, decide_eq_true_eq] at hok
        simp only [cond_true] at hL ⊢
        have e3 : decide (((l : Nat) : Int) < 0) = false := by simp only [decide_eq_false_iff_not]; omega
        rw [e3]
        refine ⟨riT0_ok, t, i + k + 1, l,  rfl, ⟨by omega, ht, d2⟩, ?_⟩
        have w0 : IntKind.i64.wrap (((i + k + 1 : Nat) : Int) + (l : Int)) = ((i + k + 1 + l : Nat) : Int) := by rw [wrap_in _ (by omega) (by omega)]; omega
        have w1 : IntKind.i64.wrap (((i + k + 1 : Nat) : Int) + IntKind.i64.wrap ((l : Int) + 1)) = ((i + k + 1 + l + 1 : Nat) : Int) := by rw [wrap_in ((l : Int) + 1) (by omega) (by omega), wrap_in _ (by omega) (by omega)]; omega
        rw [w0, w1]
        simp only [Int.toNat_natCast]
        rw [lineL2_eq] at hL
        cases hp : (prL (t.drop (i + k + 1)) l).2 with
        | false =>
          rw [hp] at hL
          exact ⟨_, rfl, bad (i + k + 1 + (prL (t.drop (i + k + 1)) l).1) hC (by rw [hL]; rfl) (by rw [hL]; rfl)⟩
        | true =>
          rw [hp] at hL
          simp only [cond_true] at hL ⊢
          cases hle : decide ((t.length : Int) ≤ ((i + k + 1 + l : Nat) : Int)) with
          | true =>
            simp only [decide_eq_true_eq] at hle
            have e4 : decide (i + k + 1 + l < t.length) = false := by simp only [decide_eq_false_iff_not]; omega
            rw [e4] at hL
            exact ⟨_, rfl, bad (i + k + 1 + l) hC (by rw [hL]; rfl) (by rw [hL]; rfl)⟩
          | false =>
            simp only [decide_eq_false_iff_not] at hle
            have e4 : decide (i + k + 1 + l < t.length) = true := by simp only [decide_eq_true_eq]; omega
            rw [e4, Bool.true_and] at hL
            refine ⟨⟨by omega, by omega⟩, ?_⟩
            cases h10 : decide (((t.getD (i + k + 1 + l) 0).toNat : Int) = 10) with
            | false =>
              have e5 : decide ((t.getD (i + k + 1 + l) 0).toNat = 10) = false := by simp only [decide_eq_false_iff_not] at h10 ⊢; omega
              rw [e5] at hL
              exact ⟨_, rfl, bad (i + k + 1 + l) hC (by rw [hL]; rfl) (by rw [hL]; rfl)⟩
            | true =>
              have e5 : decide ((t.getD (i + k + 1 + l) 0).toNat = 10) = true := by simp only [decide_eq_true_eq] at h10 ⊢; omega
              rw [e5] at hL
              refine ⟨⟨by omega, by omega, by omega⟩, ⟨by first | trivial | rfl, by first | trivial | rfl, by simp only [List.length_singleton]; omega, by simp only [List.length_singleton]; omega⟩, good _ (i + k + 1 + l + 1) ((t.take (i + k + 1 + l)).drop (i + k + 1)) hC hL ?_⟩
              rfl
theorem rr_step1 (t : List UInt8) (i : Nat) (xs : List (List UInt8)) (hi : i ≤ t.length) (ht : t.length ≤ 4294967280) (hx : xs.length ≤ 80) (hne : xs.isEmpty = false) :
    roundP2 Tryz.prog xRef3 (inlN Tryz.prog xRef3 l0 4) 0 lRi1 (loopB Tryz.prog 11 [true, true, true, false, false]) [0, 5, 6] [0, 5, 6] [2, 3, 4] (rrS1 t i xs)
      (fun o => ∃ j : List UInt8 × Nat × List (List UInt8), o = some (rrS j.1 j.2.1 j.2.2) ∧ (j.2.1 ≤ j.1.length ∧ j.1.length ≤ 4294967280 ∧ j.2.2.length ≤ 80) ∧ 80 - j.2.2.length < 80 - xs.length ∧ ∀ e s', rrR j e s' → rrR (t, i, xs) e s')
      (fun e o => ∃ s2, o = some s2 ∧ rrR (t, i, xs) e s2) := by
  have over : (decide (xs.length < 80) && (decide (i < t.length) && !decide ((t.getD i 0).toNat = 101))) = false → rrR (t, i, xs) (.exit 0) (rrS1 t i xs) := by
    intro h1
    have e : rdL t i xs = (true, i, xs) := by rw [rdL_eq, h1]; rfl
    simp [rrR, e, rrS, hne]
  have bad : ∀ a : Nat, (decide (xs.length < 80) && (decide (i < t.length) && !decide ((t.getD i 0).toNat = 101))) = true → (lineL t i).1.2 = false → (lineL t i).2 = a → rrR (t, i, xs) .ret (retS (a : Nat)) := by
    intro a h1 h2 h3
    have e : rdL t i xs = (false, a, []) := by rw [rdL_eq, h1, h2, h3]; rfl
    simp [rrR, e]
  have good : ∀ (s2 : VS) (a : Nat) (x : List UInt8), (decide (xs.length < 80) && (decide (i < t.length) && !decide ((t.getD i 0).toNat = 101))) = true → lineL t i = ((x, true), a) → s2 = rrS1 t a (xs ++ [x]) →
      ∃ j : List UInt8 × Nat × List (List UInt8), some s2 = some (rrS j.1 j.2.1 j.2.2) ∧ (j.2.1 ≤ j.1.length ∧ j.1.length ≤ 4294967280 ∧ j.2.2.length ≤ 80) ∧ 80 - j.2.2.length < 80 - xs.length ∧ ∀ e s', rrR j e s' → rrR (t, i, xs) e s' := by
    intro s2 a x h1 h2 h3
    have h80 : xs.length < 80 := by simp only [Bool.and_eq_true, decide_eq_true_eq] at h1; exact h1.1
    have hlen : (xs ++ [x]).length = xs.length + 1 := by rw [List.length_append, List.length_singleton]
    have hl := lineL_le t i hi
    rw [h2] at hl
    refine ⟨(t, a, xs ++ [x]), ?_, ⟨hl, ht, by rw [hlen]; omega⟩, by rw [hlen]; omega, fun e s' h => ?_⟩
    · rw [h3]
      have : (xs ++ [x]).isEmpty = false := by cases xs <;> rfl
      simp only [rrS, this, cond_false]
    · have e1 : rdL t i xs = rdL t a (xs ++ [x]) := by rw [rdL_eq t i xs, h1, h2]; rfl
      simp only [rrR] at h ⊢
      rw [e1]; exact h
  rw [← rr_round1]
  simp only [Int.toNat_natCast]
  cases hlt : decide ((i : Int) < (t.length : Int)) with
  | false =>
    have e : decide (i < t.length) = false := by simp only [decide_eq_false_iff_not] at hlt ⊢; omega
    exact ⟨_, rfl, over (by rw [e]; simp)⟩
  | true =>
    have e : decide (i < t.length) = true := by simp only [decide_eq_true_eq] at hlt ⊢; omega
    have hlt' : i < t.length := by simpa using e
    refine ⟨⟨by omega, by omega⟩, ?_⟩
    cases h101 : decide (((t.getD i 0).toNat : Int) = 101) with
    | true =>
      have e2 : decide ((t.getD i 0).toNat = 101) = true := by simp only [decide_eq_true_eq] at h101 ⊢; omega
      exact ⟨_, rfl, over (by rw [e, e2]; simp)⟩
    | false =>
      have e2 : decide ((t.getD i 0).toNat = 101) = false := by simp only [decide_eq_false_iff_not] at h101 ⊢; omega
      cases h80 : decide ((xs.length : Int) < 80) with
      | false =>
        have e80 : decide (xs.length < 80) = false := by simp only [decide_eq_false_iff_not] at h80 ⊢; omega
        exact ⟨_, rfl, over (by rw [e80]; rfl)⟩
      | true =>
      have e80 : decide (xs.length < 80) = true := by simp only [decide_eq_true_eq] at h80 ⊢; omega
      have hC : (decide (xs.length < 80) && (decide (i < t.length) && !decide ((t.getD i 0).toNat = 101))) = true := by rw [e80, e, e2]; rfl
      refine ⟨⟨by omega, hi, ht⟩, ?_⟩
      have d1 := dgL_le (t.drop i) 0 0
      rw [List.length_drop] at d1
      have d2 := dgL_60 (t.drop i) 0 0 (by omega)
      have hL := lineL_eq t i
      simp only [lenF_eq t i hlt']
      generalize dgL (t.drop i) 0 0 = q at hL d1 d2 ⊢
      obtain ⟨k, l⟩ := q
      simp only at hL d1 d2 ⊢
      generalize hok : (decide (0 < k) && (decide (i + k < t.length) && decide ((t.getD (i + k) 0).toNat = 32))) = ok at hL ⊢
      cases ok with
      | false => exact ⟨_, rfl, bad (i + k) hC (by rw [hL]; rfl) (by rw [hL]; rfl)⟩
      | true =>
        simp only [Bool.and_eq_true, decide_eq_true_eq] at hok
        simp only [cond_true] at hL ⊢
        have e3 : decide (((l : Nat) : Int) < 0) = false := by simp only [decide_eq_false_iff_not]; omega
        rw [e3]
        refine ⟨riT1_ok, t, i + k + 1, l, xs, rfl, ⟨by omega, ht, d2⟩, ?_⟩
        have w0 : IntKind.i64.wrap (((i + k + 1 : Nat) : Int) + (l : Int)) = ((i + k + 1 + l : Nat) : Int) := by rw [wrap_in _ (by omega) (by omega)]; omega
        have w1 : IntKind.i64.wrap (((i + k + 1 : Nat) : Int) + IntKind.i64.wrap ((l : Int) + 1)) = ((i + k + 1 + l + 1 : Nat) : Int) := by rw [wrap_in ((l : Int) + 1) (by omega) (by omega), wrap_in _ (by omega) (by omega)]; omega
        rw [w0, w1]
        simp only [Int.toNat_natCast]
        rw [lineL2_eq] at hL
        cases hp : (prL (t.drop (i + k + 1)) l).2 with
        | false =>
          rw [hp] at hL
          exact ⟨_, rfl, bad (i + k + 1 + (prL (t.drop (i + k + 1)) l).1) hC (by rw [hL]; rfl) (by rw [hL]; rfl)⟩
        | true =>
          rw [hp] at hL
          simp only [cond_true] at hL ⊢
          cases hle : decide ((t.length : Int) ≤ ((i + k + 1 + l : Nat) : Int)) with
          | true =>
            simp only [decide_eq_true_eq] at hle
            have e4 : decide (i + k + 1 + l < t.length) = false := by simp only [decide_eq_false_iff_not]; omega
            rw [e4] at hL
            exact ⟨_, rfl, bad (i + k + 1 + l) hC (by rw [hL]; rfl) (by rw [hL]; rfl)⟩
          | false =>
            simp only [decide_eq_false_iff_not] at hle
            have e4 : decide (i + k + 1 + l < t.length) = true := by simp only [decide_eq_true_eq]; omega
            rw [e4, Bool.true_and] at hL
            refine ⟨⟨by omega, by omega⟩, ?_⟩
            cases h10 : decide (((t.getD (i + k + 1 + l) 0).toNat : Int) = 10) with
            | false =>
              have e5 : decide ((t.getD (i + k + 1 + l) 0).toNat = 10) = false := by simp only [decide_eq_false_iff_not] at h10 ⊢; omega
              rw [e5] at hL
              exact ⟨_, rfl, bad (i + k + 1 + l) hC (by rw [hL]; rfl) (by rw [hL]; rfl)⟩
            | true =>
              have e5 : decide ((t.getD (i + k + 1 + l) 0).toNat = 10) = true := by simp only [decide_eq_true_eq] at h10 ⊢; omega
              rw [e5] at hL
              refine ⟨⟨by omega, by omega, by omega⟩, ⟨by rw [strsD_len]; omega, by omega, by simp only [List.length_singleton]; omega, by simp only [List.length_singleton]; omega⟩, good _ (i + k + 1 + l + 1) ((t.take (i + k + 1 + l)).drop (i + k + 1)) hC hL ?_⟩
              simp only [rrS1, stN, enumB, List.length_append, strsD_app, strsD_cons, strsD_nil, List.length_singleton, List.take_of_length_le (Nat.le_of_eq (strsD_len xs)), List.length_cons, List.length_nil]
set_option maxRecDepth 100000 in
theorem rrT_ok : LoopOK Tryz.prog 0 none (loopB Tryz.prog 11 [true, true, true, false, false]) rrT := by
  have hw : ∀ L : Nat → Option LoopT, True := fun _ => trivial
  refine LoopOK.mk [0, 5, 6] (fun p : List UInt8 × Nat × List (List UInt8) => rrS p.1 p.2.1 p.2.2) (fun p => p.2.1 ≤ p.1.length ∧ p.1.length ≤ 4294967280 ∧ p.2.2.length ≤ 80) (fun p => 80 - p.2.2.length) rrR ?_ ?_
  · intro p hp
    obtain ⟨t, i, xs⟩ := p
    obtain ⟨hi, ht, hx⟩ := hp
    have key : ∀ s0, rrS t i xs = s0 → roundP2 Tryz.prog xRef3 (inlN Tryz.prog xRef3 l0 4) 0 (bif xs.isEmpty then lRi0 else lRi1) (loopB Tryz.prog 11 [true, true, true, false, false]) [0, 5, 6] [0, 5, 6] [2, 3, 4] s0
        (fun o => ∃ j : List UInt8 × Nat × List (List UInt8), o = some ((fun p : List UInt8 × Nat × List (List UInt8) => rrS p.1 p.2.1 p.2.2) j) ∧ (fun j : List UInt8 × Nat × List (List UInt8) => (j.2.1 ≤ j.1.length ∧ j.1.length ≤ 4294967280 ∧ j.2.2.length ≤ 80) ∧ 80 - j.2.2.length < 80 - xs.length ∧ ∀ e s', rrR j e s' → rrR (t, i, xs) e s') j)
        (fun e o => ∃ s2, o = some s2 ∧ rrR (t, i, xs) e s2) := by
      intro s0 hs
      subst hs
      cases xs with
      | nil => exact rr_step0 t i hi ht hx
      | cons x r => exact rr_step1 t i (x :: r) hi ht hx rfl
    exact round2_of (inl := inlN Tryz.prog xRef3 l0 4) xRef3_ok (inlN_ok xRef3_ok mixed 4) mixed (key _ rfl)
  · intro s W Q hT
    obtain ⟨t, h1, h2, h3⟩ := hT
    refine ⟨(t, 0, []), h1, ⟨Nat.zero_le _, h2, Nat.zero_le _⟩, fun e s' h => ⟨[], ?_⟩⟩
    simp only [rrR] at h
    cases hb : (rdL t 0 []).1 with
    | true =>
      rw [hb] at h h3
      obtain ⟨rfl, h⟩ := h
      cases he : (rdL t 0 []).2.2.isEmpty with
      | true => rw [he] at h3; simp only [rrS, he, cond_true] at h; subst h; exact h3
      | false => rw [he] at h3; simp only [rrS, he, cond_false] at h; subst h; exact h3
    | false => rw [hb] at h h3; obtain ⟨rfl, rfl⟩ := h; exact h3

def reS0 (t : List UInt8) (i : Nat) (z : List UInt8) (k : Nat)  : VS := stN 134 [(0, .d (.str t)), (5, .d (.int .i64 i)), (6, .d (.slice true [])), (10, .d (.str z)), (11, .d (.int .i64 k))] []
def reE0 (t : List UInt8) (i : Nat) (z : List UInt8)  : VS := stN 134 [(0, .d (.str t)), (5, .d (.int .i64 i)), (6, .d (.slice true [])), (10, .d (.str z))] []
theorem re_round0 (t : List UInt8) (i : Nat) (z : List UInt8) (k : Nat) (Kn : Option Go.Bv.VS → Prop) (Ke : Go.Exit → Option Go.Bv.VS → Prop) : (bif Decidable.decide ((↑k : Int) < (↑(List.length z) : Int)) then bif Decidable.decide ((↑(List.length t) : Int) ≤ Go.IntKind.wrap Go.IntKind.i64 ((↑i : Int) + (↑k : Int))) then Ke Go.Exit.ret (Option.some (Go.Bv.VS.mk [((2 : Nat), Go.Bv.V.d (Go.Bv.D.slice Bool.true [])), ((3 : Nat), Go.Bv.V.d (Go.Bv.D.int Go.IntKind.i64 (Go.IntKind.wrap Go.IntKind.i64 ((↑i : Int) + (↑k : Int))))), ((4 : Nat), Go.Bv.V.d (Go.Bv.D.int Go.IntKind.i64 (122 : Int)))] [] (0 : Nat) [] (134 : Nat))) else ((0 : Int) ≤ Go.IntKind.wrap Go.IntKind.i64 ((↑i : Int) + (↑k : Int)) ∧ Go.IntKind.wrap Go.IntKind.i64 ((↑i : Int) + (↑k : Int)) < (↑(List.length t) : Int)) ∧ ((0 : Int) ≤ (↑k : Int) ∧ (↑k : Int) < (↑(List.length z) : Int)) ∧ bif !Decidable.decide ((↑(UInt8.toNat (List.getD t (Int.toNat (Go.IntKind.wrap Go.IntKind.i64 ((↑i : Int) + (↑k : Int)))) (0 : UInt8))) : Int) = (↑(UInt8.toNat (List.getD z (Int.toNat (↑k : Int)) (0 : UInt8))) : Int)) then Ke Go.Exit.ret (Option.some (Go.Bv.VS.mk [((2 : Nat), Go.Bv.V.d (Go.Bv.D.slice Bool.true [])), ((3 : Nat), Go.Bv.V.d (Go.Bv.D.int Go.IntKind.i64 (Go.IntKind.wrap Go.IntKind.i64 ((↑i : Int) + (↑k : Int))))), ((4 : Nat), Go.Bv.V.d (Go.Bv.D.int Go.IntKind.i64 (122 : Int)))] [] (0 : Nat) [] (134 : Nat))) else Kn (Option.some (Go.Bv.VS.mk [((0 : Nat), Go.Bv.V.d (Go.Bv.D.str t)), ((5 : Nat), Go.Bv.V.d (Go.Bv.D.int Go.IntKind.i64 (↑i : Int))), ((6 : Nat), Go.Bv.V.d (Go.Bv.D.slice Bool.true [])), ((10 : Nat), Go.Bv.V.d (Go.Bv.D.str z)), ((11 : Nat), Go.Bv.V.d (Go.Bv.D.int Go.IntKind.i64 (Go.IntKind.wrap Go.IntKind.i64 ((↑k : Int) + (1 : Int)))))] [] (0 : Nat) [] (134 : Nat))) else Ke (Go.Exit.exit (4 : Nat)) (Option.some (Go.Bv.VS.mk [((0 : Nat), Go.Bv.V.d (Go.Bv.D.str t)), ((5 : Nat), Go.Bv.V.d (Go.Bv.D.int Go.IntKind.i64 (↑i : Int))), ((6 : Nat), Go.Bv.V.d (Go.Bv.D.slice Bool.true [])), ((10 : Nat), Go.Bv.V.d (Go.Bv.D.str z))] [] (0 : Nat) [] (134 : Nat)))) = (roundP2 Tryz.prog xLib iLib 0 (fun _ => none) (loopB Tryz.prog 11 [true, true, true, true, true, false, true, false]) [0, 5, 6, 10, 11] [0, 5, 6, 10] [2, 3, 4] (reS0 t i z k) Kn Ke) := by kernel_rfl
def reR0 (p : List UInt8 × Nat × List UInt8 × Nat × Unit) (e : Exit) (s' : VS) : Prop :=
  bif (mat (p.1.drop (p.2.1 + p.2.2.2.1)) (p.2.2.1.drop p.2.2.2.1)).2 then e = .exit 4 ∧ s' = reE0 p.1 p.2.1 p.2.2.1  else e = .ret ∧ s' = retS ((p.2.1 + p.2.2.2.1 + (mat (p.1.drop (p.2.1 + p.2.2.2.1)) (p.2.2.1.drop p.2.2.2.1)).1 : Nat) : Int)
def reT0 : LoopT := fun s W Q => ∃ (t : List UInt8) (i : Nat) (z : List UInt8) , canonN 0 [0, 5, 6, 10, 11] s = some (reS0 t i z 0 ) ∧ (i ≤ t.length ∧ t.length ≤ 4294967280 ∧ z.length ≤ 60) ∧
  bif (mat (t.drop i) z).2 then Q (.exit 4) (reE0 t i z ) [] else Q .ret (retS ((i + (mat (t.drop i) z).1 : Nat) : Int)) []
theorem reT0_ok : LoopOK Tryz.prog 0 none (loopB Tryz.prog 11 [true, true, true, true, true, false, true, false]) reT0 := by
  refine LoopOK.walk2 xLib_ok iLib_ok mixed [0, 5, 6, 10, 11] [0, 5, 6, 10] [2, 3, 4] (L := fun _ => none) (fun p : List UInt8 × Nat × List UInt8 × Nat × Unit => reS0 p.1 p.2.1 p.2.2.1 p.2.2.2.1 ) (fun p => p.2.1 + p.2.2.2.1 ≤ p.1.length ∧ p.1.length ≤ 4294967280 ∧ p.2.2.2.1 ≤ p.2.2.1.length ∧ p.2.2.1.length ≤ 60) (fun p => p.2.2.1.length - p.2.2.2.1) reR0 ?_ ?_
  · intro p hp
    obtain ⟨t, i, z, k, ⟨⟩⟩ := p
    have hi : i + k ≤ t.length := hp.1
    have ht : t.length ≤ 4294967280 := hp.2.1
    have hk : k ≤ z.length := hp.2.2.1
    have hn : z.length ≤ 60 := hp.2.2.2
    clear hp
    show roundP2 Tryz.prog xLib iLib 0 (fun _ => none) (loopB Tryz.prog 11 [true, true, true, true, true, false, true, false]) [0, 5, 6, 10, 11] [0, 5, 6, 10] [2, 3, 4] (reS0 t i z k ) _ _
    rw [← re_round0]
    have w0 : IntKind.i64.wrap ((i : Int) + (k : Int)) = ((i + k : Nat) : Int) := by rw [wrap_in _ (by omega) (by omega)]; omega
    rw [w0]
    simp only [Int.toNat_natCast]
    by_cases hlt : k < z.length
    · have e0 : decide ((k : Int) < (z.length : Int)) = true := by simp only [decide_eq_true_eq]; omega
      have hd : z.drop k = z.getD k 0 :: z.drop (k + 1) := drop_cons hlt 0
      rw [e0]
      have hbad : (mat (t.drop (i + k)) (z.drop k) = (0, false)) → reR0 (t, i, z, k, ()) .ret (retS ((i + k : Nat) : Int)) := by
        intro h
        simp [reR0, h]
      by_cases hat : t.length ≤ i + k
      · have e1 : decide ((t.length : Int) ≤ ((i + k : Nat) : Int)) = true := by simp only [decide_eq_true_eq]; omega
        rw [e1]
        exact ⟨_, rfl, hbad (by rw [List.drop_eq_nil_of_le hat, hd]; rfl)⟩
      · have e1 : decide ((t.length : Int) ≤ ((i + k : Nat) : Int)) = false := by simp only [decide_eq_false_iff_not]; omega
        have hd2 : t.drop (i + k) = t.getD (i + k) 0 :: t.drop (i + k + 1) := drop_cons (by omega) 0
        rw [e1]
        refine ⟨⟨by omega, by omega⟩, ⟨by omega, by omega⟩, ?_⟩
        cases he : decide (((t.getD (i + k) 0).toNat : Int) = ((z.getD k 0).toNat : Int)) with
        | false =>
          have he' : decide ((t.getD (i + k) 0).toNat = (z.getD k 0).toNat) = false := by simp only [decide_eq_false_iff_not] at he ⊢; omega
          exact ⟨_, rfl, hbad (by rw [hd, hd2]; simp only [mat, he', cond_false])⟩
        | true =>
          have he' : decide ((t.getD (i + k) 0).toNat = (z.getD k 0).toNat) = true := by simp only [decide_eq_true_eq] at he ⊢; omega
          rw [wrap_in ((k : Int) + 1) (by omega) (by omega)]
          refine ⟨(t, i, z, k + 1, ()), ?_, ⟨by simp only; omega, ht, by simp only; omega, hn⟩, by simp only; omega, fun e s' h => ?_⟩
          · simp only [reS0, Int.natCast_add, Int.cast_ofNat_Int]; rfl
          · simp only [reR0] at h ⊢
            rw [show i + (k + 1) = i + k + 1 by omega] at h
            simp only [hd, hd2, mat, he', cond_true]
            rw [show i + k + ((mat (t.drop (i + k + 1)) (z.drop (k + 1))).1 + 1) = i + k + 1 + (mat (t.drop (i + k + 1)) (z.drop (k + 1))).1 by omega]
            exact h
    · have e0 : decide ((k : Int) < (z.length : Int)) = false := by simp only [decide_eq_false_iff_not]; omega
      rw [e0]
      have : z.drop k = [] := List.drop_eq_nil_of_le (by omega)
      refine ⟨_, rfl, ?_⟩
      simp only [reR0, this, mat, cond_true]; exact ⟨trivial, rfl⟩
  · intro s W Q hT
    obtain ⟨t, i, z, h1, h2, h3⟩ := hT
    refine ⟨(t, i, z, 0, ()), h1, ⟨h2.1, h2.2.1, Nat.zero_le _, h2.2.2⟩, fun e s' h => ⟨[], ?_⟩⟩
    simp only [reR0, Nat.add_zero, List.drop_zero] at h
    cases hb : (mat (t.drop i) z).2 with
    | true => rw [hb] at h h3; obtain ⟨rfl, rfl⟩ := h; exact h3
    | false => rw [hb] at h h3; obtain ⟨rfl, rfl⟩ := h; exact h3
def reS1 (t : List UInt8) (i : Nat) (z : List UInt8) (k : Nat) (xs : List (List UInt8)) : VS := stN 134 [(0, .d (.str t)), (5, .d (.int .i64 i)), (6, .sref 0 xs.length), (10, .d (.str z)), (11, .d (.int .i64 k))] [.row 1 0 false (strsD xs)]
def reE1 (t : List UInt8) (i : Nat) (z : List UInt8) (xs : List (List UInt8)) : VS := stN 134 [(0, .d (.str t)), (5, .d (.int .i64 i)), (6, .sref 0 xs.length), (10, .d (.str z))] [.row 1 0 false (strsD xs)]
theorem re_round1 (t : List UInt8) (i : Nat) (z : List UInt8) (k : Nat) (xs : List (List UInt8)) (Kn : Option Go.Bv.VS → Prop) (Ke : Go.Exit → Option Go.Bv.VS → Prop) : (bif Decidable.decide ((↑k : Int) < (↑(List.length z) : Int)) then bif Decidable.decide ((↑(List.length t) : Int) ≤ Go.IntKind.wrap Go.IntKind.i64 ((↑i : Int) + (↑k : Int))) then Ke Go.Exit.ret (Option.some (Go.Bv.VS.mk [((2 : Nat), Go.Bv.V.d (Go.Bv.D.slice Bool.true [])), ((3 : Nat), Go.Bv.V.d (Go.Bv.D.int Go.IntKind.i64 (Go.IntKind.wrap Go.IntKind.i64 ((↑i : Int) + (↑k : Int))))), ((4 : Nat), Go.Bv.V.d (Go.Bv.D.int Go.IntKind.i64 (122 : Int)))] [] (0 : Nat) [] (134 : Nat))) else ((0 : Int) ≤ Go.IntKind.wrap Go.IntKind.i64 ((↑i : Int) + (↑k : Int)) ∧ Go.IntKind.wrap Go.IntKind.i64 ((↑i : Int) + (↑k : Int)) < (↑(List.length t) : Int)) ∧ ((0 : Int) ≤ (↑k : Int) ∧ (↑k : Int) < (↑(List.length z) : Int)) ∧ bif !Decidable.decide ((↑(UInt8.toNat (List.getD t (Int.toNat (Go.IntKind.wrap Go.IntKind.i64 ((↑i : Int) + (↑k : Int)))) (0 : UInt8))) : Int) = (↑(UInt8.toNat (List.getD z (Int.toNat (↑k : Int)) (0 : UInt8))) : Int)) then Ke Go.Exit.ret (Option.some (Go.Bv.VS.mk [((2 : Nat), Go.Bv.V.d (Go.Bv.D.slice Bool.true [])), ((3 : Nat), Go.Bv.V.d (Go.Bv.D.int Go.IntKind.i64 (Go.IntKind.wrap Go.IntKind.i64 ((↑i : Int) + (↑k : Int))))), ((4 : Nat), Go.Bv.V.d (Go.Bv.D.int Go.IntKind.i64 (122 : Int)))] [] (0 : Nat) [] (134 : Nat))) else Kn (Option.some (Go.Bv.VS.mk [((0 : Nat), Go.Bv.V.d (Go.Bv.D.str t)), ((5 : Nat), Go.Bv.V.d (Go.Bv.D.int Go.IntKind.i64 (↑i : Int))), ((6 : Nat), Go.Bv.V.sref (0 : Nat) (List.length xs)), ((10 : Nat), Go.Bv.V.d (Go.Bv.D.str z)), ((11 : Nat), Go.Bv.V.d (Go.Bv.D.int Go.IntKind.i64 (Go.IntKind.wrap Go.IntKind.i64 ((↑k : Int) + (1 : Int)))))] [((0 : Nat), Go.Bv.Blk.row (1 : Nat) (0 : Nat) Bool.false (Go.Bv.strsD xs))] (1 : Nat) [] (134 : Nat))) else Ke (Go.Exit.exit (4 : Nat)) (Option.some (Go.Bv.VS.mk [((0 : Nat), Go.Bv.V.d (Go.Bv.D.str t)), ((5 : Nat), Go.Bv.V.d (Go.Bv.D.int Go.IntKind.i64 (↑i : Int))), ((6 : Nat), Go.Bv.V.sref (0 : Nat) (List.length xs)), ((10 : Nat), Go.Bv.V.d (Go.Bv.D.str z))] [((0 : Nat), Go.Bv.Blk.row (1 : Nat) (0 : Nat) Bool.false (Go.Bv.strsD xs))] (1 : Nat) [] (134 : Nat)))) = (roundP2 Tryz.prog xLib iLib 0 (fun _ => none) (loopB Tryz.prog 11 [true, true, true, true, true, false, true, false]) [0, 5, 6, 10, 11] [0, 5, 6, 10] [2, 3, 4] (reS1 t i z k xs) Kn Ke) := by kernel_rfl
def reR1 (p : List UInt8 × Nat × List UInt8 × Nat × List (List UInt8)) (e : Exit) (s' : VS) : Prop :=
  bif (mat (p.1.drop (p.2.1 + p.2.2.2.1)) (p.2.2.1.drop p.2.2.2.1)).2 then e = .exit 4 ∧ s' = reE1 p.1 p.2.1 p.2.2.1 p.2.2.2.2 else e = .ret ∧ s' = retS ((p.2.1 + p.2.2.2.1 + (mat (p.1.drop (p.2.1 + p.2.2.2.1)) (p.2.2.1.drop p.2.2.2.1)).1 : Nat) : Int)
def reT1 : LoopT := fun s W Q => ∃ (t : List UInt8) (i : Nat) (z : List UInt8) (xs : List (List UInt8)), canonN 0 [0, 5, 6, 10, 11] s = some (reS1 t i z 0 xs) ∧ (i ≤ t.length ∧ t.length ≤ 4294967280 ∧ z.length ≤ 60) ∧
  bif (mat (t.drop i) z).2 then Q (.exit 4) (reE1 t i z xs) [] else Q .ret (retS ((i + (mat (t.drop i) z).1 : Nat) : Int)) []
theorem reT1_ok : LoopOK Tryz.prog 0 none (loopB Tryz.prog 11 [true, true, true, true, true, false, true, false]) reT1 := by
  refine LoopOK.walk2 xLib_ok iLib_ok mixed [0, 5, 6, 10, 11] [0, 5, 6, 10] [2, 3, 4] (L := fun _ => none) (fun p : List UInt8 × Nat × List UInt8 × Nat × List (List UInt8) => reS1 p.1 p.2.1 p.2.2.1 p.2.2.2.1 p.2.2.2.2) (fun p => p.2.1 + p.2.2.2.1 ≤ p.1.length ∧ p.1.length ≤ 4294967280 ∧ p.2.2.2.1 ≤ p.2.2.1.length ∧ p.2.2.1.length ≤ 60) (fun p => p.2.2.1.length - p.2.2.2.1) reR1 ?_ ?_
  · intro p hp
    obtain ⟨t, i, z, k, xs⟩ := p
    have hi : i + k ≤ t.length := hp.1
    have ht : t.length ≤ 4294967280 := hp.2.1
    have hk : k ≤ z.length := hp.2.2.1
    have hn : z.length ≤ 60 := hp.2.2.2
    clear hp
    show roundP2 Tryz.prog xLib iLib 0 (fun _ => none) (loopB Tryz.prog 11 [true, true, true, true, true, false, true, false]) [0, 5, 6, 10, 11] [0, 5, 6, 10] [2, 3, 4] (reS1 t i z k xs) _ _
    rw [← re_round1]
    have w0 : IntKind.i64.wrap ((i : Int) + (k : Int)) = ((i + k : Nat) : Int) := by rw [wrap_in _ (by omega) (by omega)]; omega
    rw [w0]
    simp only [Int.toNat_natCast]
    by_cases hlt : k < z.length
    · have e0 : decide ((k : Int) < (z.length : Int)) = true := by simp only [decide_eq_true_eq]; omega
      have hd : z.drop k = z.getD k 0 :: z.drop (k + 1) := drop_cons hlt 0
      rw [e0]
      have hbad : (mat (t.drop (i + k)) (z.drop k) = (0, false)) → reR1 (t, i, z, k, xs) .ret (retS ((i + k : Nat) : Int)) := by
        intro h
        simp [reR1, h]
      by_cases hat : t.length ≤ i + k
      · have e1 : decide ((t.length : Int) ≤ ((i + k : Nat) : Int)) = true := by simp only [decide_eq_true_eq]; omega
        rw [e1]
        exact ⟨_, rfl, hbad (by rw [List.drop_eq_nil_of_le hat, hd]; rfl)⟩
      · have e1 : decide ((t.length : Int) ≤ ((i + k : Nat) : Int)) = false := by simp only [decide_eq_false_iff_not]; omega
        have hd2 : t.drop (i + k) = t.getD (i + k) 0 :: t.drop (i + k + 1) := drop_cons (by omega) 0
        rw [e1]
        refine ⟨⟨by omega, by omega⟩, ⟨by omega, by omega⟩, ?_⟩
        cases he : decide (((t.getD (i + k) 0).toNat : Int) = ((z.getD k 0).toNat : Int)) with
        | false =>
          have he' : decide ((t.getD (i + k) 0).toNat = (z.getD k 0).toNat) = false := by simp only [decide_eq_false_iff_not] at he ⊢; omega
          exact ⟨_, rfl, hbad (by rw [hd, hd2]; simp only [mat, he', cond_false])⟩
        | true =>
          have he' : decide ((t.getD (i + k) 0).toNat = (z.getD k 0).toNat) = true := by simp only [decide_eq_true_eq] at he ⊢; omega
          rw [wrap_in ((k : Int) + 1) (by omega) (by omega)]
          refine ⟨(t, i, z, k + 1, xs), ?_, ⟨by simp only; omega, ht, by simp only; omega, hn⟩, by simp only; omega, fun e s' h => ?_⟩
          · simp only [reS1, Int.natCast_add, Int.cast_ofNat_Int]; rfl
          · simp only [reR1] at h ⊢
            rw [show i + (k + 1) = i + k + 1 by omega] at h
            simp only [hd, hd2, mat, he', cond_true]
            rw [show i + k + ((mat (t.drop (i + k + 1)) (z.drop (k + 1))).1 + 1) = i + k + 1 + (mat (t.drop (i + k + 1)) (z.drop (k + 1))).1 by omega]
            exact h
    · have e0 : decide ((k : Int) < (z.length : Int)) = false := by simp only [decide_eq_false_iff_not]; omega
      rw [e0]
      have : z.drop k = [] := List.drop_eq_nil_of_le (by omega)
      refine ⟨_, rfl, ?_⟩
      simp only [reR1, this, mat, cond_true]; exact ⟨trivial, rfl⟩
  · intro s W Q hT
    obtain ⟨t, i, z, xs, h1, h2, h3⟩ := hT
    refine ⟨(t, i, z, 0, xs), h1, ⟨h2.1, h2.2.1, Nat.zero_le _, h2.2.2⟩, fun e s' h => ⟨[], ?_⟩⟩
    simp only [reR1, Nat.add_zero, List.drop_zero] at h
    cases hb : (mat (t.drop i) z).2 with
    | true => rw [hb] at h h3; obtain ⟨rfl, rfl⟩ := h; exact h3
    | false => rw [hb] at h h3; obtain ⟨rfl, rfl⟩ := h; exact h3
def reT : LoopT := fun s W Q => match lk s.tm 6 with | .sref _ _ => reT1 s W Q | _ => reT0 s W Q
theorem reT_ok : LoopOK Tryz.prog 0 none (loopB Tryz.prog 11 [true, true, true, true, true, false, true, false]) reT := by
  intro s W Q h
  unfold reT at h
  split at h
  · exact reT1_ok s W Q h
  · exact reT0_ok s W Q h
def lRr : FuncId → Nat → Option LoopT := fun f p => bif Nat.beq f 11 then (bif Nat.beq p 60 then some rrT else bif Nat.beq p 506 then some reT else none) else none
end Go.Proofs

namespace Go.Bv
theorem mat_all : ∀ (t s : List UInt8), (mat t s).2 = true → (mat t s).1 = s.length
  | _, [], _ => by simp [mat]
  | [], _ :: _, h => by simp [mat] at h
  | x :: t, y :: s, h => by
    simp only [mat] at h ⊢
    cases hx : decide (x.toNat = y.toNat) with
    | true => rw [hx] at h; simp only [cond_true] at h ⊢; rw [mat_all t s h, List.length_cons]
    | false => rw [hx] at h; simp at h
end Go.Bv
namespace Go.Proofs
open Go Go.Bv
theorem rread_body (t : List UInt8) (K : Go.Bv.KC) : (Go.Bv.LoopOK Go.Proofs.Tryz.prog (0 : Nat) Option.none (Go.Bv.loopB Go.Proofs.Tryz.prog (11 : Nat) [Bool.true, Bool.true, Bool.true, Bool.false, Bool.false]) Go.Proofs.rrT ∧ ∃ (t_1 : List UInt8), Option.some (Go.Bv.VS.mk [((0 : Nat), Go.Bv.V.d (Go.Bv.D.str t)), ((5 : Nat), Go.Bv.V.d (Go.Bv.D.int Go.IntKind.i64 (0 : Int))), ((6 : Nat), Go.Bv.V.d (Go.Bv.D.slice Bool.true []))] [] (0 : Nat) [] (134 : Nat)) = Option.some (Go.Bv.VS.mk [((0 : Nat), Go.Bv.V.d (Go.Bv.D.str t_1)), ((5 : Nat), Go.Bv.V.d (Go.Bv.D.int Go.IntKind.i64 (0 : Int))), ((6 : Nat), Go.Bv.V.d (Go.Bv.D.slice Bool.true []))] [] (0 : Nat) [] (134 : Nat)) ∧ List.length t_1 ≤ (4294967280 : Nat) ∧ bif Prod.fst (Go.Bv.rdL t_1 (0 : Nat) []) then bif List.isEmpty (Prod.snd (Prod.snd (Go.Bv.rdL t_1 (0 : Nat) []))) then ((0 : Int) ≤ (0 : Int) ∧ (0 : Int) ≤ (↑(Prod.fst (Prod.snd (Go.Bv.rdL t_1 (0 : Nat) []))) : Int) ∧ (↑(Prod.fst (Prod.snd (Go.Bv.rdL t_1 (0 : Nat) []))) : Int) ≤ (↑(List.length t_1) : Int)) ∧ ((0 : Int) ≤ (0 : Int) ∧ (0 : Int) < (9223372036854775807 : Int) ∧ List.length (List.drop (0 : Nat) (List.take (Int.toNat (↑(Prod.fst (Prod.snd (Go.Bv.rdL t_1 (0 : Nat) []))) : Int)) t_1)) ≤ (4294967280 : Nat)) ∧ Go.Bv.LoopOK Go.Proofs.Tryz.prog (0 : Nat) Option.none (Go.Bv.loopB Go.Proofs.Tryz.prog (11 : Nat) [Bool.true, Bool.true, Bool.true, Bool.true, Bool.true, Bool.false, Bool.true, Bool.false]) Go.Proofs.reT ∧ ∃ (t : List UInt8), ∃ (i : Nat), ∃ (z : List UInt8), Option.some (Go.Bv.VS.mk [((0 : Nat), Go.Bv.V.d (Go.Bv.D.str t_1)), ((5 : Nat), Go.Bv.V.d (Go.Bv.D.int Go.IntKind.i64 (↑(Prod.fst (Prod.snd (Go.Bv.rdL t_1 (0 : Nat) []))) : Int))), ((6 : Nat), Go.Bv.V.d (Go.Bv.D.slice Bool.true [])), ((10 : Nat), Go.Bv.V.d (Go.Bv.D.str (Go.Proofs.lastZ (0 : Int) (List.drop (0 : Nat) (List.take (Int.toNat (↑(Prod.fst (Prod.snd (Go.Bv.rdL t_1 (0 : Nat) []))) : Int)) t_1))))), ((11 : Nat), Go.Bv.V.d (Go.Bv.D.int Go.IntKind.i64 (0 : Int)))] [] (0 : Nat) [] (134 : Nat)) = Option.some (Go.Bv.VS.mk [((0 : Nat), Go.Bv.V.d (Go.Bv.D.str t)), ((5 : Nat), Go.Bv.V.d (Go.Bv.D.int Go.IntKind.i64 (↑i : Int))), ((6 : Nat), Go.Bv.V.d (Go.Bv.D.slice Bool.true [])), ((10 : Nat), Go.Bv.V.d (Go.Bv.D.str z)), ((11 : Nat), Go.Bv.V.d (Go.Bv.D.int Go.IntKind.i64 (0 : Int)))] [] (0 : Nat) [] (134 : Nat)) ∧ (i ≤ List.length t ∧ List.length t ≤ (4294967280 : Nat) ∧ List.length z ≤ (60 : Nat)) ∧ bif Prod.snd (Go.Bv.mat (List.drop i t) z) then bif Decidable.decide (Go.IntKind.wrap Go.IntKind.i64 ((↑i : Int) + (↑(List.length z) : Int)) < (↑(List.length t) : Int)) then K (Go.Bv.V.tup [Go.Bv.V.d (Go.Bv.D.slice Bool.true []), Go.Bv.V.d (Go.Bv.D.int Go.IntKind.i64 (Go.IntKind.wrap Go.IntKind.i64 ((↑i : Int) + (↑(List.length z) : Int)))), Go.Bv.V.d (Go.Bv.D.int Go.IntKind.i64 (122 : Int))]) [] [] else K (Go.Bv.V.tup [Go.Bv.V.d (Go.Bv.D.slice Bool.true []), Go.Bv.V.d (Go.Bv.D.int Go.IntKind.i64 (0 : Int)), Go.Bv.V.d (Go.Bv.D.int Go.IntKind.i64 (0 : Int))]) [] [] else K (Go.Bv.V.tup [Go.Bv.V.d (Go.Bv.D.slice Bool.true []), Go.Bv.V.d (Go.Bv.D.int Go.IntKind.i64 (↑(i + Prod.fst (Go.Bv.mat (List.drop i t) z)) : Int)), Go.Bv.V.d (Go.Bv.D.int Go.IntKind.i64 (122 : Int))]) [] [] else ((0 : Int) ≤ (0 : Int) ∧ (0 : Int) ≤ (↑(Prod.fst (Prod.snd (Go.Bv.rdL t_1 (0 : Nat) []))) : Int) ∧ (↑(Prod.fst (Prod.snd (Go.Bv.rdL t_1 (0 : Nat) []))) : Int) ≤ (↑(List.length t_1) : Int)) ∧ ((0 : Int) ≤ (↑(List.length (Prod.snd (Prod.snd (Go.Bv.rdL t_1 (0 : Nat) [])))) : Int) ∧ (↑(List.length (Prod.snd (Prod.snd (Go.Bv.rdL t_1 (0 : Nat) [])))) : Int) < (9223372036854775807 : Int) ∧ List.length (List.drop (0 : Nat) (List.take (Int.toNat (↑(Prod.fst (Prod.snd (Go.Bv.rdL t_1 (0 : Nat) []))) : Int)) t_1)) ≤ (4294967280 : Nat)) ∧ Go.Bv.LoopOK Go.Proofs.Tryz.prog (0 : Nat) Option.none (Go.Bv.loopB Go.Proofs.Tryz.prog (11 : Nat) [Bool.true, Bool.true, Bool.true, Bool.true, Bool.true, Bool.false, Bool.true, Bool.false]) Go.Proofs.reT ∧ ∃ (t : List UInt8), ∃ (i : Nat), ∃ (z : List UInt8), ∃ (xs : List (List UInt8)), Option.some (Go.Bv.VS.mk [((0 : Nat), Go.Bv.V.d (Go.Bv.D.str t_1)), ((5 : Nat), Go.Bv.V.d (Go.Bv.D.int Go.IntKind.i64 (↑(Prod.fst (Prod.snd (Go.Bv.rdL t_1 (0 : Nat) []))) : Int))), ((6 : Nat), Go.Bv.V.sref (0 : Nat) (List.length (Prod.snd (Prod.snd (Go.Bv.rdL t_1 (0 : Nat) []))))), ((10 : Nat), Go.Bv.V.d (Go.Bv.D.str (Go.Proofs.lastZ (↑(List.length (Prod.snd (Prod.snd (Go.Bv.rdL t_1 (0 : Nat) [])))) : Int) (List.drop (0 : Nat) (List.take (Int.toNat (↑(Prod.fst (Prod.snd (Go.Bv.rdL t_1 (0 : Nat) []))) : Int)) t_1))))), ((11 : Nat), Go.Bv.V.d (Go.Bv.D.int Go.IntKind.i64 (0 : Int)))] [((0 : Nat), Go.Bv.Blk.row (1 : Nat) (0 : Nat) Bool.false (Go.Bv.strsD (Prod.snd (Prod.snd (Go.Bv.rdL t_1 (0 : Nat) [])))))] (1 : Nat) [] (134 : Nat)) = Option.some (Go.Bv.VS.mk [((0 : Nat), Go.Bv.V.d (Go.Bv.D.str t)), ((5 : Nat), Go.Bv.V.d (Go.Bv.D.int Go.IntKind.i64 (↑i : Int))), ((6 : Nat), Go.Bv.V.sref (0 : Nat) (List.length xs)), ((10 : Nat), Go.Bv.V.d (Go.Bv.D.str z)), ((11 : Nat), Go.Bv.V.d (Go.Bv.D.int Go.IntKind.i64 (0 : Int)))] [((0 : Nat), Go.Bv.Blk.row (1 : Nat) (0 : Nat) Bool.false (Go.Bv.strsD xs))] (1 : Nat) [] (134 : Nat)) ∧ (i ≤ List.length t ∧ List.length t ≤ (4294967280 : Nat) ∧ List.length z ≤ (60 : Nat)) ∧ bif Prod.snd (Go.Bv.mat (List.drop i t) z) then bif Decidable.decide (Go.IntKind.wrap Go.IntKind.i64 ((↑i : Int) + (↑(List.length z) : Int)) < (↑(List.length t) : Int)) then K (Go.Bv.V.tup [Go.Bv.V.d (Go.Bv.D.slice Bool.true []), Go.Bv.V.d (Go.Bv.D.int Go.IntKind.i64 (Go.IntKind.wrap Go.IntKind.i64 ((↑i : Int) + (↑(List.length z) : Int)))), Go.Bv.V.d (Go.Bv.D.int Go.IntKind.i64 (122 : Int))]) [] [] else K (Go.Bv.V.tup [Go.Bv.V.sref (0 : Nat) (List.length xs), Go.Bv.V.d (Go.Bv.D.int Go.IntKind.i64 (0 : Int)), Go.Bv.V.d (Go.Bv.D.int Go.IntKind.i64 (0 : Int))]) [Go.Bv.Blk.row (1 : Nat) (0 : Nat) Bool.false (Go.Bv.strsD xs)] [] else K (Go.Bv.V.tup [Go.Bv.V.d (Go.Bv.D.slice Bool.true []), Go.Bv.V.d (Go.Bv.D.int Go.IntKind.i64 (↑(i + Prod.fst (Go.Bv.mat (List.drop i t) z)) : Int)), Go.Bv.V.d (Go.Bv.D.int Go.IntKind.i64 (122 : Int))]) [] [] else K (Go.Bv.V.tup [Go.Bv.V.d (Go.Bv.D.slice Bool.true []), Go.Bv.V.d (Go.Bv.D.int Go.IntKind.i64 (↑(Prod.fst (Prod.snd (Go.Bv.rdL t_1 (0 : Nat) []))) : Int)), Go.Bv.V.d (Go.Bv.D.int Go.IntKind.i64 (122 : Int))]) [] []) = (inlN Tryz.prog xRef3 lRr 4 11 [.d (.str t)] [] K) := by kernel_rfl
theorem rreadS_ok : FOK2 Tryz.prog 11 readS := by
  obtain ⟨sp, hsp⟩ : ∃ sp, sp = inlN Tryz.prog xRef3 lRr 4 11 := ⟨_, rfl⟩
  have hok : FOK2 Tryz.prog 11 sp := hsp ▸ inlN_ok (LL := lRr) xRef3_ok mixed 4 11
  refine hok.imp fun args H K h => ?_
  unfold readS at h
  split at h
  · rename_i t
    obtain ⟨h1, h2⟩ := h
    rw [hsp]
    show inlN Tryz.prog xRef3 lRr 4 11 [.d (.str t)] [] K
    rw [← rread_body]
    clear hok hsp
    refine ⟨rrT_ok, t, rfl, h1, ?_⟩
    have a1 : (rdL t 0 []).2.1 ≤ t.length := readL_le 80 t 0 [] (Nat.zero_le _)
    have a2 : (rdL t 0 []).2.2.length ≤ 80 := readL_80 80 t 0 [] (Nat.zero_le _)
    unfold readF at h2
    generalize hr : rdL t 0 [] = q at h2 a1 a2 ⊢
    obtain ⟨ok, a, xs⟩ := q
    simp only [Int.toNat_natCast, List.drop_zero] at h2 a1 a2 ⊢
    cases ok with
    | false => exact h2
    | true =>
      have lt : (t.take a).length ≤ 4294967280 := by rw [List.length_take]; omega
      cases xs with
      | nil =>
        have lz := lastZ_len 0 (t.take a)
        simp only [List.length_nil, cond_true, List.isEmpty_nil, Int.natCast_zero] at h2 ⊢
        refine ⟨⟨by omega, by omega, by omega⟩, ⟨by omega, by omega, lt⟩, reT_ok, t, a, lastZ 0 (t.take a), rfl, ⟨a1, h1, lz⟩, ?_⟩
        have hm2 := mat_all (t.drop a) (lastZ 0 (t.take a))
        have w0 : IntKind.i64.wrap ((a : Int) + ((lastZ 0 (t.take a)).length : Int)) = ((a + (lastZ 0 (t.take a)).length : Nat) : Int) := by rw [wrap_in _ (by omega) (by omega)]; omega
        rw [w0]
        generalize hm : mat (t.drop a) (lastZ 0 (t.take a)) = m at h2 hm2 ⊢
        obtain ⟨j, b⟩ := m
        cases b with
        | false => exact h2
        | true =>
          simp only at hm2
          rw [← hm2 trivial]
          cases hd : decide (a + j < t.length) with
          | false =>
            have e : decide (((a + j : Nat) : Int) < (t.length : Int)) = false := by simp only [decide_eq_false_iff_not] at hd ⊢; omega
            simp only [hd] at h2
            simp only [e]
            exact h2
          | true =>
            have e : decide (((a + j : Nat) : Int) < (t.length : Int)) = true := by simp only [decide_eq_true_eq] at hd ⊢; omega
            simp only [hd] at h2
            simp only [e]
            exact h2
      | cons x r =>
        generalize hxs : x :: r = xs at *
        have hne : xs.isEmpty = false := by rw [← hxs]; rfl
        have lz := lastZ_len (xs.length : Nat) (t.take a)
        rw [hne]
        refine ⟨⟨by omega, by omega, by omega⟩, ⟨by omega, by omega, lt⟩, reT_ok, t, a, lastZ (xs.length : Nat) (t.take a), xs, rfl, ⟨a1, h1, lz⟩, ?_⟩
        have hm2 := mat_all (t.drop a) (lastZ (xs.length : Nat) (t.take a))
        have w0 : IntKind.i64.wrap ((a : Int) + ((lastZ (xs.length : Nat) (t.take a)).length : Int)) = ((a + (lastZ (xs.length : Nat) (t.take a)).length : Nat) : Int) := by rw [wrap_in _ (by omega) (by omega)]; omega
        rw [w0]
        generalize hm : mat (t.drop a) (lastZ (xs.length : Nat) (t.take a)) = m at h2 hm2 ⊢
        obtain ⟨j, b⟩ := m
        cases b with
        | false => exact h2
        | true =>
          simp only at hm2
          rw [← hm2 trivial]
          cases hd : decide (a + j < t.length) with
          | false =>
            have e : decide (((a + j : Nat) : Int) < (t.length : Int)) = false := by simp only [decide_eq_false_iff_not] at hd ⊢; omega
            simp only [hd, Bool.not_false, Bool.and_true, cond_true, hne] at h2
            simp only [e]
            exact h2
          | true =>
            have e : decide (((a + j : Nat) : Int) < (t.length : Int)) = true := by simp only [decide_eq_true_eq] at hd ⊢; omega
            simp only [hd] at h2
            simp only [e]
            exact h2
  · exact h.elim
end Go.Proofs

namespace Go.Proofs
open Go Go.Bv
theorem works_spec : VSpec Tryz.prog 6 [] [] (.d (.bool true)) [] := kn25_ok ext_ok
def worksS : FSpec := fun args H K => match args, H with
  | [], [] => K (.d (.bool true)) [] []
  | _, _ => False
theorem worksS_ok : FOK2 Tryz.prog 6 worksS := by
  intro args H K h
  unfold worksS at h
  split at h
  · exact ⟨_, _, _, works_spec, h⟩
  · exact h.elim
def writeS : FSpec := fun args H K => match args with
  | [v] => (slS (fun i => H[i]?) 1 v).P fun p => (p.1 = strsD (strsV p.1) ∧ (strsV p.1).all (fun x => decide (x.length ≤ 4294967280)) = true ∧ (strsV p.1).length ≤ 9223372036854775807) ∧
      K (.tup [.d (.str (writeL (strsV p.1)).1), .d (.int .i64 (writeL (strsV p.1)).2)]) H []
  | _ => False
theorem writeS_ok : FOK2 Tryz.prog 7 writeS := by
  intro args H K h
  unfold writeS at h
  split at h
  · rename_i v
    obtain ⟨p, h1, ⟨h2, h3, h4⟩, h5⟩ := SR.P_has _ h
    obtain ⟨es, rd⟩ := p
    have h6 := slS_has h1
    simp only at h2 h3 h4 h5
    rw [h2] at h6
    rw [List.all_eq_true] at h3
    exact ⟨_, _, _, write_spec v H _ rd h6 (fun x hx => by simpa using h3 x hx) h4, h5⟩
  · exact h.elim
def xLaw : SX := fun f => bif Nat.beq f 5 then some farS else bif Nat.beq f 6 then some worksS else bif Nat.beq f 7 then some writeS else bif Nat.beq f 8 then some readS else bif Nat.beq f 9 then some sm9S else bif Nat.beq f 10 then some rwriteS else bif Nat.beq f 11 then some readS else none
theorem xLaw_ok : XOK Tryz.prog xLaw :=
  sx_cons farS_ok (sx_cons worksS_ok (sx_cons writeS_ok (sx_cons readS_ok (sx_cons sm9S_ok (sx_cons rwriteS_ok (sx_cons rreadS_ok (fun f sp h => by cases h)))))))
theorem files_body (b : Bool) (es : List (List Go.Bv.D)) (t : List UInt8) (K : Go.Bv.KC) : ((es = Go.Bv.strsD (Go.Bv.strsV es) ∧ (∀ (x : List UInt8), x ∈ Go.Bv.strsV es → List.length x ≤ (140737488355328 : Nat)) ∧ List.length (Go.Bv.strsV es) ≤ (140737488355328 : Nat)) ∧ bif Go.Bv.farB (Go.Bv.strsV es) then K (Go.Bv.V.d (Go.Bv.D.bool Bool.true)) [] [] else bif Decidable.decide ((3000 : Int) < (↑(List.length t) : Int)) then K (Go.Bv.V.d (Go.Bv.D.bool Bool.true)) [] [] else bif List.isEmpty es then (List.all es fun (e : List Go.Bv.D) => List.length e == (1 : Nat)) = Bool.true ∧ (Prod.fst (([] : List (List Go.Bv.D)), [(0 : Nat)]) = [] ∧ Bool.true = Bool.true ∧ (0 : Nat) ≤ (9223372036854775807 : Nat)) ∧ (es = Go.Bv.strsD (Go.Bv.strsV es) ∧ ∀ (x : List UInt8), x ∈ Go.Bv.strsV es → List.length x ≤ (4294967280 : Nat)) ∧ List.length t ≤ (4294967280 : Nat) ∧ bif List.isEmpty (Prod.fst (Go.Bv.readF t)) then List.length t ≤ (4294967280 : Nat) ∧ bif List.isEmpty (Prod.fst (Go.Bv.readF t)) then bif Decidable.decide ([(101 : UInt8), (110 : UInt8), (100 : UInt8), (32 : UInt8), (48 : UInt8), (32 : UInt8), (55 : UInt8), (10 : UInt8)] = Prod.fst (Go.Bv.writeL (Go.Bv.strsV es))) then bif Decidable.decide ((0 : Int) = Prod.snd (Go.Bv.writeL (Go.Bv.strsV es))) then (([] : List (List Go.Bv.D)) = [] ∧ ([] : List (List Go.Bv.D)) = [] ∧ (0 : Nat) ≤ (140737488355328 : Nat)) ∧ bif Decidable.decide ((↑(Prod.fst (Prod.snd (Go.Bv.readF t))) : Int) = (↑(Prod.fst (Prod.snd (Go.Bv.readF t))) : Int)) then bif Decidable.decide ((↑(Prod.snd (Prod.snd (Go.Bv.readF t))) : Int) = (↑(Prod.snd (Prod.snd (Go.Bv.readF t))) : Int)) then K (Go.Bv.V.d (Go.Bv.D.bool Bool.true)) [] [] else K (Go.Bv.V.d (Go.Bv.D.bool Bool.false)) [] [] else K (Go.Bv.V.d (Go.Bv.D.bool Bool.false)) [] [] else K (Go.Bv.V.d (Go.Bv.D.bool Bool.false)) [] [] else K (Go.Bv.V.d (Go.Bv.D.bool Bool.false)) [] [] else bif Decidable.decide ([(101 : UInt8), (110 : UInt8), (100 : UInt8), (32 : UInt8), (48 : UInt8), (32 : UInt8), (55 : UInt8), (10 : UInt8)] = Prod.fst (Go.Bv.writeL (Go.Bv.strsV es))) then bif Decidable.decide ((0 : Int) = Prod.snd (Go.Bv.writeL (Go.Bv.strsV es))) then False else K (Go.Bv.V.d (Go.Bv.D.bool Bool.false)) [] [] else K (Go.Bv.V.d (Go.Bv.D.bool Bool.false)) [] [] else List.length t ≤ (4294967280 : Nat) ∧ bif List.isEmpty (Prod.fst (Go.Bv.readF t)) then bif Decidable.decide ([(101 : UInt8), (110 : UInt8), (100 : UInt8), (32 : UInt8), (48 : UInt8), (32 : UInt8), (55 : UInt8), (10 : UInt8)] = Prod.fst (Go.Bv.writeL (Go.Bv.strsV es))) then bif Decidable.decide ((0 : Int) = Prod.snd (Go.Bv.writeL (Go.Bv.strsV es))) then (Go.Bv.strsD (Prod.fst (Go.Bv.readF t)) = Go.Bv.strsD (Go.Bv.strsV (Go.Bv.strsD (Prod.fst (Go.Bv.readF t)))) ∧ ([] : List (List Go.Bv.D)) = [] ∧ List.length (Prod.fst (Go.Bv.readF t)) = List.length (Go.Bv.strsV (Go.Bv.strsD (Prod.fst (Go.Bv.readF t)))) ∧ List.length (Prod.fst (Go.Bv.readF t)) ≤ (140737488355328 : Nat)) ∧ bif Decidable.decide (Go.Bv.strsV (Go.Bv.strsD (Prod.fst (Go.Bv.readF t))) = Go.Bv.strsV ([] : List (List Go.Bv.D))) then bif Decidable.decide ((↑(Prod.fst (Prod.snd (Go.Bv.readF t))) : Int) = (↑(Prod.fst (Prod.snd (Go.Bv.readF t))) : Int)) then bif Decidable.decide ((↑(Prod.snd (Prod.snd (Go.Bv.readF t))) : Int) = (↑(Prod.snd (Prod.snd (Go.Bv.readF t))) : Int)) then K (Go.Bv.V.d (Go.Bv.D.bool Bool.true)) [] [] else K (Go.Bv.V.d (Go.Bv.D.bool Bool.false)) [] [] else K (Go.Bv.V.d (Go.Bv.D.bool Bool.false)) [] [] else K (Go.Bv.V.d (Go.Bv.D.bool Bool.false)) [] [] else K (Go.Bv.V.d (Go.Bv.D.bool Bool.false)) [] [] else K (Go.Bv.V.d (Go.Bv.D.bool Bool.false)) [] [] else bif Decidable.decide ([(101 : UInt8), (110 : UInt8), (100 : UInt8), (32 : UInt8), (48 : UInt8), (32 : UInt8), (55 : UInt8), (10 : UInt8)] = Prod.fst (Go.Bv.writeL (Go.Bv.strsV es))) then bif Decidable.decide ((0 : Int) = Prod.snd (Go.Bv.writeL (Go.Bv.strsV es))) then (Go.Bv.strsD (Prod.fst (Go.Bv.readF t)) = Go.Bv.strsD (Go.Bv.strsV (Go.Bv.strsD (Prod.fst (Go.Bv.readF t)))) ∧ Go.Bv.strsD (Prod.fst (Go.Bv.readF t)) = Go.Bv.strsD (Go.Bv.strsV (Go.Bv.strsD (Prod.fst (Go.Bv.readF t)))) ∧ List.length (Prod.fst (Go.Bv.readF t)) = List.length (Go.Bv.strsV (Go.Bv.strsD (Prod.fst (Go.Bv.readF t)))) ∧ List.length (Prod.fst (Go.Bv.readF t)) = List.length (Go.Bv.strsV (Go.Bv.strsD (Prod.fst (Go.Bv.readF t)))) ∧ List.length (Prod.fst (Go.Bv.readF t)) ≤ (140737488355328 : Nat)) ∧ bif Decidable.decide (Go.Bv.strsV (Go.Bv.strsD (Prod.fst (Go.Bv.readF t))) = Go.Bv.strsV (Go.Bv.strsD (Prod.fst (Go.Bv.readF t)))) then bif Decidable.decide ((↑(Prod.fst (Prod.snd (Go.Bv.readF t))) : Int) = (↑(Prod.fst (Prod.snd (Go.Bv.readF t))) : Int)) then bif Decidable.decide ((↑(Prod.snd (Prod.snd (Go.Bv.readF t))) : Int) = (↑(Prod.snd (Prod.snd (Go.Bv.readF t))) : Int)) then K (Go.Bv.V.d (Go.Bv.D.bool Bool.true)) [] [] else K (Go.Bv.V.d (Go.Bv.D.bool Bool.false)) [] [] else K (Go.Bv.V.d (Go.Bv.D.bool Bool.false)) [] [] else K (Go.Bv.V.d (Go.Bv.D.bool Bool.false)) [] [] else K (Go.Bv.V.d (Go.Bv.D.bool Bool.false)) [] [] else K (Go.Bv.V.d (Go.Bv.D.bool Bool.false)) [] [] else ((List.all es fun (e : List Go.Bv.D) => List.length e == (1 : Nat)) = Bool.true ∧ (List.length ([] : List (List Go.Bv.D)) + List.length es) * (16 : Nat) ≤ (140737488355328 : Nat) ∧ List.length ([] : List (List Go.Bv.D)) + List.length es ≤ (9223372036854775807 : Nat)) ∧ List.length ([] : List (List Go.Bv.D)) + List.length es = List.length ([] ++ es) ∧ ([] ++ es = Go.Bv.strsD (Go.Bv.strsV ([] ++ es)) ∧ (List.all (Go.Bv.strsV ([] ++ es)) fun (x : List UInt8) => Decidable.decide (List.length x ≤ (4294967280 : Nat))) = Bool.true ∧ List.length (Go.Bv.strsV ([] ++ es)) ≤ (9223372036854775807 : Nat)) ∧ (es = Go.Bv.strsD (Go.Bv.strsV es) ∧ ∀ (x : List UInt8), x ∈ Go.Bv.strsV es → List.length x ≤ (4294967280 : Nat)) ∧ List.length t ≤ (4294967280 : Nat) ∧ bif List.isEmpty (Prod.fst (Go.Bv.readF t)) then List.length t ≤ (4294967280 : Nat) ∧ bif List.isEmpty (Prod.fst (Go.Bv.readF t)) then bif Decidable.decide (Prod.fst (Go.Bv.writeL (Go.Bv.strsV ([] ++ es))) = Prod.fst (Go.Bv.writeL (Go.Bv.strsV es))) then bif Decidable.decide (Prod.snd (Go.Bv.writeL (Go.Bv.strsV ([] ++ es))) = Prod.snd (Go.Bv.writeL (Go.Bv.strsV es))) then (([] : List (List Go.Bv.D)) = [] ∧ ([] : List (List Go.Bv.D)) = [] ∧ (0 : Nat) ≤ (140737488355328 : Nat)) ∧ bif Decidable.decide ((↑(Prod.fst (Prod.snd (Go.Bv.readF t))) : Int) = (↑(Prod.fst (Prod.snd (Go.Bv.readF t))) : Int)) then bif Decidable.decide ((↑(Prod.snd (Prod.snd (Go.Bv.readF t))) : Int) = (↑(Prod.snd (Prod.snd (Go.Bv.readF t))) : Int)) then K (Go.Bv.V.d (Go.Bv.D.bool Bool.true)) [] [] else K (Go.Bv.V.d (Go.Bv.D.bool Bool.false)) [] [] else K (Go.Bv.V.d (Go.Bv.D.bool Bool.false)) [] [] else K (Go.Bv.V.d (Go.Bv.D.bool Bool.false)) [] [] else K (Go.Bv.V.d (Go.Bv.D.bool Bool.false)) [] [] else bif Decidable.decide (Prod.fst (Go.Bv.writeL (Go.Bv.strsV ([] ++ es))) = Prod.fst (Go.Bv.writeL (Go.Bv.strsV es))) then bif Decidable.decide (Prod.snd (Go.Bv.writeL (Go.Bv.strsV ([] ++ es))) = Prod.snd (Go.Bv.writeL (Go.Bv.strsV es))) then False else K (Go.Bv.V.d (Go.Bv.D.bool Bool.false)) [] [] else K (Go.Bv.V.d (Go.Bv.D.bool Bool.false)) [] [] else List.length t ≤ (4294967280 : Nat) ∧ bif List.isEmpty (Prod.fst (Go.Bv.readF t)) then bif Decidable.decide (Prod.fst (Go.Bv.writeL (Go.Bv.strsV ([] ++ es))) = Prod.fst (Go.Bv.writeL (Go.Bv.strsV es))) then bif Decidable.decide (Prod.snd (Go.Bv.writeL (Go.Bv.strsV ([] ++ es))) = Prod.snd (Go.Bv.writeL (Go.Bv.strsV es))) then (Go.Bv.strsD (Prod.fst (Go.Bv.readF t)) = Go.Bv.strsD (Go.Bv.strsV (Go.Bv.strsD (Prod.fst (Go.Bv.readF t)))) ∧ ([] : List (List Go.Bv.D)) = [] ∧ List.length (Prod.fst (Go.Bv.readF t)) = List.length (Go.Bv.strsV (Go.Bv.strsD (Prod.fst (Go.Bv.readF t)))) ∧ List.length (Prod.fst (Go.Bv.readF t)) ≤ (140737488355328 : Nat)) ∧ bif Decidable.decide (Go.Bv.strsV (Go.Bv.strsD (Prod.fst (Go.Bv.readF t))) = Go.Bv.strsV ([] : List (List Go.Bv.D))) then bif Decidable.decide ((↑(Prod.fst (Prod.snd (Go.Bv.readF t))) : Int) = (↑(Prod.fst (Prod.snd (Go.Bv.readF t))) : Int)) then bif Decidable.decide ((↑(Prod.snd (Prod.snd (Go.Bv.readF t))) : Int) = (↑(Prod.snd (Prod.snd (Go.Bv.readF t))) : Int)) then K (Go.Bv.V.d (Go.Bv.D.bool Bool.true)) [] [] else K (Go.Bv.V.d (Go.Bv.D.bool Bool.false)) [] [] else K (Go.Bv.V.d (Go.Bv.D.bool Bool.false)) [] [] else K (Go.Bv.V.d (Go.Bv.D.bool Bool.false)) [] [] else K (Go.Bv.V.d (Go.Bv.D.bool Bool.false)) [] [] else K (Go.Bv.V.d (Go.Bv.D.bool Bool.false)) [] [] else bif Decidable.decide (Prod.fst (Go.Bv.writeL (Go.Bv.strsV ([] ++ es))) = Prod.fst (Go.Bv.writeL (Go.Bv.strsV es))) then bif Decidable.decide (Prod.snd (Go.Bv.writeL (Go.Bv.strsV ([] ++ es))) = Prod.snd (Go.Bv.writeL (Go.Bv.strsV es))) then (Go.Bv.strsD (Prod.fst (Go.Bv.readF t)) = Go.Bv.strsD (Go.Bv.strsV (Go.Bv.strsD (Prod.fst (Go.Bv.readF t)))) ∧ Go.Bv.strsD (Prod.fst (Go.Bv.readF t)) = Go.Bv.strsD (Go.Bv.strsV (Go.Bv.strsD (Prod.fst (Go.Bv.readF t)))) ∧ List.length (Prod.fst (Go.Bv.readF t)) = List.length (Go.Bv.strsV (Go.Bv.strsD (Prod.fst (Go.Bv.readF t)))) ∧ List.length (Prod.fst (Go.Bv.readF t)) = List.length (Go.Bv.strsV (Go.Bv.strsD (Prod.fst (Go.Bv.readF t)))) ∧ List.length (Prod.fst (Go.Bv.readF t)) ≤ (140737488355328 : Nat)) ∧ bif Decidable.decide (Go.Bv.strsV (Go.Bv.strsD (Prod.fst (Go.Bv.readF t))) = Go.Bv.strsV (Go.Bv.strsD (Prod.fst (Go.Bv.readF t)))) then bif Decidable.decide ((↑(Prod.fst (Prod.snd (Go.Bv.readF t))) : Int) = (↑(Prod.fst (Prod.snd (Go.Bv.readF t))) : Int)) then bif Decidable.decide ((↑(Prod.snd (Prod.snd (Go.Bv.readF t))) : Int) = (↑(Prod.snd (Prod.snd (Go.Bv.readF t))) : Int)) then K (Go.Bv.V.d (Go.Bv.D.bool Bool.true)) [] [] else K (Go.Bv.V.d (Go.Bv.D.bool Bool.false)) [] [] else K (Go.Bv.V.d (Go.Bv.D.bool Bool.false)) [] [] else K (Go.Bv.V.d (Go.Bv.D.bool Bool.false)) [] [] else K (Go.Bv.V.d (Go.Bv.D.bool Bool.false)) [] [] else K (Go.Bv.V.d (Go.Bv.D.bool Bool.false)) [] []) = (inlN Tryz.prog xLaw l0 1 4 [.d (.slice b es), .d (.str t)] [] K) := by kernel_rfl
theorem files_law (b : Bool) (xs : List (List UInt8)) (t : List UInt8) (hx : ∀ x, x ∈ xs → x.length ≤ 140737488355328) (hl : xs.length ≤ 140737488355328) :
    VSpec Tryz.prog 4 [.d (.slice b (strsD xs)), .d (.str t)] [] (.d (.bool true)) [] := by
  refine VSpec.of_inl (inlN_ok (LL := l0) xLaw_ok mixed 1 4) ?_
  rw [← files_body]
  simp only [strsV_D, List.nil_append, List.length_nil, Nat.zero_add, strsD_len, decide_true, cond_true]
  have hall : (strsD xs).all (fun e => e.length == 1) = true := by
    rw [List.all_eq_true]; intro e he
    obtain ⟨y, _, rfl⟩ := List.mem_map.1 he
    rfl
  refine ⟨⟨trivial, hx, hl⟩, ?_⟩
  cases hf : farB xs with
  | true => exact ⟨(by first | trivial | rfl), (by first | trivial | rfl)⟩
  | false =>
    unfold farB at hf
    simp only [Bool.or_eq_false_iff, decide_eq_false_iff_not] at hf
    have hx3 := farN_mem xs 0 (by omega)
    have hx4 : ∀ x, x ∈ xs → x.length ≤ 4294967280 := fun x h => by have := hx3 x h; omega
    have hx5 : (xs.all fun x => decide (x.length ≤ 4294967280)) = true := by rw [List.all_eq_true]; intro x h; simpa using hx4 x h
    cases ht : decide ((3000 : Int) < (t.length : Int)) with
    | true => exact ⟨(by first | trivial | rfl), (by first | trivial | rfl)⟩
    | false =>
      simp only [decide_eq_false_iff_not] at ht
      have ht2 : t.length ≤ 4294967280 := by omega
      have h80 := readF_80 t
      cases he : (strsD xs).isEmpty with
      | true =>
        have : xs = [] := by cases xs with | nil => rfl | cons x r => cases he
        subst this
        have ew : writeL [] = ([101, 110, 100, 32, 48, 32, 55, 10], 0) := by decide
        rw [ew]
        simp only [decide_true, cond_true]
        cases hr : (readF t).1.isEmpty with
        | true => exact ⟨hall, ⟨(by first | trivial | rfl), by simp [strsV], by omega⟩, ⟨(by first | trivial | rfl), hx4⟩, ht2, ht2, ⟨(by first | trivial | rfl), (by first | trivial | rfl), by omega⟩, (by first | trivial | rfl), (by first | trivial | rfl)⟩
        | false => exact ⟨hall, ⟨(by first | trivial | rfl), by simp [strsV], by omega⟩, ⟨(by first | trivial | rfl), hx4⟩, ht2, ht2, ⟨(by first | trivial | rfl), (by first | trivial | rfl), (by first | trivial | rfl), (by first | trivial | rfl), by omega⟩, (by first | trivial | rfl), (by first | trivial | rfl)⟩
      | false =>
        cases hr : (readF t).1.isEmpty with
        | true => exact ⟨⟨hall, by omega, by omega⟩, (by first | trivial | rfl), ⟨(by first | trivial | rfl), hx5, by omega⟩, ⟨(by first | trivial | rfl), hx4⟩, ht2, ht2, ⟨(by first | trivial | rfl), (by first | trivial | rfl), by omega⟩, (by first | trivial | rfl), (by first | trivial | rfl)⟩
        | false => exact ⟨⟨hall, by omega, by omega⟩, (by first | trivial | rfl), ⟨(by first | trivial | rfl), hx5, by omega⟩, ⟨(by first | trivial | rfl), hx4⟩, ht2, ht2, ⟨(by first | trivial | rfl), (by first | trivial | rfl), (by first | trivial | rfl), (by first | trivial | rfl), by omega⟩, (by first | trivial | rfl), (by first | trivial | rfl)⟩
end Go.Proofs

namespace Go.Proofs
open Go Go.Bv Go.Lib Go.RowKit Go.ChangeShapes Go.WideShapes Go.ChangeAt

theorem tab_of_reads {w : World} {name : String} {d : DataW Unit} {n t e len : Nat} {k : IntKind} {zs : List Int} (h : VarReads Tryz.prog w name d) (hd : d = tabData k zs)
    (hg : Tryz.prog.globalNamed name = some n) (ht : (Tryz.prog.globals[n]?).map (·.type) = some t) (hu : Tryz.prog.underlying t = some (.array len e)) (he : Tryz.prog.underlying e = some (.int k))
    (ce : Tryz.prog.cellsOf e = 1) (ct : Tryz.prog.cellsOf t = len) : ∃ arr t' f, w.heap[n]? = some (.cells arr t' f) ∧ arr.toList = zs.map fun z => Value.int k z := by
  obtain ⟨g, t1, cs, fuel, p, h1, h2, h3, h4⟩ := h
  obtain rfl := Option.some.inj (hg.symm.trans h1)
  obtain rfl := Option.some.inj (ht.symm.trans h2)
  subst hd
  have hc := cells_of_tab hu he ce ct h4
  unfold World.var? at h3
  rw [hg] at h3
  simp only [Option.bind_some] at h3
  split at h3
  · rename_i cs' t' f hh
    obtain rfl := Option.some.inj h3
    exact ⟨_, _, _, hh, hc⟩
  · cases h3

def memOf (W : World) (b o : Nat) : Option Value := W.cell? ⟨b, o, none⟩
theorem memOf_cells {W : World} {n : Nat} {arr : Array Value} {t : TypeId} {f : Nat × Nat} (h : W.heap[n]? = some (.cells arr t f)) (j : Nat) : memOf W n j = arr[j]? := by
  unfold memOf World.cell?
  rw [h]; rfl
theorem tab_glo {W : World} {n : Nat} {e : List D} {k : IntKind} {zs : List Int} (he : e = zs.map fun z => .int k z) (h : ∃ arr t' f, W.heap[n]? = some (.cells arr t' f) ∧ arr.toList = zs.map fun z => Value.int k z) :
    (∃ arr t f, W.heap[n]? = some (.cells arr t f) ∧ arr.size = e.length) ∧ ∀ (j : Nat) (x : D), e[j]? = some x → ∃ c, memOf W n j = some c ∧ RelD (memOf W) x c := by
  obtain ⟨arr, t, f, h1, h2⟩ := h
  subst he
  refine ⟨⟨arr, t, f, h1, by rw [← Array.length_toList, h2]; simp⟩, fun j x hx => ?_⟩
  rw [List.getElem?_map] at hx
  obtain ⟨z, hz, rfl⟩ := Option.map_eq_some_iff.1 hx
  refine ⟨.int k z, ?_, .int k z⟩
  rw [memOf_cells h1, ← Array.getElem?_toList, h2, List.getElem?_map, hz]; rfl
theorem glo_of {W : World} (hL : laidMetH Tryz.prog YtnbdnplmkifnhaaGreatDoor.Rows.seasonFilesRow.laid W) (hsh : W.ShapedOpen Tryz.prog) : WG W ∧ GloOK (memOf W) := by
  rw [MakeChecks.laidMetH_plain _ _ _ (by kernel_rfl)] at hL
  have t0 := tab_glo (e := (gtab 0).getD []) (zs := [1, 10, 100, 1000, 10000, 100000, 1000000, 10000000, 100000000, 1000000000, 10000000000, 100000000000, 1000000000000, 10000000000000, 100000000000000, 1000000000000000, 10000000000000000, 100000000000000000, 1000000000000000000, 10000000000000000000]) (k := .u64) (W := W) (n := 0) (by kernel_rfl)
    (tab_of_reads (name := "internal/strconv.uint64pow10") (d := YtnbdnplmkifnhaaGreatDoor.Rows.laid_internal_strconv_uint64pow10) (t := 339) (e := 282) (len := 20) (Lib.laidMet.reads hL (.tail _ (.tail _ (.head _)))) (by kernel_rfl) (by kernel_rfl) (by kernel_rfl) (by kernel_rfl) (by kernel_rfl) (by kernel_rfl) (by kernel_rfl))
  have t6 := tab_glo (e := (gtab 6).getD []) (zs := [0, 1, 28, 2, 29, 14, 24, 3, 30, 22, 20, 15, 25, 17, 4, 8, 31, 27, 13, 23, 21, 19, 16, 7, 26, 12, 18, 6, 11, 5, 10, 9]) (k := .u8) (W := W) (n := 6) (by kernel_rfl)
    (tab_of_reads (name := "math/bits.deBruijn32tab") (d := YtnbdnplmkifnhaaGreatDoor.Rows.laid_math_bits_deBruijn32tab) (t := 409) (e := 5) (len := 32) (Lib.laidMet.reads hL (.head _)) (by kernel_rfl) (by kernel_rfl) (by kernel_rfl) (by kernel_rfl) (by kernel_rfl) (by kernel_rfl) (by kernel_rfl))
  have t7 := tab_glo (e := (gtab 7).getD []) (zs := [0, 1, 56, 2, 57, 49, 28, 3, 61, 58, 42, 50, 38, 29, 17, 4, 62, 47, 59, 36, 45, 43, 51, 22, 53, 39, 33, 30, 24, 18, 12, 5, 63, 55, 48, 27, 60, 41, 37, 16, 46, 35, 44, 21, 52, 32, 23, 11, 54, 26, 40, 15, 34, 20, 31, 10, 25, 14, 19, 9, 13, 8, 7, 6]) (k := .u8) (W := W) (n := 7) (by kernel_rfl)
    (tab_of_reads (name := "math/bits.deBruijn64tab") (d := YtnbdnplmkifnhaaGreatDoor.Rows.laid_math_bits_deBruijn64tab) (t := 410) (e := 5) (len := 64) (Lib.laidMet.reads hL (.tail _ (.head _))) (by kernel_rfl) (by kernel_rfl) (by kernel_rfl) (by kernel_rfl) (by kernel_rfl) (by kernel_rfl) (by kernel_rfl))
  obtain ⟨m, hm⟩ := cell_of_shapedOpen_int (g := 1) (t := 3) (zero := #[.int .i64 0]) (k := .i64) hsh (of_decide_eq_true (by kernel_rfl)) (by kernel_rfl) rfl (by kernel_rfl) (by kernel_rfl) (by kernel_rfl)
  have key : ∀ n e, gtab n = some e → n = 0 ∨ n = 6 ∨ n = 7 := by
    intro n e h
    unfold gtab at h
    split at h <;> first | omega | cases h
  refine ⟨fun n e h => ?_, fun n e h => ?_, fun n h => ?_⟩
  · rcases key n e h with rfl | rfl | rfl
    · have : (gtab 0).getD [] = e := by rw [h]; rfl
      rw [← this]; exact t0.1
    · have : (gtab 6).getD [] = e := by rw [h]; rfl
      rw [← this]; exact t6.1
    · have : (gtab 7).getD [] = e := by rw [h]; rfl
      rw [← this]; exact t7.1
  · rcases key n e h with rfl | rfl | rfl
    · have : (gtab 0).getD [] = e := by rw [h]; rfl
      rw [← this]; exact t0.2
    · have : (gtab 6).getD [] = e := by rw [h]; rfl
      rw [← this]; exact t6.2
    · have : (gtab 7).getD [] = e := by rw [h]; rfl
      rw [← this]; exact t7.2
  · have : n = 1 := by
      unfold gvar at h
      split at h
      · rfl
      · cases h
    subst this
    exact ⟨m, hm⟩
theorem files_calls {W : World} (hg : WG W ∧ GloOK (memOf W)) {v0 : Value} {b : Bool} {xs : List (List UInt8)} (s : ByteArray) (hv : RelD (memOf W) (.slice b (strsD xs)) v0)
    (hx : ∀ x, x ∈ xs → x.length ≤ 140737488355328) (hl : xs.length ≤ 140737488355328) :
    Calls Tryz.prog 4 #[v0, .string s] W fun e W' => e = .returned (.bool true) ∧ Below W.heap.size W W' := by
  have hrel : RelH { M := memOf W, β := fun _ => none, sv := fun _ => none, glo := hg.2 } [] W := {
    wg := hg.1
    mem := fun _ _ _ h => h
    blk := fun id b hb => by cases hb
    inj := fun i j b b' k hi => by cases hi }
  refine (calls_bare (files_law b xs s.data.toList hx hl) hrel (allRel_two (.d hv) (relStr _ s))).mono ?_
  rintro e w' ⟨c, g', rfl, hr, hb⟩
  rw [rel_bool hr]; exact ⟨rfl, hb⟩

theorem rel_strs {W : World} {a : Addr} {len cap : Nat} {ss : List ByteArray} (hl : len ≤ cap) (hlen : len ≤ ss.length) (hcell : ∀ i, i < ss.length → W.cell? (a.add i) = some (.string (ss.getD i ByteArray.empty))) :
    RelD (memOf W) (.slice false (strsD ((ss.take len).map (·.data.toList)))) (.slice (some a) len cap) := by
  by_cases h0 : len = 0
  · subst h0
    exact .emp a cap
  · have ha : a.spot = none := by
      have h := hcell 0 (by omega)
      simp only [Addr.add, if_true] at h
      cases hs : a.spot with
      | none => rfl
      | some k => unfold World.cell? at h; rw [hs] at h; simp at h; split at h <;> cases h
    obtain ⟨bl, off, sp⟩ := a
    subst ha
    have hlen' : (strsD ((ss.take len).map (·.data.toList))).length = len := by rw [strsD_len, List.length_map, List.length_take]; omega
    have hm : ∀ i, i < len → memOf W bl (off + i) = some (.string (ss.getD i ByteArray.empty)) := by
      intro i hi
      have h := hcell i (by omega)
      unfold memOf
      rw [← h]
      unfold Addr.add
      split
      · rename_i e; subst e; rfl
      · rfl
    refine .slice 1 _ bl off cap len hlen'.symm hl (fun e he => ?_) (fun i j hi hj => ?_) (fun i j e x c he hx hc => ?_)
    · obtain ⟨y, _, rfl⟩ := List.mem_map.1 he; rfl
    · rw [hlen'] at hi
      obtain rfl : j = 0 := by omega
      rw [Nat.mul_one, Nat.add_zero, hm i hi]; rfl
    · have hi : i < len := by have := (List.getElem?_eq_some_iff.1 he).1; omega
      unfold strsD at he
      rw [List.getElem?_map, List.getElem?_map, List.getElem?_take, if_pos hi, List.getElem?_eq_getElem (by omega)] at he
      simp only [Option.map_some, Option.some.injEq] at he
      subst he
      match j, hx with
      | 0, hx =>
        simp only [List.getElem?_cons_zero, Option.some.injEq] at hx
        subst hx
        rw [Nat.mul_one, Nat.add_zero, hm i hi] at hc
        obtain rfl := Option.some.inj hc
        have e2 : ss.getD i ByteArray.empty = ss[i] := by rw [List.getD_eq_getElem?_getD, List.getElem?_eq_getElem (by omega)]; rfl
        rw [e2]
        have h3 : RelD (memOf W) (.str ss[i].data.toList) (.string ⟨ss[i].data.toList.toArray⟩) := .str _
        rw [arr_list] at h3
        exact h3
end Go.Proofs
