/- A part of the proof: an abstract heap, a verified walk over the program, and plain laws over lists. Conditions: none beyond the statement. -/
import Derived.Test.YtnbdnplmkifnhaaGreatDoorMD
set_option linter.unusedVariables false
set_option linter.unusedSimpArgs false
namespace Go.Bv

def mat : List UInt8 → List UInt8 → Nat × Bool
  | _, [] => (0, true)
  | [], _ :: _ => (0, false)
  | x :: t, y :: s => bif decide (x.toNat = y.toNat) then ((mat t s).1 + 1, (mat t s).2) else (0, false)
def rd (t : List UInt8) (a : Int) : Blk := .box false [.d (.str t), .d (.int .i64 a)]
end Go.Bv
namespace Go.Proofs
open Go Go.Bv

def saS (t : List UInt8) (a : Int) (s : List UInt8) (i : Nat) : VS := stN 22 [(0, .ptr 0 0), (3, .ptr 1 0), (8, .d (.str s)), (9, .d (.int .i64 s.length)), (10, .d (.int .i64 i))] [rd t a, .box false [.d (.str s)]]
def saE (t : List UInt8) (a : Int) (v : V) : VS := stN 22 [(0, .ptr 0 0), (4, v)] [rd t a]
theorem same_round (t : List UInt8) (a : Nat) (s : List UInt8) (i : Nat) (Kn : Option Go.Bv.VS → Prop) (Ke : Go.Exit → Option Go.Bv.VS → Prop) : (bif Decidable.decide ((↑i : Int) < (↑(List.length s) : Int)) then bif Decidable.decide ((↑a : Int) = (↑(List.length t) : Int)) then Ke Go.Exit.ret (Option.some (Go.Bv.VS.mk [((0 : Nat), Go.Bv.V.ptr (0 : Nat) (0 : Nat)), ((4 : Nat), Go.Bv.V.d (Go.Bv.D.bool Bool.false))] [((0 : Nat), Go.Bv.Blk.box Bool.false [Go.Bv.V.d (Go.Bv.D.str t), Go.Bv.V.d (Go.Bv.D.int Go.IntKind.i64 (↑a : Int))])] (1 : Nat) [] (22 : Nat))) else ((0 : Int) ≤ (↑a : Int) ∧ (↑a : Int) < (↑(List.length t) : Int)) ∧ ((0 : Int) ≤ (↑i : Int) ∧ (↑i : Int) < (↑(List.length s) : Int)) ∧ (Option.some (Go.Bv.Blk.box Bool.false [Go.Bv.V.d (Go.Bv.D.str s)]) = Option.some (Go.Bv.Blk.box Bool.false [Go.Bv.V.d (Go.Bv.D.str s)]) ∧ Option.some (Go.Bv.Blk.box Bool.false [Go.Bv.V.d (Go.Bv.D.int Go.IntKind.i64 (↑i : Int))]) = Option.some (Go.Bv.Blk.box Bool.false [Go.Bv.V.d (Go.Bv.D.int Go.IntKind.i64 (↑i : Int))]) ∧ True) ∧ bif !Decidable.decide ((↑(UInt8.toNat (List.getD t (Int.toNat (↑a : Int)) (0 : UInt8))) : Int) = (↑(UInt8.toNat (List.getD s (Int.toNat (↑i : Int)) (0 : UInt8))) : Int)) then Ke Go.Exit.ret (Option.some (Go.Bv.VS.mk [((0 : Nat), Go.Bv.V.ptr (0 : Nat) (0 : Nat)), ((4 : Nat), Go.Bv.V.d (Go.Bv.D.bool Bool.false))] [((0 : Nat), Go.Bv.Blk.box Bool.false [Go.Bv.V.d (Go.Bv.D.str t), Go.Bv.V.d (Go.Bv.D.int Go.IntKind.i64 (↑a : Int))])] (1 : Nat) [] (22 : Nat))) else ((0 : Int) ≤ Go.IntKind.wrap Go.IntKind.i64 (Go.IntKind.wrap Go.IntKind.i64 ((↑a : Int) + (1 : Int)) - (1 : Int)) ∧ Go.IntKind.wrap Go.IntKind.i64 (Go.IntKind.wrap Go.IntKind.i64 ((↑a : Int) + (1 : Int)) - (1 : Int)) < (↑(List.length t) : Int)) ∧ Kn (Option.some (Go.Bv.VS.mk [((0 : Nat), Go.Bv.V.ptr (0 : Nat) (0 : Nat)), ((3 : Nat), Go.Bv.V.ptr (1 : Nat) (0 : Nat)), ((8 : Nat), Go.Bv.V.d (Go.Bv.D.str s)), ((9 : Nat), Go.Bv.V.d (Go.Bv.D.int Go.IntKind.i64 (↑(List.length s) : Int))), ((10 : Nat), Go.Bv.V.d (Go.Bv.D.int Go.IntKind.i64 (Go.IntKind.wrap Go.IntKind.i64 ((↑i : Int) + (1 : Int)))))] [((0 : Nat), Go.Bv.Blk.box Bool.false [Go.Bv.V.d (Go.Bv.D.str t), Go.Bv.V.d (Go.Bv.D.int Go.IntKind.i64 (Go.IntKind.wrap Go.IntKind.i64 ((↑a : Int) + (1 : Int))))]), ((1 : Nat), Go.Bv.Blk.box Bool.false [Go.Bv.V.d (Go.Bv.D.str s)])] (2 : Nat) [] (22 : Nat))) else Ke (Go.Exit.exit (0 : Nat)) (Option.some (Go.Bv.VS.mk [((0 : Nat), Go.Bv.V.ptr (0 : Nat) (0 : Nat)), ((4 : Nat), Go.Bv.V.junk)] [((0 : Nat), Go.Bv.Blk.box Bool.false [Go.Bv.V.d (Go.Bv.D.str t), Go.Bv.V.d (Go.Bv.D.int Go.IntKind.i64 (↑a : Int))])] (1 : Nat) [] (22 : Nat)))) = (roundP Tryz.prog xLib iLib 1 (fun _ => none) (loopB Tryz.prog 20 [true, false, true, false]) [0, 3, 8, 9, 10] [0, 4] (saS t a s i) Kn Ke) := by kernel_rfl
def saR (p : List UInt8 × Nat × List UInt8 × Nat) (e : Exit) (s' : VS) : Prop :=
  bif (mat (p.1.drop p.2.1) (p.2.2.1.drop p.2.2.2)).2 then e = .exit 0 ∧ s' = saE p.1 ((p.2.1 + (mat (p.1.drop p.2.1) (p.2.2.1.drop p.2.2.2)).1 : Nat) : Int) .junk
  else e = .ret ∧ s' = saE p.1 ((p.2.1 + (mat (p.1.drop p.2.1) (p.2.2.1.drop p.2.2.2)).1 : Nat) : Int) (.d (.bool false))
def saT : LoopT := fun s W Q => ∃ (t : List UInt8) (a : Nat) (z : List UInt8), canonN 1 [0, 3, 8, 9, 10] s = some (saS t a z 0) ∧ (a ≤ t.length ∧ t.length ≤ 4294967280 ∧ z.length ≤ 4294967280) ∧
  bif (mat (t.drop a) z).2 then Q (.exit 0) (saE t ((a + (mat (t.drop a) z).1 : Nat) : Int) .junk) [0] else Q .ret (saE t ((a + (mat (t.drop a) z).1 : Nat) : Int) (.d (.bool false))) [0]
theorem saT_ok : LoopOK Tryz.prog 1 none (loopB Tryz.prog 20 [true, false, true, false]) saT := by
  refine LoopOK.walk xLib_ok iLib_ok mixed [0, 3, 8, 9, 10] [0, 4] (L := fun _ => none) (fun p : List UInt8 × Nat × List UInt8 × Nat => saS p.1 p.2.1 p.2.2.1 p.2.2.2) (fun p => p.2.1 ≤ p.1.length ∧ p.1.length ≤ 4294967280 ∧ p.2.2.2 ≤ p.2.2.1.length ∧ p.2.2.1.length ≤ 4294967280) (fun p => p.2.2.1.length - p.2.2.2) saR ?_ ?_
  · intro p hp
    obtain ⟨t, a, s, i⟩ := p
    have ha : a ≤ t.length := hp.1
    have ht : t.length ≤ 4294967280 := hp.2.1
    have hi : i ≤ s.length := hp.2.2.1
    have hs : s.length ≤ 4294967280 := hp.2.2.2
    clear hp
    show roundP Tryz.prog xLib iLib 1 (fun _ => none) (loopB Tryz.prog 20 [true, false, true, false]) [0, 3, 8, 9, 10] [0, 4] (saS t a s i) _ _
    rw [← same_round]
    simp only [Bool.cond_decide, Bool.cond_not, Int.toNat_natCast]
    split
    · rename_i hlt
      have hlt' : i < s.length := by omega
      have hd : s.drop i = s.getD i 0 :: s.drop (i + 1) := drop_cons hlt' 0
      split
      · rename_i hat
        have : t.drop a = [] := List.drop_eq_nil_of_le (by omega)
        refine ⟨_, rfl, ?_⟩
        simp only [saR, this, hd, mat, cond_false]; exact ⟨trivial, rfl⟩
      · rename_i hat
        have hat' : a < t.length := by omega
        have hd2 : t.drop a = t.getD a 0 :: t.drop (a + 1) := drop_cons hat' 0
        refine ⟨⟨by omega, by omega⟩, ⟨by omega, hlt⟩, by simp, ?_⟩
        rw [wrap_in ((a : Int) + 1) (by omega) (by omega), wrap_in _ (by omega) (by omega), wrap_in ((i : Int) + 1) (by omega) (by omega)]
        split
        · rename_i he
          have he' : decide ((t.getD a 0).toNat = (s.getD i 0).toNat) = true := by simp only [decide_eq_true_eq]; omega
          refine ⟨⟨by omega, by omega⟩, (t, a + 1, s, i + 1), ?_, ⟨by simp only; omega, ht, by simp only; omega, hs⟩, by simp only; omega, fun e s' h => ?_⟩
          · simp only [saS, rd, Int.natCast_add, Int.cast_ofNat_Int]; rfl
          · simp only [saR] at h ⊢
            simp only [hd, hd2, mat, he', cond_true]
            have e2 : a + ((mat (t.drop (a + 1)) (s.drop (i + 1))).1 + 1) = a + 1 + (mat (t.drop (a + 1)) (s.drop (i + 1))).1 := by omega
            rw [e2]; exact h
        · rename_i he
          have he' : decide ((t.getD a 0).toNat = (s.getD i 0).toNat) = false := by simp only [decide_eq_false_iff_not]; omega
          refine ⟨_, rfl, ?_⟩
          simp only [saR, hd, hd2, mat, he', cond_false]; exact ⟨trivial, rfl⟩
    · rename_i hge
      refine ⟨_, rfl, ?_⟩
      have : s.drop i = [] := List.drop_eq_nil_of_le (by omega)
      simp only [saR, this, mat, cond_true]; exact ⟨trivial, rfl⟩
  · intro s W Q hT
    obtain ⟨t, a, z, h1, h2, h3⟩ := hT
    refine ⟨(t, a, z, 0), h1, ⟨h2.1, h2.2.1, Nat.zero_le _, h2.2.2⟩, fun e s' h => ⟨[0], ?_⟩⟩
    simp only [saR, List.drop_zero] at h
    cases hb : (mat (t.drop a) z).2 with
    | true => rw [hb] at h h3; obtain ⟨rfl, rfl⟩ := h; exact h3
    | false => rw [hb] at h h3; obtain ⟨rfl, rfl⟩ := h; exact h3
def lSa : FuncId → Nat → Option LoopT := fun f p => bif Nat.beq f 20 && Nat.beq p 26 then some saT else none
end Go.Proofs

namespace Go.Bv
theorem FOK2.imp {P : Program} {f : FuncId} {sp sp' : FSpec} (h : FOK2 P f sp) (hi : ∀ args H K, sp' args H K → sp args H K) : FOK2 P f sp' := fun args H K h' => h args H K (hi args H K h')
theorem wrap_u8 (n : Nat) (h : n < 256) : IntKind.u8.wrap (n : Int) = n := by
  simp [IntKind.wrap, IntKind.signed, IntKind.bits]; omega
theorem mat_le : ∀ (t s : List UInt8), (mat t s).1 ≤ t.length
  | _, [] => by simp [mat]
  | [], _ :: _ => by simp [mat]
  | x :: t, y :: s => by
    simp only [mat]
    cases decide (x.toNat = y.toNat) with
    | true => have := mat_le t s; simp only [cond_true, List.length_cons]; omega
    | false => simp

def dgL : List UInt8 → Nat → Nat → Nat × Nat
  | [], l, d => (0, l)
  | b :: r, l, d => bif decide (48 ≤ b.toNat) && decide (b.toNat ≤ 57) && (decide (d = 0) || decide (0 < l)) && decide (10 * l + (b.toNat - 48) ≤ 60) then
      ((dgL r (10 * l + (b.toNat - 48)) (d + 1)).1 + 1, (dgL r (10 * l + (b.toNat - 48)) (d + 1)).2) else (0, l)
theorem dgL_le : ∀ (t : List UInt8) (l d : Nat), (dgL t l d).1 ≤ t.length
  | [], l, d => by simp [dgL]
  | b :: r, l, d => by
    simp only [dgL]
    cases (decide (48 ≤ b.toNat) && decide (b.toNat ≤ 57) && (decide (d = 0) || decide (0 < l)) && decide (10 * l + (b.toNat - 48) ≤ 60)) with
    | true => have := dgL_le r (10 * l + (b.toNat - 48)) (d + 1); simp only [cond_true, List.length_cons]; omega
    | false => simp
theorem dgL_60 : ∀ (t : List UInt8) (l d : Nat), l ≤ 60 → (dgL t l d).2 ≤ 60
  | [], l, d, h => by simpa [dgL] using h
  | b :: r, l, d, h => by
    simp only [dgL]
    cases hc : (decide (48 ≤ b.toNat) && decide (b.toNat ≤ 57) && (decide (d = 0) || decide (0 < l)) && decide (10 * l + (b.toNat - 48) ≤ 60)) with
    | true =>
      simp only [Bool.and_eq_true, decide_eq_true_eq] at hc
      exact dgL_60 r _ _ hc.2
    | false => exact h
end Go.Bv
namespace Go.Proofs
open Go Go.Bv
theorem rsame_body (t : List UInt8) (a : Nat) (s : List UInt8) (K : Go.Bv.KC) : (Go.Bv.LoopOK Go.Proofs.Tryz.prog (List.length [Go.Bv.rd t (↑a : Int)]) Option.none (Go.Bv.loopB Go.Proofs.Tryz.prog (20 : Nat) [Bool.true, Bool.false, Bool.true, Bool.false]) Go.Proofs.saT ∧ ∃ (t_1 : List UInt8), ∃ (a_1 : Nat), ∃ (z : List UInt8), Option.some (Go.Bv.VS.mk [((0 : Nat), Go.Bv.V.ptr (0 : Nat) (0 : Nat)), ((3 : Nat), Go.Bv.V.ptr (1 : Nat) (0 : Nat)), ((8 : Nat), Go.Bv.V.d (Go.Bv.D.str s)), ((9 : Nat), Go.Bv.V.d (Go.Bv.D.int Go.IntKind.i64 (↑(List.length s) : Int))), ((10 : Nat), Go.Bv.V.d (Go.Bv.D.int Go.IntKind.i64 (0 : Int)))] [((0 : Nat), Go.Bv.Blk.box Bool.false [Go.Bv.V.d (Go.Bv.D.str t), Go.Bv.V.d (Go.Bv.D.int Go.IntKind.i64 (↑a : Int))]), ((1 : Nat), Go.Bv.Blk.box Bool.false [Go.Bv.V.d (Go.Bv.D.str s)])] (2 : Nat) [] (22 : Nat)) = Option.some (Go.Bv.VS.mk [((0 : Nat), Go.Bv.V.ptr (0 : Nat) (0 : Nat)), ((3 : Nat), Go.Bv.V.ptr (1 : Nat) (0 : Nat)), ((8 : Nat), Go.Bv.V.d (Go.Bv.D.str z)), ((9 : Nat), Go.Bv.V.d (Go.Bv.D.int Go.IntKind.i64 (↑(List.length z) : Int))), ((10 : Nat), Go.Bv.V.d (Go.Bv.D.int Go.IntKind.i64 (0 : Int)))] [((0 : Nat), Go.Bv.Blk.box Bool.false [Go.Bv.V.d (Go.Bv.D.str t_1), Go.Bv.V.d (Go.Bv.D.int Go.IntKind.i64 (↑a_1 : Int))]), ((1 : Nat), Go.Bv.Blk.box Bool.false [Go.Bv.V.d (Go.Bv.D.str z)])] (2 : Nat) [] (22 : Nat)) ∧ (a_1 ≤ List.length t_1 ∧ List.length t_1 ≤ (4294967280 : Nat) ∧ List.length z ≤ (4294967280 : Nat)) ∧ bif Prod.snd (Go.Bv.mat (List.drop a_1 t_1) z) then K (Go.Bv.V.d (Go.Bv.D.bool Bool.true)) [Go.Bv.Blk.box Bool.false [Go.Bv.V.d (Go.Bv.D.str t_1), Go.Bv.V.d (Go.Bv.D.int Go.IntKind.i64 (↑(a_1 + Prod.fst (Go.Bv.mat (List.drop a_1 t_1) z)) : Int))]] [(0 : Nat)] else K (Go.Bv.V.d (Go.Bv.D.bool Bool.false)) [Go.Bv.Blk.box Bool.false [Go.Bv.V.d (Go.Bv.D.str t_1), Go.Bv.V.d (Go.Bv.D.int Go.IntKind.i64 (↑(a_1 + Prod.fst (Go.Bv.mat (List.drop a_1 t_1) z)) : Int))]] [(0 : Nat)]) = (inlN Tryz.prog xLib lSa 4 20 [.ptr 0 0, .d (.str s)] [rd t a] K) := by kernel_rfl
def sameS : FSpec := fun args H K => match args, H with
  | [.ptr 0 0, .d (.str s)], [.box false [.d (.str t), .d (.int .i64 a)]] => (0 ≤ a ∧ a.toNat ≤ t.length ∧ t.length ≤ 4294967280 ∧ s.length ≤ 4294967280) ∧
      K (.d (.bool (mat (t.drop a.toNat) s).2)) [rd t ((a.toNat + (mat (t.drop a.toNat) s).1 : Nat) : Int)] [0]
  | _, _ => False
theorem sameS_ok : FOK2 Tryz.prog 20 sameS := by
  obtain ⟨sp, hsp⟩ : ∃ sp, sp = inlN Tryz.prog xLib lSa 4 20 := ⟨_, rfl⟩
  have hok : FOK2 Tryz.prog 20 sp := hsp ▸ inlN_ok (LL := lSa) xLib_ok mixed 4 20
  refine hok.imp fun args H K h => ?_
  unfold sameS at h
  split at h
  · rename_i s t a
    obtain ⟨⟨h0, h1, h2, h3⟩, h4⟩ := h
    obtain ⟨n, rfl⟩ : ∃ n : Nat, a = n := ⟨a.toNat, by omega⟩
    simp only [Int.toNat_natCast] at h1 h4
    rw [hsp]
    show inlN Tryz.prog xLib lSa 4 20 [.ptr 0 0, .d (.str s)] [rd t n] K
    rw [← rsame_body]
    refine ⟨saT_ok, t, n, s, rfl, ⟨h1, h2, h3⟩, ?_⟩
    cases hb : (mat (t.drop n) s).2 with
    | true => rw [hb] at h4; exact h4
    | false => rw [hb] at h4; exact h4
  · exact h.elim
def xSame : SX := fun f => bif Nat.beq f 20 then some sameS else xLib f
theorem xSame_ok : XOK Tryz.prog xSame := sx_cons sameS_ok xLib_ok

def lnS (t : List UInt8) (a l d : Int) : VS := stN 63 [(0, .ptr 0 0), (4, .ptr 1 0), (5, .ptr 2 0)] [rd t a, .box false [.d (.int .i64 l)], .box false [.d (.int .i64 d)]]
theorem line_round (t : List UInt8) (a : Nat) (l : Nat) (d : Nat) (Kn : Option Go.Bv.VS → Prop) (Ke : Go.Exit → Option Go.Bv.VS → Prop) : (bif Decidable.decide ((↑a : Int) = (↑(List.length t) : Int)) then Ke (Go.Exit.exit (0 : Nat)) (Option.some (Go.Bv.VS.mk [((0 : Nat), Go.Bv.V.ptr (0 : Nat) (0 : Nat)), ((4 : Nat), Go.Bv.V.ptr (1 : Nat) (0 : Nat)), ((5 : Nat), Go.Bv.V.ptr (2 : Nat) (0 : Nat))] [((0 : Nat), Go.Bv.Blk.box Bool.false [Go.Bv.V.d (Go.Bv.D.str t), Go.Bv.V.d (Go.Bv.D.int Go.IntKind.i64 (↑a : Int))]), ((1 : Nat), Go.Bv.Blk.box Bool.false [Go.Bv.V.d (Go.Bv.D.int Go.IntKind.i64 (↑l : Int))]), ((2 : Nat), Go.Bv.Blk.box Bool.false [Go.Bv.V.d (Go.Bv.D.int Go.IntKind.i64 (↑d : Int))])] (3 : Nat) [] (63 : Nat))) else ((0 : Int) ≤ (↑a : Int) ∧ (↑a : Int) < (↑(List.length t) : Int)) ∧ bif Decidable.decide ((48 : Int) ≤ (↑(UInt8.toNat (List.getD t (Int.toNat (↑a : Int)) (0 : UInt8))) : Int)) then bif Decidable.decide ((↑(UInt8.toNat (List.getD t (Int.toNat (↑a : Int)) (0 : UInt8))) : Int) ≤ (57 : Int)) then bif Decidable.decide ((↑d : Int) = (0 : Int)) then (Option.some (Go.Bv.Blk.box Bool.false [Go.Bv.V.d (Go.Bv.D.int Go.IntKind.i64 (↑d : Int))]) = Option.some (Go.Bv.Blk.box Bool.false [Go.Bv.V.d (Go.Bv.D.int Go.IntKind.i64 (↑d : Int))]) ∧ Option.some (Go.Bv.Blk.box Bool.false [Go.Bv.V.d (Go.Bv.D.int Go.IntKind.i64 (↑l : Int))]) = Option.some (Go.Bv.Blk.box Bool.false [Go.Bv.V.d (Go.Bv.D.int Go.IntKind.i64 (↑l : Int))]) ∧ True) ∧ bif !Decidable.decide (Go.IntKind.wrap Go.IntKind.i64 (Go.IntKind.wrap Go.IntKind.i64 ((10 : Int) * (↑l : Int)) + Go.IntKind.wrap Go.IntKind.i64 (Go.IntKind.wrap Go.IntKind.u8 ((↑(UInt8.toNat (List.getD t (Int.toNat (↑a : Int)) (0 : UInt8))) : Int) - (48 : Int)))) ≤ (60 : Int)) then Ke (Go.Exit.exit (0 : Nat)) (Option.some (Go.Bv.VS.mk [((0 : Nat), Go.Bv.V.ptr (0 : Nat) (0 : Nat)), ((4 : Nat), Go.Bv.V.ptr (1 : Nat) (0 : Nat)), ((5 : Nat), Go.Bv.V.ptr (2 : Nat) (0 : Nat))] [((0 : Nat), Go.Bv.Blk.box Bool.false [Go.Bv.V.d (Go.Bv.D.str t), Go.Bv.V.d (Go.Bv.D.int Go.IntKind.i64 (↑a : Int))]), ((1 : Nat), Go.Bv.Blk.box Bool.false [Go.Bv.V.d (Go.Bv.D.int Go.IntKind.i64 (↑l : Int))]), ((2 : Nat), Go.Bv.Blk.box Bool.false [Go.Bv.V.d (Go.Bv.D.int Go.IntKind.i64 (↑d : Int))])] (3 : Nat) [] (63 : Nat))) else ((0 : Int) ≤ Go.IntKind.wrap Go.IntKind.i64 (Go.IntKind.wrap Go.IntKind.i64 ((↑a : Int) + (1 : Int)) - (1 : Int)) ∧ Go.IntKind.wrap Go.IntKind.i64 (Go.IntKind.wrap Go.IntKind.i64 ((↑a : Int) + (1 : Int)) - (1 : Int)) < (↑(List.length t) : Int)) ∧ Kn (Option.some (Go.Bv.VS.mk [((0 : Nat), Go.Bv.V.ptr (0 : Nat) (0 : Nat)), ((4 : Nat), Go.Bv.V.ptr (1 : Nat) (0 : Nat)), ((5 : Nat), Go.Bv.V.ptr (2 : Nat) (0 : Nat))] [((0 : Nat), Go.Bv.Blk.box Bool.false [Go.Bv.V.d (Go.Bv.D.str t), Go.Bv.V.d (Go.Bv.D.int Go.IntKind.i64 (Go.IntKind.wrap Go.IntKind.i64 ((↑a : Int) + (1 : Int))))]), ((1 : Nat), Go.Bv.Blk.box Bool.false [Go.Bv.V.d (Go.Bv.D.int Go.IntKind.i64 (Go.IntKind.wrap Go.IntKind.i64 (Go.IntKind.wrap Go.IntKind.i64 ((10 : Int) * (↑l : Int)) + Go.IntKind.wrap Go.IntKind.i64 (Go.IntKind.wrap Go.IntKind.u8 ((↑(UInt8.toNat (List.getD t (Int.toNat (Go.IntKind.wrap Go.IntKind.i64 (Go.IntKind.wrap Go.IntKind.i64 ((↑a : Int) + (1 : Int)) - (1 : Int)))) (0 : UInt8))) : Int) - (48 : Int))))))]), ((2 : Nat), Go.Bv.Blk.box Bool.false [Go.Bv.V.d (Go.Bv.D.int Go.IntKind.i64 (Go.IntKind.wrap Go.IntKind.i64 ((↑d : Int) + (1 : Int))))])] (3 : Nat) [] (63 : Nat))) else bif Decidable.decide ((0 : Int) < (↑l : Int)) then (Option.some (Go.Bv.Blk.box Bool.false [Go.Bv.V.d (Go.Bv.D.int Go.IntKind.i64 (↑d : Int))]) = Option.some (Go.Bv.Blk.box Bool.false [Go.Bv.V.d (Go.Bv.D.int Go.IntKind.i64 (↑d : Int))]) ∧ Option.some (Go.Bv.Blk.box Bool.false [Go.Bv.V.d (Go.Bv.D.int Go.IntKind.i64 (↑l : Int))]) = Option.some (Go.Bv.Blk.box Bool.false [Go.Bv.V.d (Go.Bv.D.int Go.IntKind.i64 (↑l : Int))]) ∧ True) ∧ bif !Decidable.decide (Go.IntKind.wrap Go.IntKind.i64 (Go.IntKind.wrap Go.IntKind.i64 ((10 : Int) * (↑l : Int)) + Go.IntKind.wrap Go.IntKind.i64 (Go.IntKind.wrap Go.IntKind.u8 ((↑(UInt8.toNat (List.getD t (Int.toNat (↑a : Int)) (0 : UInt8))) : Int) - (48 : Int)))) ≤ (60 : Int)) then Ke (Go.Exit.exit (0 : Nat)) (Option.some (Go.Bv.VS.mk [((0 : Nat), Go.Bv.V.ptr (0 : Nat) (0 : Nat)), ((4 : Nat), Go.Bv.V.ptr (1 : Nat) (0 : Nat)), ((5 : Nat), Go.Bv.V.ptr (2 : Nat) (0 : Nat))] [((0 : Nat), Go.Bv.Blk.box Bool.false [Go.Bv.V.d (Go.Bv.D.str t), Go.Bv.V.d (Go.Bv.D.int Go.IntKind.i64 (↑a : Int))]), ((1 : Nat), Go.Bv.Blk.box Bool.false [Go.Bv.V.d (Go.Bv.D.int Go.IntKind.i64 (↑l : Int))]), ((2 : Nat), Go.Bv.Blk.box Bool.false [Go.Bv.V.d (Go.Bv.D.int Go.IntKind.i64 (↑d : Int))])] (3 : Nat) [] (63 : Nat))) else ((0 : Int) ≤ Go.IntKind.wrap Go.IntKind.i64 (Go.IntKind.wrap Go.IntKind.i64 ((↑a : Int) + (1 : Int)) - (1 : Int)) ∧ Go.IntKind.wrap Go.IntKind.i64 (Go.IntKind.wrap Go.IntKind.i64 ((↑a : Int) + (1 : Int)) - (1 : Int)) < (↑(List.length t) : Int)) ∧ Kn (Option.some (Go.Bv.VS.mk [((0 : Nat), Go.Bv.V.ptr (0 : Nat) (0 : Nat)), ((4 : Nat), Go.Bv.V.ptr (1 : Nat) (0 : Nat)), ((5 : Nat), Go.Bv.V.ptr (2 : Nat) (0 : Nat))] [((0 : Nat), Go.Bv.Blk.box Bool.false [Go.Bv.V.d (Go.Bv.D.str t), Go.Bv.V.d (Go.Bv.D.int Go.IntKind.i64 (Go.IntKind.wrap Go.IntKind.i64 ((↑a : Int) + (1 : Int))))]), ((1 : Nat), Go.Bv.Blk.box Bool.false [Go.Bv.V.d (Go.Bv.D.int Go.IntKind.i64 (Go.IntKind.wrap Go.IntKind.i64 (Go.IntKind.wrap Go.IntKind.i64 ((10 : Int) * (↑l : Int)) + Go.IntKind.wrap Go.IntKind.i64 (Go.IntKind.wrap Go.IntKind.u8 ((↑(UInt8.toNat (List.getD t (Int.toNat (Go.IntKind.wrap Go.IntKind.i64 (Go.IntKind.wrap Go.IntKind.i64 ((↑a : Int) + (1 : Int)) - (1 : Int)))) (0 : UInt8))) : Int) - (48 : Int))))))]), ((2 : Nat), Go.Bv.Blk.box Bool.false [Go.Bv.V.d (Go.Bv.D.int Go.IntKind.i64 (Go.IntKind.wrap Go.IntKind.i64 ((↑d : Int) + (1 : Int))))])] (3 : Nat) [] (63 : Nat))) else (Option.some (Go.Bv.Blk.box Bool.false [Go.Bv.V.d (Go.Bv.D.int Go.IntKind.i64 (↑d : Int))]) = Option.some (Go.Bv.Blk.box Bool.false [Go.Bv.V.d (Go.Bv.D.int Go.IntKind.i64 (↑d : Int))]) ∧ Option.some (Go.Bv.Blk.box Bool.false [Go.Bv.V.d (Go.Bv.D.int Go.IntKind.i64 (↑l : Int))]) = Option.some (Go.Bv.Blk.box Bool.false [Go.Bv.V.d (Go.Bv.D.int Go.IntKind.i64 (↑l : Int))]) ∧ True) ∧ Ke (Go.Exit.exit (0 : Nat)) (Option.some (Go.Bv.VS.mk [((0 : Nat), Go.Bv.V.ptr (0 : Nat) (0 : Nat)), ((4 : Nat), Go.Bv.V.ptr (1 : Nat) (0 : Nat)), ((5 : Nat), Go.Bv.V.ptr (2 : Nat) (0 : Nat))] [((0 : Nat), Go.Bv.Blk.box Bool.false [Go.Bv.V.d (Go.Bv.D.str t), Go.Bv.V.d (Go.Bv.D.int Go.IntKind.i64 (↑a : Int))]), ((1 : Nat), Go.Bv.Blk.box Bool.false [Go.Bv.V.d (Go.Bv.D.int Go.IntKind.i64 (↑l : Int))]), ((2 : Nat), Go.Bv.Blk.box Bool.false [Go.Bv.V.d (Go.Bv.D.int Go.IntKind.i64 (↑d : Int))])] (3 : Nat) [] (63 : Nat))) else (Option.some (Go.Bv.Blk.box Bool.false [Go.Bv.V.d (Go.Bv.D.int Go.IntKind.i64 (↑d : Int))]) = Option.some (Go.Bv.Blk.box Bool.false [Go.Bv.V.d (Go.Bv.D.int Go.IntKind.i64 (↑d : Int))]) ∧ Option.some (Go.Bv.Blk.box Bool.false [Go.Bv.V.d (Go.Bv.D.int Go.IntKind.i64 (↑l : Int))]) = Option.some (Go.Bv.Blk.box Bool.false [Go.Bv.V.d (Go.Bv.D.int Go.IntKind.i64 (↑l : Int))]) ∧ True) ∧ Ke (Go.Exit.exit (0 : Nat)) (Option.some (Go.Bv.VS.mk [((0 : Nat), Go.Bv.V.ptr (0 : Nat) (0 : Nat)), ((4 : Nat), Go.Bv.V.ptr (1 : Nat) (0 : Nat)), ((5 : Nat), Go.Bv.V.ptr (2 : Nat) (0 : Nat))] [((0 : Nat), Go.Bv.Blk.box Bool.false [Go.Bv.V.d (Go.Bv.D.str t), Go.Bv.V.d (Go.Bv.D.int Go.IntKind.i64 (↑a : Int))]), ((1 : Nat), Go.Bv.Blk.box Bool.false [Go.Bv.V.d (Go.Bv.D.int Go.IntKind.i64 (↑l : Int))]), ((2 : Nat), Go.Bv.Blk.box Bool.false [Go.Bv.V.d (Go.Bv.D.int Go.IntKind.i64 (↑d : Int))])] (3 : Nat) [] (63 : Nat))) else (Option.some (Go.Bv.Blk.box Bool.false [Go.Bv.V.d (Go.Bv.D.int Go.IntKind.i64 (↑d : Int))]) = Option.some (Go.Bv.Blk.box Bool.false [Go.Bv.V.d (Go.Bv.D.int Go.IntKind.i64 (↑d : Int))]) ∧ Option.some (Go.Bv.Blk.box Bool.false [Go.Bv.V.d (Go.Bv.D.int Go.IntKind.i64 (↑l : Int))]) = Option.some (Go.Bv.Blk.box Bool.false [Go.Bv.V.d (Go.Bv.D.int Go.IntKind.i64 (↑l : Int))]) ∧ True) ∧ Ke (Go.Exit.exit (0 : Nat)) (Option.some (Go.Bv.VS.mk [((0 : Nat), Go.Bv.V.ptr (0 : Nat) (0 : Nat)), ((4 : Nat), Go.Bv.V.ptr (1 : Nat) (0 : Nat)), ((5 : Nat), Go.Bv.V.ptr (2 : Nat) (0 : Nat))] [((0 : Nat), Go.Bv.Blk.box Bool.false [Go.Bv.V.d (Go.Bv.D.str t), Go.Bv.V.d (Go.Bv.D.int Go.IntKind.i64 (↑a : Int))]), ((1 : Nat), Go.Bv.Blk.box Bool.false [Go.Bv.V.d (Go.Bv.D.int Go.IntKind.i64 (↑l : Int))]), ((2 : Nat), Go.Bv.Blk.box Bool.false [Go.Bv.V.d (Go.Bv.D.int Go.IntKind.i64 (↑d : Int))])] (3 : Nat) [] (63 : Nat)))) = (roundP Tryz.prog xLib iLib 1 (fun _ => none) (loopB Tryz.prog 19 [true, true, false, false]) [0, 4, 5] [0, 4, 5] (lnS t a l d) Kn Ke) := by kernel_rfl
def lnR (p : List UInt8 × Nat × Nat × Nat) (e : Exit) (s' : VS) : Prop :=
  e = .exit 0 ∧ s' = lnS p.1 ((p.2.1 + (dgL (p.1.drop p.2.1) p.2.2.1 p.2.2.2).1 : Nat) : Int) ((dgL (p.1.drop p.2.1) p.2.2.1 p.2.2.2).2 : Nat) ((p.2.2.2 + (dgL (p.1.drop p.2.1) p.2.2.1 p.2.2.2).1 : Nat) : Int)
def lnT : LoopT := fun s W Q => ∃ (t : List UInt8) (a : Nat), canonN 1 [0, 4, 5] s = some (lnS t a 0 0) ∧ (a ≤ t.length ∧ t.length ≤ 4294967280) ∧
  Q (.exit 0) (lnS t ((a + (dgL (t.drop a) 0 0).1 : Nat) : Int) ((dgL (t.drop a) 0 0).2 : Nat) ((dgL (t.drop a) 0 0).1 : Nat)) [0]
theorem lnT_ok : LoopOK Tryz.prog 1 none (loopB Tryz.prog 19 [true, true, false, false]) lnT := by
  refine LoopOK.walk xLib_ok iLib_ok mixed [0, 4, 5] [0, 4, 5] (L := fun _ => none) (fun p : List UInt8 × Nat × Nat × Nat => lnS p.1 p.2.1 p.2.2.1 p.2.2.2) (fun p => p.2.1 ≤ p.1.length ∧ p.1.length ≤ 4294967280 ∧ p.2.2.1 ≤ 60 ∧ p.2.2.2 ≤ p.2.1) (fun p => p.1.length - p.2.1) lnR ?_ ?_
  · intro p hp
    obtain ⟨t, a, l, d⟩ := p
    have ha : a ≤ t.length := hp.1
    have ht : t.length ≤ 4294967280 := hp.2.1
    have hl : l ≤ 60 := hp.2.2.1
    have hd : d ≤ a := hp.2.2.2
    clear hp
    show roundP Tryz.prog xLib iLib 1 (fun _ => none) (loopB Tryz.prog 19 [true, true, false, false]) [0, 4, 5] [0, 4, 5] (lnS t a l d) _ _
    rw [← line_round]
    have stop : t.drop a = [] ∨ (∃ r, t.drop a = t.getD a 0 :: r ∧ (decide (48 ≤ (t.getD a 0).toNat) && decide ((t.getD a 0).toNat ≤ 57) && (decide (d = 0) || decide (0 < l)) && decide (10 * l + ((t.getD a 0).toNat - 48) ≤ 60)) = false) →
        lnR (t, a, l, d) (.exit 0) (lnS t a l d) := by
      intro h
      have : dgL (t.drop a) l d = (0, l) := by
        rcases h with h | ⟨r, h, h2⟩
        · rw [h]; rfl
        · rw [h]; simp only [dgL, h2, cond_false]
      simp only [lnR, this]; exact ⟨trivial, rfl⟩
    by_cases hat : a = t.length
    · have : t.drop a = [] := List.drop_eq_nil_of_le (by omega)
      have e : decide ((a : Int) = (t.length : Int)) = true := by simp [hat]
      rw [e]
      exact ⟨_, rfl, stop (.inl this)⟩
    · have e : decide ((a : Int) = (t.length : Int)) = false := by simp; omega
      have hat' : a < t.length := by omega
      have hd2 : t.drop a = t.getD a 0 :: t.drop (a + 1) := drop_cons hat' 0
      have hb : (t.getD a 0).toNat < 256 := UInt8.toNat_lt _
      rw [e]
      have w1 : IntKind.i64.wrap (IntKind.i64.wrap ((a : Int) + 1) - 1) = a := by rw [wrap_in ((a : Int) + 1) (by omega) (by omega), wrap_in _ (by omega) (by omega)]; omega
      rw [w1]
      simp only [Int.toNat_natCast]
      refine ⟨⟨by omega, by omega⟩, ?_⟩
      have go : 48 ≤ (t.getD a 0).toNat → (t.getD a 0).toNat ≤ 57 → (d = 0 ∨ 0 < l) →
          bif !decide (IntKind.i64.wrap (IntKind.i64.wrap (10 * (l : Int)) + IntKind.i64.wrap (IntKind.u8.wrap (((t.getD a 0).toNat : Int) - 48))) ≤ 60) then
            (∃ s2, some (lnS t a l d) = some s2 ∧ lnR (t, a, l, d) (.exit 0) s2)
          else ((0 : Int) ≤ a ∧ (a : Int) < t.length) ∧ ∃ j : List UInt8 × Nat × Nat × Nat, some (lnS t (IntKind.i64.wrap ((a : Int) + 1)) (IntKind.i64.wrap (IntKind.i64.wrap (10 * (l : Int)) + IntKind.i64.wrap (IntKind.u8.wrap (((t.getD a 0).toNat : Int) - 48)))) (IntKind.i64.wrap ((d : Int) + 1))) = some (lnS j.1 j.2.1 j.2.2.1 j.2.2.2) ∧
            (j.2.1 ≤ j.1.length ∧ j.1.length ≤ 4294967280 ∧ j.2.2.1 ≤ 60 ∧ j.2.2.2 ≤ j.2.1) ∧ j.1.length - j.2.1 < t.length - a ∧ ∀ e s', lnR j e s' → lnR (t, a, l, d) e s' := by
        intro h48 h57 hdl
        have u1 : ((t.getD a 0).toNat : Int) - 48 = (((t.getD a 0).toNat - 48 : Nat) : Int) := by omega
        have w2 : IntKind.i64.wrap (IntKind.i64.wrap (10 * (l : Int)) + IntKind.i64.wrap (IntKind.u8.wrap (((t.getD a 0).toNat : Int) - 48))) = ((10 * l + ((t.getD a 0).toNat - 48) : Nat) : Int) := by
          rw [u1, wrap_u8 _ (by omega), wrap_in (10 * (l : Int)) (by omega) (by omega), wrap_in (((t.getD a 0).toNat - 48 : Nat) : Int) (by omega) (by omega), wrap_in _ (by omega) (by omega)]; omega
        rw [w2, wrap_in ((a : Int) + 1) (by omega) (by omega), wrap_in ((d : Int) + 1) (by omega) (by omega)]
        have hc : (decide (48 ≤ (t.getD a 0).toNat) && decide ((t.getD a 0).toNat ≤ 57) && (decide (d = 0) || decide (0 < l))) = true := by simp only [h48, h57, decide_true, Bool.true_and, Bool.or_eq_true, decide_eq_true_eq]; exact hdl
        cases hle : decide (((10 * l + ((t.getD a 0).toNat - 48) : Nat) : Int) ≤ 60) with
        | false =>
          have hle' : decide (10 * l + ((t.getD a 0).toNat - 48) ≤ 60) = false := by simp only [decide_eq_false_iff_not] at hle ⊢; omega
          exact ⟨_, rfl, stop (.inr ⟨_, hd2, by rw [hc, hle', Bool.and_false]⟩)⟩
        | true =>
          have hle' : decide (10 * l + ((t.getD a 0).toNat - 48) ≤ 60) = true := by simp only [decide_eq_true_eq] at hle ⊢; omega
          have hle2 : 10 * l + ((t.getD a 0).toNat - 48) ≤ 60 := by simpa using hle'
          refine ⟨⟨by omega, by omega⟩, (t, a + 1, 10 * l + ((t.getD a 0).toNat - 48), d + 1), ?_, ⟨by simp only; omega, ht, hle2, by simp only; omega⟩, by simp only; omega, fun e s' h => ?_⟩
          · simp only [Int.natCast_add, Int.cast_ofNat_Int]
          · simp only [lnR] at h ⊢
            simp only [hd2, dgL, hc, hle', Bool.true_and, cond_true]
            have e2 : a + ((dgL (t.drop (a + 1)) (10 * l + ((t.getD a 0).toNat - 48)) (d + 1)).1 + 1) = a + 1 + (dgL (t.drop (a + 1)) (10 * l + ((t.getD a 0).toNat - 48)) (d + 1)).1 := by omega
            have e3 : d + ((dgL (t.drop (a + 1)) (10 * l + ((t.getD a 0).toNat - 48)) (d + 1)).1 + 1) = d + 1 + (dgL (t.drop (a + 1)) (10 * l + ((t.getD a 0).toNat - 48)) (d + 1)).1 := by omega
            rw [e2, e3]; exact h
      cases h48 : decide ((48 : Int) ≤ ((t.getD a 0).toNat : Int)) with
      | false =>
        have : decide (48 ≤ (t.getD a 0).toNat) = false := by simp only [decide_eq_false_iff_not] at h48 ⊢; omega
        have k := stop (.inr ⟨_, hd2, by rw [this]; rfl⟩)
        simp only [cond_false]
        exact ⟨by simp, _, rfl, k⟩
      | true =>
        cases h57 : decide (((t.getD a 0).toNat : Int) ≤ 57) with
        | false =>
          have : decide ((t.getD a 0).toNat ≤ 57) = false := by simp only [decide_eq_false_iff_not] at h57 ⊢; omega
          have k := stop (.inr ⟨_, hd2, by rw [this]; simp⟩)
          simp only [cond_false, cond_true]
          exact ⟨by simp, _, rfl, k⟩
        | true =>
          simp only [decide_eq_true_eq] at h48 h57
          cases h0 : decide ((d : Int) = 0) with
          | true =>
            simp only [decide_eq_true_eq] at h0
            simp only [cond_true]
            exact ⟨by simp, go (by omega) (by omega) (.inl (by omega))⟩
          | false =>
            cases h1 : decide ((0 : Int) < (l : Int)) with
            | true =>
              simp only [decide_eq_true_eq] at h1
              simp only [cond_true, cond_false]
              exact ⟨by simp, go (by omega) (by omega) (.inr (by omega))⟩
            | false =>
              simp only [decide_eq_false_iff_not] at h0 h1
              have e1 : decide (d = 0) = false := by simp only [decide_eq_false_iff_not]; omega
              have e2 : decide (0 < l) = false := by simp only [decide_eq_false_iff_not]; omega
              have k := stop (.inr ⟨_, hd2, by rw [e1, e2]; simp⟩)
              simp only [cond_true, cond_false]
              exact ⟨by simp, _, rfl, k⟩
  · intro s W Q hT
    obtain ⟨t, a, h1, h2, h3⟩ := hT
    refine ⟨(t, a, 0, 0), h1, ⟨h2.1, h2.2, Nat.zero_le _, Nat.zero_le _⟩, fun e s' h => ⟨[0], ?_⟩⟩
    simp only [lnR, Nat.zero_add] at h
    obtain ⟨rfl, rfl⟩ := h
    exact h3
end Go.Proofs

namespace Go.Bv

def prL : List UInt8 → Nat → Nat × Bool
  | _, 0 => (0, true)
  | [], _ + 1 => (0, false)
  | x :: t, n + 1 => bif prB x then ((prL t n).1 + 1, (prL t n).2) else (0, false)
theorem prL_le : ∀ (t : List UInt8) (n : Nat), (prL t n).1 ≤ t.length
  | t, 0 => by simp [prL]
  | [], n + 1 => by simp [prL]
  | x :: t, n + 1 => by
    simp only [prL]
    cases prB x with
    | true => have := prL_le t n; simp only [cond_true, List.length_cons]; omega
    | false => simp
end Go.Bv
namespace Go.Proofs
open Go Go.Bv
def prS (t : List UInt8) (a b n i : Int) : VS := stN 63 [(0, .ptr 0 0), (8, .d (.int .i64 b)), (39, .d (.int .i64 n)), (40, .d (.int .i64 i))] [rd t a]
def prE (t : List UInt8) (a b : Int) (v v2 : V) : VS := stN 63 [(0, .ptr 0 0), (8, .d (.int .i64 b)), (2, v), (3, v2)] [rd t a]
theorem print_round (t : List UInt8) (a : Nat) (b : Nat) (n : Nat) (i : Nat) (Kn : Option Go.Bv.VS → Prop) (Ke : Go.Exit → Option Go.Bv.VS → Prop) : (bif Decidable.decide ((↑i : Int) < (↑n : Int)) then bif Decidable.decide ((↑a : Int) = (↑(List.length t) : Int)) then Ke Go.Exit.ret (Option.some (Go.Bv.VS.mk [((0 : Nat), Go.Bv.V.ptr (0 : Nat) (0 : Nat)), ((8 : Nat), Go.Bv.V.d (Go.Bv.D.int Go.IntKind.i64 (↑b : Int))), ((2 : Nat), Go.Bv.V.d (Go.Bv.D.str [])), ((3 : Nat), Go.Bv.V.d (Go.Bv.D.bool Bool.false))] [((0 : Nat), Go.Bv.Blk.box Bool.false [Go.Bv.V.d (Go.Bv.D.str t), Go.Bv.V.d (Go.Bv.D.int Go.IntKind.i64 (↑a : Int))])] (1 : Nat) [] (63 : Nat))) else ((0 : Int) ≤ (↑a : Int) ∧ (↑a : Int) < (↑(List.length t) : Int)) ∧ bif Decidable.decide ((32 : Int) ≤ (↑(UInt8.toNat (List.getD t (Int.toNat (↑a : Int)) (0 : UInt8))) : Int)) then True ∧ bif !Decidable.decide ((↑(UInt8.toNat (List.getD t (Int.toNat (↑a : Int)) (0 : UInt8))) : Int) ≤ (126 : Int)) then Ke Go.Exit.ret (Option.some (Go.Bv.VS.mk [((0 : Nat), Go.Bv.V.ptr (0 : Nat) (0 : Nat)), ((8 : Nat), Go.Bv.V.d (Go.Bv.D.int Go.IntKind.i64 (↑b : Int))), ((2 : Nat), Go.Bv.V.d (Go.Bv.D.str [])), ((3 : Nat), Go.Bv.V.d (Go.Bv.D.bool Bool.false))] [((0 : Nat), Go.Bv.Blk.box Bool.false [Go.Bv.V.d (Go.Bv.D.str t), Go.Bv.V.d (Go.Bv.D.int Go.IntKind.i64 (↑a : Int))])] (1 : Nat) [] (63 : Nat))) else ((0 : Int) ≤ Go.IntKind.wrap Go.IntKind.i64 (Go.IntKind.wrap Go.IntKind.i64 ((↑a : Int) + (1 : Int)) - (1 : Int)) ∧ Go.IntKind.wrap Go.IntKind.i64 (Go.IntKind.wrap Go.IntKind.i64 ((↑a : Int) + (1 : Int)) - (1 : Int)) < (↑(List.length t) : Int)) ∧ Kn (Option.some (Go.Bv.VS.mk [((0 : Nat), Go.Bv.V.ptr (0 : Nat) (0 : Nat)), ((8 : Nat), Go.Bv.V.d (Go.Bv.D.int Go.IntKind.i64 (↑b : Int))), ((39 : Nat), Go.Bv.V.d (Go.Bv.D.int Go.IntKind.i64 (↑n : Int))), ((40 : Nat), Go.Bv.V.d (Go.Bv.D.int Go.IntKind.i64 (Go.IntKind.wrap Go.IntKind.i64 ((↑i : Int) + (1 : Int)))))] [((0 : Nat), Go.Bv.Blk.box Bool.false [Go.Bv.V.d (Go.Bv.D.str t), Go.Bv.V.d (Go.Bv.D.int Go.IntKind.i64 (Go.IntKind.wrap Go.IntKind.i64 ((↑a : Int) + (1 : Int))))])] (1 : Nat) [] (63 : Nat))) else True ∧ Ke Go.Exit.ret (Option.some (Go.Bv.VS.mk [((0 : Nat), Go.Bv.V.ptr (0 : Nat) (0 : Nat)), ((8 : Nat), Go.Bv.V.d (Go.Bv.D.int Go.IntKind.i64 (↑b : Int))), ((2 : Nat), Go.Bv.V.d (Go.Bv.D.str [])), ((3 : Nat), Go.Bv.V.d (Go.Bv.D.bool Bool.false))] [((0 : Nat), Go.Bv.Blk.box Bool.false [Go.Bv.V.d (Go.Bv.D.str t), Go.Bv.V.d (Go.Bv.D.int Go.IntKind.i64 (↑a : Int))])] (1 : Nat) [] (63 : Nat))) else Ke (Go.Exit.exit (2 : Nat)) (Option.some (Go.Bv.VS.mk [((0 : Nat), Go.Bv.V.ptr (0 : Nat) (0 : Nat)), ((8 : Nat), Go.Bv.V.d (Go.Bv.D.int Go.IntKind.i64 (↑b : Int))), ((2 : Nat), Go.Bv.V.junk), ((3 : Nat), Go.Bv.V.junk)] [((0 : Nat), Go.Bv.Blk.box Bool.false [Go.Bv.V.d (Go.Bv.D.str t), Go.Bv.V.d (Go.Bv.D.int Go.IntKind.i64 (↑a : Int))])] (1 : Nat) [] (63 : Nat)))) = (roundP Tryz.prog xLib iLib 1 (fun _ => none) (loopB Tryz.prog 19 [true, true, true, true, true, false, true, false]) [0, 8, 39, 40] [0, 8, 2, 3] (prS t a b n i) Kn Ke) := by kernel_rfl
def prR (p : List UInt8 × Nat × Nat × Nat × Nat) (e : Exit) (s' : VS) : Prop :=
  bif (prL (p.1.drop p.2.1) (p.2.2.2.1 - p.2.2.2.2)).2 then e = .exit 2 ∧ s' = prE p.1 ((p.2.1 + (prL (p.1.drop p.2.1) (p.2.2.2.1 - p.2.2.2.2)).1 : Nat) : Int) p.2.2.1 .junk .junk
  else e = .ret ∧ s' = prE p.1 ((p.2.1 + (prL (p.1.drop p.2.1) (p.2.2.2.1 - p.2.2.2.2)).1 : Nat) : Int) p.2.2.1 (.d (.str [])) (.d (.bool false))
def prT : LoopT := fun s W Q => ∃ (t : List UInt8) (a b n : Nat), canonN 1 [0, 8, 39, 40] s = some (prS t a b n 0) ∧ (a ≤ t.length ∧ t.length ≤ 4294967280 ∧ n ≤ 60) ∧
  bif (prL (t.drop a) n).2 then Q (.exit 2) (prE t ((a + (prL (t.drop a) n).1 : Nat) : Int) b .junk .junk) [0] else Q .ret (prE t ((a + (prL (t.drop a) n).1 : Nat) : Int) b (.d (.str [])) (.d (.bool false))) [0]
theorem prT_ok : LoopOK Tryz.prog 1 none (loopB Tryz.prog 19 [true, true, true, true, true, false, true, false]) prT := by
  refine LoopOK.walk xLib_ok iLib_ok mixed [0, 8, 39, 40] [0, 8, 2, 3] (L := fun _ => none) (fun p : List UInt8 × Nat × Nat × Nat × Nat => prS p.1 p.2.1 p.2.2.1 p.2.2.2.1 p.2.2.2.2) (fun p => p.2.1 ≤ p.1.length ∧ p.1.length ≤ 4294967280 ∧ p.2.2.2.2 ≤ p.2.2.2.1 ∧ p.2.2.2.1 ≤ 60) (fun p => p.2.2.2.1 - p.2.2.2.2) prR ?_ ?_
  · intro p hp
    obtain ⟨t, a, b, n, i⟩ := p
    have ha : a ≤ t.length := hp.1
    have ht : t.length ≤ 4294967280 := hp.2.1
    have hi : i ≤ n := hp.2.2.1
    have hn : n ≤ 60 := hp.2.2.2
    clear hp
    show roundP Tryz.prog xLib iLib 1 (fun _ => none) (loopB Tryz.prog 19 [true, true, true, true, true, false, true, false]) [0, 8, 39, 40] [0, 8, 2, 3] (prS t a b n i) _ _
    rw [← print_round]
    have hbad : i < n → (t.drop a = [] ∨ (∃ r, t.drop a = t.getD a 0 :: r ∧ prB (t.getD a 0) = false)) → prR (t, a, b, n, i) .ret (prE t a b (.d (.str [])) (.d (.bool false))) := by
      intro hlt h
      obtain ⟨k, hk⟩ : ∃ k, n - i = k + 1 := ⟨n - i - 1, by omega⟩
      have : prL (t.drop a) (n - i) = (0, false) := by
        rw [hk]
        rcases h with h | ⟨r, h, h2⟩
        · rw [h]; rfl
        · rw [h]; simp only [prL, h2, cond_false]
      simp only [prR, this]; exact ⟨trivial, rfl⟩
    by_cases hlt : i < n
    · have e0 : decide ((i : Int) < (n : Int)) = true := by simp only [decide_eq_true_eq]; omega
      rw [e0]
      by_cases hat : a = t.length
      · have : t.drop a = [] := List.drop_eq_nil_of_le (by omega)
        have e : decide ((a : Int) = (t.length : Int)) = true := by simp [hat]
        rw [e]
        exact ⟨_, rfl, hbad hlt (.inl this)⟩
      · have e : decide ((a : Int) = (t.length : Int)) = false := by simp; omega
        have hat' : a < t.length := by omega
        have hd2 : t.drop a = t.getD a 0 :: t.drop (a + 1) := drop_cons hat' 0
        have hb : (t.getD a 0).toNat < 256 := UInt8.toNat_lt _
        rw [e]
        have w1 : IntKind.i64.wrap (IntKind.i64.wrap ((a : Int) + 1) - 1) = a := by rw [wrap_in ((a : Int) + 1) (by omega) (by omega), wrap_in _ (by omega) (by omega)]; omega
        rw [w1]
        simp only [Int.toNat_natCast]
        refine ⟨⟨by omega, by omega⟩, ?_⟩
        cases h32 : decide ((32 : Int) ≤ ((t.getD a 0).toNat : Int)) with
        | false =>
          simp only [decide_eq_false_iff_not] at h32
          have hp : prB (t.getD a 0) = false := by simp only [prB, decide_eq_false_iff_not]; omega
          exact ⟨trivial, _, rfl, hbad hlt (.inr ⟨_, hd2, hp⟩)⟩
        | true =>
          refine ⟨trivial, ?_⟩
          cases h126 : decide (((t.getD a 0).toNat : Int) ≤ 126) with
          | false =>
            simp only [decide_eq_false_iff_not] at h126
            have hp : prB (t.getD a 0) = false := by simp only [prB, decide_eq_false_iff_not]; omega
            exact ⟨_, rfl, hbad hlt (.inr ⟨_, hd2, hp⟩)⟩
          | true =>
            simp only [decide_eq_true_eq] at h32 h126
            have hp : prB (t.getD a 0) = true := by simp only [prB, decide_eq_true_eq]; omega
            rw [wrap_in ((a : Int) + 1) (by omega) (by omega), wrap_in ((i : Int) + 1) (by omega) (by omega)]
            refine ⟨⟨by omega, by omega⟩, (t, a + 1, b, n, i + 1), ?_, ⟨by simp only; omega, ht, by simp only; omega, hn⟩, by simp only; omega, fun e s' h => ?_⟩
            · simp only [prS, rd, Int.natCast_add, Int.cast_ofNat_Int]; rfl
            · simp only [prR] at h ⊢
              have hk : n - i = (n - (i + 1)) + 1 := by omega
              rw [hk]
              simp only [hd2, prL, hp, cond_true]
              have e2 : a + ((prL (t.drop (a + 1)) (n - (i + 1))).1 + 1) = a + 1 + (prL (t.drop (a + 1)) (n - (i + 1))).1 := by omega
              rw [e2]; exact h
    · have e0 : decide ((i : Int) < (n : Int)) = false := by simp only [decide_eq_false_iff_not]; omega
      rw [e0]
      have hk : n - i = 0 := by omega
      refine ⟨_, rfl, ?_⟩
      simp only [prR, hk, prL, cond_true]; exact ⟨trivial, rfl⟩
  · intro s W Q hT
    obtain ⟨t, a, b, n, h1, h2, h3⟩ := hT
    refine ⟨(t, a, b, n, 0), h1, ⟨h2.1, h2.2.1, Nat.zero_le _, h2.2.2⟩, fun e s' h => ⟨[0], ?_⟩⟩
    simp only [prR, Nat.sub_zero] at h
    cases hb : (prL (t.drop a) n).2 with
    | true => rw [hb] at h h3; obtain ⟨rfl, rfl⟩ := h; exact h3
    | false => rw [hb] at h h3; obtain ⟨rfl, rfl⟩ := h; exact h3
def lLn : FuncId → Nat → Option LoopT := fun f p => bif Nat.beq f 19 then (bif Nat.beq p 28 then some lnT else bif Nat.beq p 506 then some prT else none) else none
end Go.Proofs

namespace Go.Bv
def lineL2 (t : List UInt8) (a n : Nat) : (List UInt8 × Bool) × Nat :=
  bif (prL (t.drop a) n).2 then (((t.take (a + (prL (t.drop a) n).1)).drop a, (mat (t.drop (a + (prL (t.drop a) n).1)) [10]).2), a + (prL (t.drop a) n).1 + (mat (t.drop (a + (prL (t.drop a) n).1)) [10]).1)
  else (([], false), a + (prL (t.drop a) n).1)

def lineL (t : List UInt8) (a : Nat) : (List UInt8 × Bool) × Nat :=
  bif decide ((dgL (t.drop a) 0 0).1 = 0) then (([], false), a + (dgL (t.drop a) 0 0).1) else
  bif (mat (t.drop (a + (dgL (t.drop a) 0 0).1)) [32]).2 then lineL2 t (a + (dgL (t.drop a) 0 0).1 + (mat (t.drop (a + (dgL (t.drop a) 0 0).1)) [32]).1) (dgL (t.drop a) 0 0).2
  else (([], false), a + (dgL (t.drop a) 0 0).1 + (mat (t.drop (a + (dgL (t.drop a) 0 0).1)) [32]).1)
end Go.Bv
namespace Go.Proofs
open Go Go.Bv
theorem line_body (t : List UInt8) (a : Nat) (K : Go.Bv.KC) : (Go.Bv.LoopOK Go.Proofs.Tryz.prog (List.length [Go.Bv.rd t (↑a : Int)]) Option.none (Go.Bv.loopB Go.Proofs.Tryz.prog (19 : Nat) [Bool.true, Bool.true, Bool.false, Bool.false]) Go.Proofs.lnT ∧ ∃ (t_1 : List UInt8), ∃ (a_1 : Nat), Option.some (Go.Bv.VS.mk [((0 : Nat), Go.Bv.V.ptr (0 : Nat) (0 : Nat)), ((4 : Nat), Go.Bv.V.ptr (1 : Nat) (0 : Nat)), ((5 : Nat), Go.Bv.V.ptr (2 : Nat) (0 : Nat))] [((0 : Nat), Go.Bv.Blk.box Bool.false [Go.Bv.V.d (Go.Bv.D.str t), Go.Bv.V.d (Go.Bv.D.int Go.IntKind.i64 (↑a : Int))]), ((1 : Nat), Go.Bv.Blk.box Bool.false [Go.Bv.V.d (Go.Bv.D.int Go.IntKind.i64 (0 : Int))]), ((2 : Nat), Go.Bv.Blk.box Bool.false [Go.Bv.V.d (Go.Bv.D.int Go.IntKind.i64 (0 : Int))])] (3 : Nat) [] (63 : Nat)) = Option.some (Go.Bv.VS.mk [((0 : Nat), Go.Bv.V.ptr (0 : Nat) (0 : Nat)), ((4 : Nat), Go.Bv.V.ptr (1 : Nat) (0 : Nat)), ((5 : Nat), Go.Bv.V.ptr (2 : Nat) (0 : Nat))] [((0 : Nat), Go.Bv.Blk.box Bool.false [Go.Bv.V.d (Go.Bv.D.str t_1), Go.Bv.V.d (Go.Bv.D.int Go.IntKind.i64 (↑a_1 : Int))]), ((1 : Nat), Go.Bv.Blk.box Bool.false [Go.Bv.V.d (Go.Bv.D.int Go.IntKind.i64 (0 : Int))]), ((2 : Nat), Go.Bv.Blk.box Bool.false [Go.Bv.V.d (Go.Bv.D.int Go.IntKind.i64 (0 : Int))])] (3 : Nat) [] (63 : Nat)) ∧ (a_1 ≤ List.length t_1 ∧ List.length t_1 ≤ (4294967280 : Nat)) ∧ bif Decidable.decide ((↑(Prod.fst (Go.Bv.dgL (List.drop a_1 t_1) (0 : Nat) (0 : Nat))) : Int) = (0 : Int)) then K (Go.Bv.V.tup [Go.Bv.V.d (Go.Bv.D.str []), Go.Bv.V.d (Go.Bv.D.bool Bool.false)]) [Go.Bv.Blk.box Bool.false [Go.Bv.V.d (Go.Bv.D.str t_1), Go.Bv.V.d (Go.Bv.D.int Go.IntKind.i64 (↑(a_1 + Prod.fst (Go.Bv.dgL (List.drop a_1 t_1) (0 : Nat) (0 : Nat))) : Int))]] [(0 : Nat)] else ((0 : Int) ≤ (↑(a_1 + Prod.fst (Go.Bv.dgL (List.drop a_1 t_1) (0 : Nat) (0 : Nat))) : Int) ∧ Int.toNat (↑(a_1 + Prod.fst (Go.Bv.dgL (List.drop a_1 t_1) (0 : Nat) (0 : Nat))) : Int) ≤ List.length t_1 ∧ List.length t_1 ≤ (4294967280 : Nat) ∧ (1 : Nat) ≤ (4294967280 : Nat)) ∧ bif !Prod.snd (Go.Bv.mat (List.drop (Int.toNat (↑(a_1 + Prod.fst (Go.Bv.dgL (List.drop a_1 t_1) (0 : Nat) (0 : Nat))) : Int)) t_1) [(32 : UInt8)]) then K (Go.Bv.V.tup [Go.Bv.V.d (Go.Bv.D.str []), Go.Bv.V.d (Go.Bv.D.bool Bool.false)]) [Go.Bv.Blk.box Bool.false [Go.Bv.V.d (Go.Bv.D.str t_1), Go.Bv.V.d (Go.Bv.D.int Go.IntKind.i64 (↑(Int.toNat (↑(a_1 + Prod.fst (Go.Bv.dgL (List.drop a_1 t_1) (0 : Nat) (0 : Nat))) : Int) + Prod.fst (Go.Bv.mat (List.drop (Int.toNat (↑(a_1 + Prod.fst (Go.Bv.dgL (List.drop a_1 t_1) (0 : Nat) (0 : Nat))) : Int)) t_1) [(32 : UInt8)])) : Int))]] [(0 : Nat)] else Go.Bv.LoopOK Go.Proofs.Tryz.prog (List.length [Go.Bv.rd t (↑a : Int)]) Option.none (Go.Bv.loopB Go.Proofs.Tryz.prog (19 : Nat) [Bool.true, Bool.true, Bool.true, Bool.true, Bool.true, Bool.false, Bool.true, Bool.false]) Go.Proofs.prT ∧ ∃ (t : List UInt8), ∃ (a : Nat), ∃ (b : Nat), ∃ (n : Nat), Option.some (Go.Bv.VS.mk [((0 : Nat), Go.Bv.V.ptr (0 : Nat) (0 : Nat)), ((8 : Nat), Go.Bv.V.d (Go.Bv.D.int Go.IntKind.i64 (↑(Int.toNat (↑(a_1 + Prod.fst (Go.Bv.dgL (List.drop a_1 t_1) (0 : Nat) (0 : Nat))) : Int) + Prod.fst (Go.Bv.mat (List.drop (Int.toNat (↑(a_1 + Prod.fst (Go.Bv.dgL (List.drop a_1 t_1) (0 : Nat) (0 : Nat))) : Int)) t_1) [(32 : UInt8)])) : Int))), ((39 : Nat), Go.Bv.V.d (Go.Bv.D.int Go.IntKind.i64 (↑(Prod.snd (Go.Bv.dgL (List.drop a_1 t_1) (0 : Nat) (0 : Nat))) : Int))), ((40 : Nat), Go.Bv.V.d (Go.Bv.D.int Go.IntKind.i64 (0 : Int)))] [((0 : Nat), Go.Bv.Blk.box Bool.false [Go.Bv.V.d (Go.Bv.D.str t_1), Go.Bv.V.d (Go.Bv.D.int Go.IntKind.i64 (↑(Int.toNat (↑(a_1 + Prod.fst (Go.Bv.dgL (List.drop a_1 t_1) (0 : Nat) (0 : Nat))) : Int) + Prod.fst (Go.Bv.mat (List.drop (Int.toNat (↑(a_1 + Prod.fst (Go.Bv.dgL (List.drop a_1 t_1) (0 : Nat) (0 : Nat))) : Int)) t_1) [(32 : UInt8)])) : Int))])] (1 : Nat) [] (63 : Nat)) = Option.some (Go.Bv.VS.mk [((0 : Nat), Go.Bv.V.ptr (0 : Nat) (0 : Nat)), ((8 : Nat), Go.Bv.V.d (Go.Bv.D.int Go.IntKind.i64 (↑b : Int))), ((39 : Nat), Go.Bv.V.d (Go.Bv.D.int Go.IntKind.i64 (↑n : Int))), ((40 : Nat), Go.Bv.V.d (Go.Bv.D.int Go.IntKind.i64 (0 : Int)))] [((0 : Nat), Go.Bv.Blk.box Bool.false [Go.Bv.V.d (Go.Bv.D.str t), Go.Bv.V.d (Go.Bv.D.int Go.IntKind.i64 (↑a : Int))])] (1 : Nat) [] (63 : Nat)) ∧ (a ≤ List.length t ∧ List.length t ≤ (4294967280 : Nat) ∧ n ≤ (60 : Nat)) ∧ bif Prod.snd (Go.Bv.prL (List.drop a t) n) then ((0 : Int) ≤ (↑b : Int) ∧ (↑b : Int) ≤ (↑(a + Prod.fst (Go.Bv.prL (List.drop a t) n)) : Int) ∧ (↑(a + Prod.fst (Go.Bv.prL (List.drop a t) n)) : Int) ≤ (↑(List.length t) : Int)) ∧ ((0 : Int) ≤ (↑(a + Prod.fst (Go.Bv.prL (List.drop a t) n)) : Int) ∧ Int.toNat (↑(a + Prod.fst (Go.Bv.prL (List.drop a t) n)) : Int) ≤ List.length t ∧ List.length t ≤ (4294967280 : Nat) ∧ (1 : Nat) ≤ (4294967280 : Nat)) ∧ K (Go.Bv.V.tup [Go.Bv.V.d (Go.Bv.D.str (List.drop (Int.toNat (↑b : Int)) (List.take (Int.toNat (↑(a + Prod.fst (Go.Bv.prL (List.drop a t) n)) : Int)) t))), Go.Bv.V.d (Go.Bv.D.bool (Prod.snd (Go.Bv.mat (List.drop (Int.toNat (↑(a + Prod.fst (Go.Bv.prL (List.drop a t) n)) : Int)) t) [(10 : UInt8)])))]) [Go.Bv.Blk.box Bool.false [Go.Bv.V.d (Go.Bv.D.str t), Go.Bv.V.d (Go.Bv.D.int Go.IntKind.i64 (↑(Int.toNat (↑(a + Prod.fst (Go.Bv.prL (List.drop a t) n)) : Int) + Prod.fst (Go.Bv.mat (List.drop (Int.toNat (↑(a + Prod.fst (Go.Bv.prL (List.drop a t) n)) : Int)) t) [(10 : UInt8)])) : Int))]] [(0 : Nat)] else K (Go.Bv.V.tup [Go.Bv.V.d (Go.Bv.D.str []), Go.Bv.V.d (Go.Bv.D.bool Bool.false)]) [Go.Bv.Blk.box Bool.false [Go.Bv.V.d (Go.Bv.D.str t), Go.Bv.V.d (Go.Bv.D.int Go.IntKind.i64 (↑(a + Prod.fst (Go.Bv.prL (List.drop a t) n)) : Int))]] [(0 : Nat)]) = (inlN Tryz.prog xSame lLn 4 19 [.ptr 0 0] [rd t a] K) := by kernel_rfl
def lineS : FSpec := fun args H K => match args, H with
  | [.ptr 0 0], [.box false [.d (.str t), .d (.int .i64 a)]] => (0 ≤ a ∧ a.toNat ≤ t.length ∧ t.length ≤ 4294967280) ∧
      K (.tup [.d (.str (lineL t a.toNat).1.1), .d (.bool (lineL t a.toNat).1.2)]) [rd t ((lineL t a.toNat).2 : Nat)] [0]
  | _, _ => False
theorem lineS_ok : FOK2 Tryz.prog 19 lineS := by
  obtain ⟨sp, hsp⟩ : ∃ sp, sp = inlN Tryz.prog xSame lLn 4 19 := ⟨_, rfl⟩
  have hok : FOK2 Tryz.prog 19 sp := hsp ▸ inlN_ok (LL := lLn) xSame_ok mixed 4 19
  refine hok.imp fun args H K h => ?_
  unfold lineS at h
  split at h
  · rename_i t a
    obtain ⟨⟨h0, h1, h2⟩, h4⟩ := h
    obtain ⟨n, rfl⟩ : ∃ n : Nat, a = n := ⟨a.toNat, by omega⟩
    simp only [Int.toNat_natCast] at h1 h4
    rw [hsp]
    show inlN Tryz.prog xSame lLn 4 19 [.ptr 0 0] [rd t n] K
    rw [← line_body]
    clear hok hsp
    refine ⟨lnT_ok, t, n, rfl, ⟨h1, h2⟩, ?_⟩
    have d1 := dgL_le (t.drop n) 0 0
    have d2 := dgL_60 (t.drop n) 0 0 (by omega)
    rw [List.length_drop] at d1
    unfold lineL at h4
    generalize hq : dgL (t.drop n) 0 0 = q at h4 d1 d2 ⊢
    obtain ⟨k, l⟩ := q
    simp only [Int.toNat_natCast] at h4 d1 d2 ⊢
    cases hk : decide (k = 0) with
    | true =>
      have : decide ((k : Int) = 0) = true := by simp only [decide_eq_true_eq] at hk ⊢; omega
      rw [hk] at h4
      rw [this]
      exact h4
    | false =>
      have : decide ((k : Int) = 0) = false := by simp only [decide_eq_false_iff_not] at hk ⊢; omega
      rw [hk] at h4
      rw [this]
      have m1 := mat_le (t.drop (n + k)) [32]
      rw [List.length_drop] at m1
      refine ⟨⟨by omega, by omega, h2, by omega⟩, ?_⟩
      generalize hm : mat (t.drop (n + k)) [32] = m at h4 m1 ⊢
      obtain ⟨j, b⟩ := m
      cases b with
      | false => exact h4
      | true =>
        have h5 : K (.tup [.d (.str (lineL2 t (n + k + j) l).1.1), .d (.bool (lineL2 t (n + k + j) l).1.2)]) [rd t ((lineL2 t (n + k + j) l).2 : Nat)] [0] := h4
        clear h4
        simp only at m1
        refine ⟨prT_ok, t, n + k + j, n + k + j, l, rfl, ⟨by omega, h2, d2⟩, ?_⟩
        have p1 := prL_le (t.drop (n + k + j)) l
        rw [List.length_drop] at p1
        unfold lineL2 at h5
        generalize hp : prL (t.drop (n + k + j)) l = p at h5 p1 ⊢
        obtain ⟨i, b⟩ := p
        simp only at h5 p1 ⊢
        cases b with
        | false => exact h5
        | true => exact ⟨⟨by omega, by omega, by omega⟩, ⟨by omega, by omega, h2, by omega⟩, h5⟩
  · exact h.elim
def lastS : FSpec := fun args H K => match args, H with
  | [.d (.int .i64 n), .d (.str s)], [] => (-9223372036854775808 ≤ n ∧ n ≤ 9223372036854775807 ∧ s.length ≤ 4294967280) ∧ K (.d (.str (lastZ n s))) [] []
  | _, _ => False
theorem lastS_ok : FOK2 Tryz.prog 18 lastS := by
  intro args H K h
  unfold lastS at h
  split at h
  · exact ⟨_, _, _, last_spec _ _ h.1.1 h.1.2.1 h.1.2.2, h.2⟩
  · exact h.elim
def xRead : SX := fun f => bif Nat.beq f 18 then some lastS else bif Nat.beq f 19 then some lineS else xSame f
theorem xRead_ok : XOK Tryz.prog xRead := sx_cons lastS_ok (sx_cons lineS_ok xSame_ok)
end Go.Proofs

namespace Go.Bv
theorem getD_len_le {α : Type} (l : List α) : l.length ≤ l.length := Nat.le_refl _
theorem lineL_le (t : List UInt8) (a : Nat) (h : a ≤ t.length) : (lineL t a).2 ≤ t.length := by
  have d1 := dgL_le (t.drop a) 0 0
  rw [List.length_drop] at d1
  unfold lineL
  generalize dgL (t.drop a) 0 0 = q at d1 ⊢
  obtain ⟨k, l⟩ := q
  simp only at d1 ⊢
  have m1 := mat_le (t.drop (a + k)) [32]
  rw [List.length_drop] at m1
  cases decide (k = 0) with
  | true => simp only [cond_true]; omega
  | false =>
    generalize mat (t.drop (a + k)) [32] = m at m1 ⊢
    obtain ⟨j, b⟩ := m
    cases b with
    | false => simp only [cond_false] at m1 ⊢; omega
    | true =>
      simp only [cond_false, cond_true] at m1 ⊢
      have p1 := prL_le (t.drop (a + k + j)) l
      rw [List.length_drop] at p1
      unfold lineL2
      generalize prL (t.drop (a + k + j)) l = p at p1 ⊢
      obtain ⟨i, b⟩ := p
      have m2 := mat_le (t.drop (a + k + j + i)) [10]
      rw [List.length_drop] at m2
      cases b with
      | false => simp only [cond_false] at p1 ⊢; omega
      | true => simp only [cond_true] at p1 ⊢; omega
def readL : Nat → List UInt8 → Nat → List (List UInt8) → Bool × Nat × List (List UInt8)
  | 0, _, a, xs => (true, a, xs)
  | f + 1, t, a, xs =>
    bif decide (xs.length < 80) && (decide (a < t.length) && !decide ((t.getD a 0).toNat = 101)) then
      bif (lineL t a).1.2 then readL f t (lineL t a).2 (xs ++ [(lineL t a).1.1]) else (false, (lineL t a).2, [])
    else (true, a, xs)

def rdL (t : List UInt8) (a : Nat) (xs : List (List UInt8)) : Bool × Nat × List (List UInt8) := readL (80 - xs.length) t a xs
theorem rdL_eq (t : List UInt8) (a : Nat) (xs : List (List UInt8)) : rdL t a xs =
    bif decide (xs.length < 80) && (decide (a < t.length) && !decide ((t.getD a 0).toNat = 101)) then
      bif (lineL t a).1.2 then rdL t (lineL t a).2 (xs ++ [(lineL t a).1.1]) else (false, (lineL t a).2, [])
    else (true, a, xs) := by
  unfold rdL
  rw [List.length_append]
  cases h : decide (xs.length < 80) with
  | false =>
    simp only [decide_eq_false_iff_not] at h
    rw [show 80 - xs.length = 0 by omega]
    rfl
  | true =>
    have h' : xs.length < 80 := by simpa using h
    obtain ⟨k, hk⟩ : ∃ k, 80 - xs.length = k + 1 := ⟨79 - xs.length, by omega⟩
    rw [hk]
    simp only [readL, h, Bool.true_and]
    rw [show 80 - (xs.length + [(lineL t a).1.1].length) = k by simp only [List.length_singleton]; omega]
theorem readL_le : ∀ (f : Nat) (t : List UInt8) (a : Nat) (xs : List (List UInt8)), a ≤ t.length → (readL f t a xs).2.1 ≤ t.length
  | 0, t, a, xs, h => h
  | f + 1, t, a, xs, h => by
    simp only [readL]
    cases decide (xs.length < 80) && (decide (a < t.length) && !decide ((t.getD a 0).toNat = 101)) with
    | false => exact h
    | true =>
      have h1 := lineL_le t a h
      cases (lineL t a).1.2 with
      | false => exact h1
      | true => exact readL_le f t _ _ h1
theorem readL_80 : ∀ (f : Nat) (t : List UInt8) (a : Nat) (xs : List (List UInt8)), xs.length ≤ 80 → (readL f t a xs).2.2.length ≤ 80
  | 0, t, a, xs, h => h
  | f + 1, t, a, xs, h => by
    simp only [readL]
    cases hc : decide (xs.length < 80) && (decide (a < t.length) && !decide ((t.getD a 0).toNat = 101)) with
    | false => exact h
    | true =>
      simp only [Bool.and_eq_true, decide_eq_true_eq] at hc
      cases (lineL t a).1.2 with
      | false => simp
      | true => exact readL_80 f t _ _ (by rw [List.length_append, List.length_singleton]; omega)
end Go.Bv
namespace Go.Proofs
open Go Go.Bv
def rS0 (t : List UInt8) (a : Int) : VS := stN 73 [(0, .d (.str t)), (5, .ptr 0 0), (2, .d (.slice true []))] [rd t a]
def rS1 (t : List UInt8) (a : Int) (xs : List (List UInt8)) : VS := stN 73 [(0, .d (.str t)), (5, .ptr 0 0), (2, .sref 1 xs.length)] [rd t a, .row 1 0 false (strsD xs)]
def rE0 (t : List UInt8) (a : Int) (v v2 : V) : VS := stN 73 [(0, .d (.str t)), (5, .ptr 0 0), (2, .d (.slice true [])), (3, v), (4, v2)] [rd t a]
def rE1 (t : List UInt8) (a : Int) (xs : List (List UInt8)) : VS := stN 73 [(0, .d (.str t)), (5, .ptr 0 0), (2, .sref 1 xs.length), (3, .junk), (4, .junk)] [rd t a, .row 1 0 false (strsD xs)]
def rS (t : List UInt8) (a : Int) (xs : List (List UInt8)) : VS := bif xs.isEmpty then rS0 t a else rS1 t a xs
theorem read_round0 (t : List UInt8) (a : Nat) (Kn : Option Go.Bv.VS → Prop) (Ke : Go.Exit → Option Go.Bv.VS → Prop) : (bif Decidable.decide ((↑a : Int) < (↑(List.length t) : Int)) then ((0 : Int) ≤ (↑a : Int) ∧ (↑a : Int) < (↑(List.length t) : Int)) ∧ bif !Decidable.decide ((↑(UInt8.toNat (List.getD t (Int.toNat (↑a : Int)) (0 : UInt8))) : Int) = (101 : Int)) then ((0 : Int) ≤ (↑a : Int) ∧ Int.toNat (↑a : Int) ≤ List.length t ∧ List.length t ≤ (4294967280 : Nat)) ∧ bif !Prod.snd (Prod.fst (Go.Bv.lineL t (Int.toNat (↑a : Int)))) then Ke Go.Exit.ret (Option.some (Go.Bv.VS.mk [((0 : Nat), Go.Bv.V.d (Go.Bv.D.str t)), ((5 : Nat), Go.Bv.V.ptr (0 : Nat) (0 : Nat)), ((2 : Nat), Go.Bv.V.d (Go.Bv.D.slice Bool.true [])), ((3 : Nat), Go.Bv.V.d (Go.Bv.D.int Go.IntKind.i64 (↑(Prod.snd (Go.Bv.lineL t (Int.toNat (↑a : Int)))) : Int))), ((4 : Nat), Go.Bv.V.d (Go.Bv.D.int Go.IntKind.i64 (122 : Int)))] [((0 : Nat), Go.Bv.Blk.box Bool.false [Go.Bv.V.d (Go.Bv.D.str t), Go.Bv.V.d (Go.Bv.D.int Go.IntKind.i64 (↑(Prod.snd (Go.Bv.lineL t (Int.toNat (↑a : Int)))) : Int))])] (1 : Nat) [] (73 : Nat))) else (Bool.true = Bool.true ∧ Bool.true = Bool.true ∧ ((0 : Nat) + List.length [[Go.Bv.D.str (Prod.fst (Prod.fst (Go.Bv.lineL t (Int.toNat (↑a : Int)))))]]) * (16 : Nat) ≤ (140737488355328 : Nat) ∧ (0 : Nat) + List.length [[Go.Bv.D.str (Prod.fst (Prod.fst (Go.Bv.lineL t (Int.toNat (↑a : Int)))))]] ≤ (9223372036854775807 : Nat)) ∧ Kn (Option.some (Go.Bv.VS.mk [((0 : Nat), Go.Bv.V.d (Go.Bv.D.str t)), ((5 : Nat), Go.Bv.V.ptr (0 : Nat) (0 : Nat)), ((2 : Nat), Go.Bv.V.sref (1 : Nat) (1 : Nat))] [((0 : Nat), Go.Bv.Blk.box Bool.false [Go.Bv.V.d (Go.Bv.D.str t), Go.Bv.V.d (Go.Bv.D.int Go.IntKind.i64 (↑(Prod.snd (Go.Bv.lineL t (Int.toNat (↑a : Int)))) : Int))]), ((1 : Nat), Go.Bv.Blk.row (1 : Nat) (0 : Nat) Bool.false ([] ++ [[Go.Bv.D.str (Prod.fst (Prod.fst (Go.Bv.lineL t (Int.toNat (↑a : Int)))))]]))] (2 : Nat) [] (73 : Nat))) else Ke (Go.Exit.exit (0 : Nat)) (Option.some (Go.Bv.VS.mk [((0 : Nat), Go.Bv.V.d (Go.Bv.D.str t)), ((5 : Nat), Go.Bv.V.ptr (0 : Nat) (0 : Nat)), ((2 : Nat), Go.Bv.V.d (Go.Bv.D.slice Bool.true [])), ((3 : Nat), Go.Bv.V.junk), ((4 : Nat), Go.Bv.V.junk)] [((0 : Nat), Go.Bv.Blk.box Bool.false [Go.Bv.V.d (Go.Bv.D.str t), Go.Bv.V.d (Go.Bv.D.int Go.IntKind.i64 (↑a : Int))])] (1 : Nat) [] (73 : Nat))) else Ke (Go.Exit.exit (0 : Nat)) (Option.some (Go.Bv.VS.mk [((0 : Nat), Go.Bv.V.d (Go.Bv.D.str t)), ((5 : Nat), Go.Bv.V.ptr (0 : Nat) (0 : Nat)), ((2 : Nat), Go.Bv.V.d (Go.Bv.D.slice Bool.true [])), ((3 : Nat), Go.Bv.V.junk), ((4 : Nat), Go.Bv.V.junk)] [((0 : Nat), Go.Bv.Blk.box Bool.false [Go.Bv.V.d (Go.Bv.D.str t), Go.Bv.V.d (Go.Bv.D.int Go.IntKind.i64 (↑a : Int))])] (1 : Nat) [] (73 : Nat)))) = (roundP Tryz.prog xRead (inlN Tryz.prog xRead l0 4) 0 (fun _ => none) (loopB Tryz.prog 8 [true, true, false, false]) [0, 5, 2] [0, 5, 2, 3, 4] (rS0 t a) Kn Ke) := by kernel_rfl
theorem read_round1 (t : List UInt8) (a : Nat) (xs : List (List UInt8)) (Kn : Option Go.Bv.VS → Prop) (Ke : Go.Exit → Option Go.Bv.VS → Prop) : (bif Decidable.decide ((↑(List.length xs) : Int) < (80 : Int)) then bif Decidable.decide ((↑a : Int) < (↑(List.length t) : Int)) then ((0 : Int) ≤ (↑a : Int) ∧ (↑a : Int) < (↑(List.length t) : Int)) ∧ bif !Decidable.decide ((↑(UInt8.toNat (List.getD t (Int.toNat (↑a : Int)) (0 : UInt8))) : Int) = (101 : Int)) then ((0 : Int) ≤ (↑a : Int) ∧ Int.toNat (↑a : Int) ≤ List.length t ∧ List.length t ≤ (4294967280 : Nat)) ∧ bif !Prod.snd (Prod.fst (Go.Bv.lineL t (Int.toNat (↑a : Int)))) then Ke Go.Exit.ret (Option.some (Go.Bv.VS.mk [((0 : Nat), Go.Bv.V.d (Go.Bv.D.str t)), ((5 : Nat), Go.Bv.V.ptr (0 : Nat) (0 : Nat)), ((2 : Nat), Go.Bv.V.d (Go.Bv.D.slice Bool.true [])), ((3 : Nat), Go.Bv.V.d (Go.Bv.D.int Go.IntKind.i64 (↑(Prod.snd (Go.Bv.lineL t (Int.toNat (↑a : Int)))) : Int))), ((4 : Nat), Go.Bv.V.d (Go.Bv.D.int Go.IntKind.i64 (122 : Int)))] [((0 : Nat), Go.Bv.Blk.box Bool.false [Go.Bv.V.d (Go.Bv.D.str t), Go.Bv.V.d (Go.Bv.D.int Go.IntKind.i64 (↑(Prod.snd (Go.Bv.lineL t (Int.toNat (↑a : Int)))) : Int))])] (1 : Nat) [] (73 : Nat))) else (List.length xs ≤ List.length (Go.Bv.strsD xs) ∧ (0 : Nat) ≤ List.length xs ∧ (List.length xs + List.length [[Go.Bv.D.str (Prod.fst (Prod.fst (Go.Bv.lineL t (Int.toNat (↑a : Int)))))]]) * (16 : Nat) ≤ (140737488355328 : Nat) ∧ List.length xs + List.length [[Go.Bv.D.str (Prod.fst (Prod.fst (Go.Bv.lineL t (Int.toNat (↑a : Int)))))]] ≤ (9223372036854775807 : Nat)) ∧ Kn (Option.some (Go.Bv.VS.mk [((0 : Nat), Go.Bv.V.d (Go.Bv.D.str t)), ((5 : Nat), Go.Bv.V.ptr (0 : Nat) (0 : Nat)), ((2 : Nat), Go.Bv.V.sref (1 : Nat) (List.length xs + List.length [[Go.Bv.D.str (Prod.fst (Prod.fst (Go.Bv.lineL t (Int.toNat (↑a : Int)))))]]))] [((0 : Nat), Go.Bv.Blk.box Bool.false [Go.Bv.V.d (Go.Bv.D.str t), Go.Bv.V.d (Go.Bv.D.int Go.IntKind.i64 (↑(Prod.snd (Go.Bv.lineL t (Int.toNat (↑a : Int)))) : Int))]), ((1 : Nat), Go.Bv.Blk.row (1 : Nat) (0 : Nat) Bool.false (List.take (List.length xs) (Go.Bv.strsD xs) ++ [[Go.Bv.D.str (Prod.fst (Prod.fst (Go.Bv.lineL t (Int.toNat (↑a : Int)))))]]))] (2 : Nat) [] (73 : Nat))) else Ke (Go.Exit.exit (0 : Nat)) (Option.some (Go.Bv.VS.mk [((0 : Nat), Go.Bv.V.d (Go.Bv.D.str t)), ((5 : Nat), Go.Bv.V.ptr (0 : Nat) (0 : Nat)), ((2 : Nat), Go.Bv.V.sref (1 : Nat) (List.length xs)), ((3 : Nat), Go.Bv.V.junk), ((4 : Nat), Go.Bv.V.junk)] [((0 : Nat), Go.Bv.Blk.box Bool.false [Go.Bv.V.d (Go.Bv.D.str t), Go.Bv.V.d (Go.Bv.D.int Go.IntKind.i64 (↑a : Int))]), ((1 : Nat), Go.Bv.Blk.row (1 : Nat) (0 : Nat) Bool.false (Go.Bv.strsD xs))] (2 : Nat) [] (73 : Nat))) else Ke (Go.Exit.exit (0 : Nat)) (Option.some (Go.Bv.VS.mk [((0 : Nat), Go.Bv.V.d (Go.Bv.D.str t)), ((5 : Nat), Go.Bv.V.ptr (0 : Nat) (0 : Nat)), ((2 : Nat), Go.Bv.V.sref (1 : Nat) (List.length xs)), ((3 : Nat), Go.Bv.V.junk), ((4 : Nat), Go.Bv.V.junk)] [((0 : Nat), Go.Bv.Blk.box Bool.false [Go.Bv.V.d (Go.Bv.D.str t), Go.Bv.V.d (Go.Bv.D.int Go.IntKind.i64 (↑a : Int))]), ((1 : Nat), Go.Bv.Blk.row (1 : Nat) (0 : Nat) Bool.false (Go.Bv.strsD xs))] (2 : Nat) [] (73 : Nat))) else Ke (Go.Exit.exit (0 : Nat)) (Option.some (Go.Bv.VS.mk [((0 : Nat), Go.Bv.V.d (Go.Bv.D.str t)), ((5 : Nat), Go.Bv.V.ptr (0 : Nat) (0 : Nat)), ((2 : Nat), Go.Bv.V.sref (1 : Nat) (List.length xs)), ((3 : Nat), Go.Bv.V.junk), ((4 : Nat), Go.Bv.V.junk)] [((0 : Nat), Go.Bv.Blk.box Bool.false [Go.Bv.V.d (Go.Bv.D.str t), Go.Bv.V.d (Go.Bv.D.int Go.IntKind.i64 (↑a : Int))]), ((1 : Nat), Go.Bv.Blk.row (1 : Nat) (0 : Nat) Bool.false (Go.Bv.strsD xs))] (2 : Nat) [] (73 : Nat)))) = (roundP Tryz.prog xRead (inlN Tryz.prog xRead l0 4) 0 (fun _ => none) (loopB Tryz.prog 8 [true, true, false, false]) [0, 5, 2] [0, 5, 2, 3, 4] (rS1 t a xs) Kn Ke) := by kernel_rfl
def rR (p : List UInt8 × Nat × List (List UInt8)) (e : Exit) (s' : VS) : Prop :=
  bif (rdL p.1 p.2.1 p.2.2).1 then e = .exit 0 ∧ (bif (rdL p.1 p.2.1 p.2.2).2.2.isEmpty then s' = rE0 p.1 ((rdL p.1 p.2.1 p.2.2).2.1 : Nat) .junk .junk else s' = rE1 p.1 ((rdL p.1 p.2.1 p.2.2).2.1 : Nat) (rdL p.1 p.2.1 p.2.2).2.2)
  else e = .ret ∧ s' = rE0 p.1 ((rdL p.1 p.2.1 p.2.2).2.1 : Nat) (.d (.int .i64 ((rdL p.1 p.2.1 p.2.2).2.1 : Nat))) (.d (.int .i64 122))
def readT : LoopT := fun s W Q => ∃ (t : List UInt8), canonN 0 [0, 5, 2] s = some (rS0 t 0) ∧ (t.length ≤ 4294967280) ∧
  bif (rdL t 0 []).1 then (bif (rdL t 0 []).2.2.isEmpty then Q (.exit 0) (rE0 t ((rdL t 0 []).2.1 : Nat) .junk .junk) [] else Q (.exit 0) (rE1 t ((rdL t 0 []).2.1 : Nat) (rdL t 0 []).2.2) [])
  else Q .ret (rE0 t ((rdL t 0 []).2.1 : Nat) (.d (.int .i64 ((rdL t 0 []).2.1 : Nat))) (.d (.int .i64 122))) []
def iRead : FuncId → FSpec := inlN Tryz.prog xRead l0 4
theorem iRead_ok : ∀ f, FOK2 Tryz.prog f (iRead f) := inlN_ok xRead_ok mixed 4
theorem readT_ok : LoopOK Tryz.prog 0 none (loopB Tryz.prog 8 [true, true, false, false]) readT := by
  refine LoopOK.walk xRead_ok iRead_ok mixed [0, 5, 2] [0, 5, 2, 3, 4] (L := fun _ => none) (fun p : List UInt8 × Nat × List (List UInt8) => rS p.1 p.2.1 p.2.2) (fun p => p.2.1 ≤ p.1.length ∧ p.1.length ≤ 4294967280 ∧ p.2.2.length ≤ 80) (fun p => 80 - p.2.2.length) rR ?_ ?_
  · intro p hp
    obtain ⟨t, a, xs⟩ := p
    have ha : a ≤ t.length := hp.1
    have ht : t.length ≤ 4294967280 := hp.2.1
    have hx : xs.length ≤ 80 := hp.2.2
    clear hp
    have hl := lineL_le t a ha

    have bad : (decide (xs.length < 80) && (decide (a < t.length) && !decide ((t.getD a 0).toNat = 101))) = true → (lineL t a).1.2 = false →
        rR (t, a, xs) .ret (rE0 t ((lineL t a).2 : Nat) (.d (.int .i64 ((lineL t a).2 : Nat))) (.d (.int .i64 122))) := by
      intro h1 h2
      have e : rdL t a xs = (false, (lineL t a).2, []) := by rw [rdL_eq, h1, h2]; rfl
      simp [rR, e]
    have over : (decide (xs.length < 80) && (decide (a < t.length) && !decide ((t.getD a 0).toNat = 101))) = false → rR (t, a, xs) (.exit 0) (bif xs.isEmpty then rE0 t a .junk .junk else rE1 t a xs) := by
      intro h1
      have e : rdL t a xs = (true, a, xs) := by rw [rdL_eq, h1]; rfl
      simp only [rR, e, cond_true]
      refine ⟨trivial, ?_⟩
      cases xs.isEmpty <;> rfl
    have good : ∀ s2 : VS, (decide (xs.length < 80) && (decide (a < t.length) && !decide ((t.getD a 0).toNat = 101))) = true → (lineL t a).1.2 = true →
        s2 = rS1 t ((lineL t a).2 : Nat) (xs ++ [(lineL t a).1.1]) →
        ∃ j : List UInt8 × Nat × List (List UInt8), some s2 = some (rS j.1 j.2.1 j.2.2) ∧ (j.2.1 ≤ j.1.length ∧ j.1.length ≤ 4294967280 ∧ j.2.2.length ≤ 80) ∧ 80 - j.2.2.length < 80 - xs.length ∧ ∀ e s', rR j e s' → rR (t, a, xs) e s' := by
      intro s2 h1 h2 h3
      have h80 : xs.length < 80 := by simp only [Bool.and_eq_true, decide_eq_true_eq] at h1; exact h1.1
      have hlen : (xs ++ [(lineL t a).1.1]).length = xs.length + 1 := by rw [List.length_append, List.length_singleton]
      refine ⟨(t, (lineL t a).2, xs ++ [(lineL t a).1.1]), ?_, ⟨hl, ht, by rw [hlen]; omega⟩, by rw [hlen]; omega, fun e s' h => ?_⟩
      · rw [h3]
        have : (xs ++ [(lineL t a).1.1]).isEmpty = false := by cases xs <;> rfl
        simp only [rS, this, cond_false]
      · have e1 : rdL t a xs = rdL t (lineL t a).2 (xs ++ [(lineL t a).1.1]) := by rw [rdL_eq t a xs, h1, h2]; rfl
        simp only [rR] at h ⊢
        rw [e1]; exact h
    show roundP Tryz.prog xRead iRead 0 (fun _ => none) (loopB Tryz.prog 8 [true, true, false, false]) [0, 5, 2] [0, 5, 2, 3, 4] (rS t a xs) _ _
    cases xs with
    | nil =>
      show roundP Tryz.prog xRead (inlN Tryz.prog xRead l0 4) 0 (fun _ => none) (loopB Tryz.prog 8 [true, true, false, false]) [0, 5, 2] [0, 5, 2, 3, 4] (rS0 t a) _ _
      rw [← read_round0]
      simp only [Int.toNat_natCast]
      cases hlt : decide ((a : Int) < (t.length : Int)) with
      | false =>
        have e : decide (a < t.length) = false := by simp only [decide_eq_false_iff_not] at hlt ⊢; omega
        exact ⟨_, rfl, over (by rw [e]; rfl)⟩
      | true =>
        have e : decide (a < t.length) = true := by simp only [decide_eq_true_eq] at hlt ⊢; omega
        have hlt' : a < t.length := by simpa using e
        refine ⟨⟨by omega, by omega⟩, ?_⟩
        cases h101 : decide (((t.getD a 0).toNat : Int) = 101) with
        | true =>
          have e2 : decide ((t.getD a 0).toNat = 101) = true := by simp only [decide_eq_true_eq] at h101 ⊢; omega
          exact ⟨_, rfl, over (by rw [e, e2]; rfl)⟩
        | false =>
          have e2 : decide ((t.getD a 0).toNat = 101) = false := by simp only [decide_eq_false_iff_not] at h101 ⊢; omega
          refine ⟨⟨by omega, ha, ht⟩, ?_⟩
          cases hb : (lineL t a).1.2 with
          | false => exact ⟨_, rfl, bad (by rw [e, e2]; rfl) hb⟩
          | true => exact ⟨⟨trivial, trivial, by simp only [List.length_singleton]; omega, by simp only [List.length_singleton]; omega⟩, good _ (by rw [e, e2]; rfl) hb rfl⟩
    | cons x r =>
      show roundP Tryz.prog xRead (inlN Tryz.prog xRead l0 4) 0 (fun _ => none) (loopB Tryz.prog 8 [true, true, false, false]) [0, 5, 2] [0, 5, 2, 3, 4] (rS1 t a (x :: r)) _ _
      rw [← read_round1]
      generalize hxs : x :: r = xs at *
      simp only [Int.toNat_natCast]
      have hne : xs.isEmpty = false := by rw [← hxs]; rfl
      rw [hne] at over
      cases h80 : decide ((xs.length : Int) < 80) with
      | false =>
        have e0 : decide (xs.length < 80) = false := by simp only [decide_eq_false_iff_not] at h80 ⊢; omega
        exact ⟨_, rfl, over (by rw [e0]; rfl)⟩
      | true =>
        have e0 : decide (xs.length < 80) = true := by simp only [decide_eq_true_eq] at h80 ⊢; omega
        cases hlt : decide ((a : Int) < (t.length : Int)) with
        | false =>
          have e : decide (a < t.length) = false := by simp only [decide_eq_false_iff_not] at hlt ⊢; omega
          exact ⟨_, rfl, over (by rw [e0, e]; rfl)⟩
        | true =>
          have e : decide (a < t.length) = true := by simp only [decide_eq_true_eq] at hlt ⊢; omega
          have hlt' : a < t.length := by simpa using e
          refine ⟨⟨by omega, by omega⟩, ?_⟩
          cases h101 : decide (((t.getD a 0).toNat : Int) = 101) with
          | true =>
            have e2 : decide ((t.getD a 0).toNat = 101) = true := by simp only [decide_eq_true_eq] at h101 ⊢; omega
            exact ⟨_, rfl, over (by rw [e0, e, e2]; rfl)⟩
          | false =>
            have e2 : decide ((t.getD a 0).toNat = 101) = false := by simp only [decide_eq_false_iff_not] at h101 ⊢; omega
            refine ⟨⟨by omega, ha, ht⟩, ?_⟩
            cases hb : (lineL t a).1.2 with
            | false => exact ⟨_, rfl, bad (by rw [e0, e, e2]; rfl) hb⟩
            | true =>
              refine ⟨⟨by rw [strsD_len]; omega, by omega, by simp only [List.length_singleton]; omega, by simp only [List.length_singleton]; omega⟩, good _ (by rw [e0, e, e2]; rfl) hb ?_⟩
              simp only [rS1, stN, enumB, rd, List.length_append, strsD_app, strsD_cons, strsD_nil, List.length_singleton, List.take_of_length_le (Nat.le_of_eq (strsD_len xs)), List.length_cons, List.length_nil]
  · intro s W Q hT
    obtain ⟨t, h1, h2, h3⟩ := hT
    refine ⟨(t, 0, []), h1, ⟨Nat.zero_le _, h2, Nat.zero_le _⟩, fun e s' h => ⟨[], ?_⟩⟩
    simp only [rR] at h
    cases hb : (rdL t 0 []).1 with
    | true =>
      rw [hb] at h h3
      obtain ⟨rfl, h⟩ := h
      cases he : (rdL t 0 []).2.2.isEmpty with
      | true => rw [he] at h h3; subst h; exact h3
      | false => rw [he] at h h3; subst h; exact h3
    | false => rw [hb] at h h3; obtain ⟨rfl, rfl⟩ := h; exact h3
def lRead : FuncId → Nat → Option LoopT := fun f p => bif Nat.beq f 8 && Nat.beq p 28 then some readT else none
end Go.Proofs

namespace Go.Bv

def readF (t : List UInt8) : List (List UInt8) × Nat × Nat :=
  bif (rdL t 0 []).1 then
    bif (mat (t.drop (rdL t 0 []).2.1) (Go.Proofs.lastZ (rdL t 0 []).2.2.length (t.take (rdL t 0 []).2.1))).2 && !decide ((rdL t 0 []).2.1 + (mat (t.drop (rdL t 0 []).2.1) (Go.Proofs.lastZ (rdL t 0 []).2.2.length (t.take (rdL t 0 []).2.1))).1 < t.length)
    then ((rdL t 0 []).2.2, 0, 0)
    else ([], (rdL t 0 []).2.1 + (mat (t.drop (rdL t 0 []).2.1) (Go.Proofs.lastZ (rdL t 0 []).2.2.length (t.take (rdL t 0 []).2.1))).1, 122)
  else ([], (rdL t 0 []).2.1, 122)
theorem readF_80 (t : List UInt8) : (readF t).1.length ≤ 80 := by
  have h := readL_80 80 t 0 [] (Nat.zero_le _)
  have h : (rdL t 0 []).2.2.length ≤ 80 := h
  unfold readF
  cases (rdL t 0 []).1 with
  | false => simp
  | true =>
    cases (mat (t.drop (rdL t 0 []).2.1) (Go.Proofs.lastZ (rdL t 0 []).2.2.length (t.take (rdL t 0 []).2.1))).2 && !decide ((rdL t 0 []).2.1 + (mat (t.drop (rdL t 0 []).2.1) (Go.Proofs.lastZ (rdL t 0 []).2.2.length (t.take (rdL t 0 []).2.1))).1 < t.length) with
    | true => exact h
    | false => simp
end Go.Bv
namespace Go.Proofs
open Go Go.Bv
theorem read_body (t : List UInt8) (K : Go.Bv.KC) : (Go.Bv.LoopOK Go.Proofs.Tryz.prog (0 : Nat) Option.none (Go.Bv.loopB Go.Proofs.Tryz.prog (8 : Nat) [Bool.true, Bool.true, Bool.false, Bool.false]) Go.Proofs.readT ∧ ∃ (t_1 : List UInt8), Option.some (Go.Bv.VS.mk [((0 : Nat), Go.Bv.V.d (Go.Bv.D.str t)), ((5 : Nat), Go.Bv.V.ptr (0 : Nat) (0 : Nat)), ((2 : Nat), Go.Bv.V.d (Go.Bv.D.slice Bool.true []))] [((0 : Nat), Go.Bv.Blk.box Bool.false [Go.Bv.V.d (Go.Bv.D.str t), Go.Bv.V.d (Go.Bv.D.int Go.IntKind.i64 (0 : Int))])] (1 : Nat) [] (73 : Nat)) = Option.some (Go.Bv.VS.mk [((0 : Nat), Go.Bv.V.d (Go.Bv.D.str t_1)), ((5 : Nat), Go.Bv.V.ptr (0 : Nat) (0 : Nat)), ((2 : Nat), Go.Bv.V.d (Go.Bv.D.slice Bool.true []))] [((0 : Nat), Go.Bv.Blk.box Bool.false [Go.Bv.V.d (Go.Bv.D.str t_1), Go.Bv.V.d (Go.Bv.D.int Go.IntKind.i64 (0 : Int))])] (1 : Nat) [] (73 : Nat)) ∧ List.length t_1 ≤ (4294967280 : Nat) ∧ bif Prod.fst (Go.Bv.rdL t_1 (0 : Nat) []) then bif List.isEmpty (Prod.snd (Prod.snd (Go.Bv.rdL t_1 (0 : Nat) []))) then ((0 : Int) ≤ (0 : Int) ∧ (0 : Int) ≤ (↑(Prod.fst (Prod.snd (Go.Bv.rdL t_1 (0 : Nat) []))) : Int) ∧ (↑(Prod.fst (Prod.snd (Go.Bv.rdL t_1 (0 : Nat) []))) : Int) ≤ (↑(List.length t_1) : Int)) ∧ ((-9223372036854775808 : Int) ≤ (0 : Int) ∧ (0 : Int) ≤ (9223372036854775807 : Int) ∧ List.length (List.drop (0 : Nat) (List.take (Int.toNat (↑(Prod.fst (Prod.snd (Go.Bv.rdL t_1 (0 : Nat) []))) : Int)) t_1)) ≤ (4294967280 : Nat)) ∧ ((0 : Int) ≤ (↑(Prod.fst (Prod.snd (Go.Bv.rdL t_1 (0 : Nat) []))) : Int) ∧ Int.toNat (↑(Prod.fst (Prod.snd (Go.Bv.rdL t_1 (0 : Nat) []))) : Int) ≤ List.length t_1 ∧ List.length t_1 ≤ (4294967280 : Nat) ∧ List.length (Go.Proofs.lastZ (0 : Int) (List.drop (0 : Nat) (List.take (Int.toNat (↑(Prod.fst (Prod.snd (Go.Bv.rdL t_1 (0 : Nat) []))) : Int)) t_1))) ≤ (4294967280 : Nat)) ∧ bif !Prod.snd (Go.Bv.mat (List.drop (Int.toNat (↑(Prod.fst (Prod.snd (Go.Bv.rdL t_1 (0 : Nat) []))) : Int)) t_1) (Go.Proofs.lastZ (0 : Int) (List.drop (0 : Nat) (List.take (Int.toNat (↑(Prod.fst (Prod.snd (Go.Bv.rdL t_1 (0 : Nat) []))) : Int)) t_1)))) then K (Go.Bv.V.tup [Go.Bv.V.d (Go.Bv.D.slice Bool.true []), Go.Bv.V.d (Go.Bv.D.int Go.IntKind.i64 (↑(Int.toNat (↑(Prod.fst (Prod.snd (Go.Bv.rdL t_1 (0 : Nat) []))) : Int) + Prod.fst (Go.Bv.mat (List.drop (Int.toNat (↑(Prod.fst (Prod.snd (Go.Bv.rdL t_1 (0 : Nat) []))) : Int)) t_1) (Go.Proofs.lastZ (0 : Int) (List.drop (0 : Nat) (List.take (Int.toNat (↑(Prod.fst (Prod.snd (Go.Bv.rdL t_1 (0 : Nat) []))) : Int)) t_1))))) : Int)), Go.Bv.V.d (Go.Bv.D.int Go.IntKind.i64 (122 : Int))]) [] [] else bif Decidable.decide ((↑(Int.toNat (↑(Prod.fst (Prod.snd (Go.Bv.rdL t_1 (0 : Nat) []))) : Int) + Prod.fst (Go.Bv.mat (List.drop (Int.toNat (↑(Prod.fst (Prod.snd (Go.Bv.rdL t_1 (0 : Nat) []))) : Int)) t_1) (Go.Proofs.lastZ (0 : Int) (List.drop (0 : Nat) (List.take (Int.toNat (↑(Prod.fst (Prod.snd (Go.Bv.rdL t_1 (0 : Nat) []))) : Int)) t_1))))) : Int) < (↑(List.length t_1) : Int)) then K (Go.Bv.V.tup [Go.Bv.V.d (Go.Bv.D.slice Bool.true []), Go.Bv.V.d (Go.Bv.D.int Go.IntKind.i64 (↑(Int.toNat (↑(Prod.fst (Prod.snd (Go.Bv.rdL t_1 (0 : Nat) []))) : Int) + Prod.fst (Go.Bv.mat (List.drop (Int.toNat (↑(Prod.fst (Prod.snd (Go.Bv.rdL t_1 (0 : Nat) []))) : Int)) t_1) (Go.Proofs.lastZ (0 : Int) (List.drop (0 : Nat) (List.take (Int.toNat (↑(Prod.fst (Prod.snd (Go.Bv.rdL t_1 (0 : Nat) []))) : Int)) t_1))))) : Int)), Go.Bv.V.d (Go.Bv.D.int Go.IntKind.i64 (122 : Int))]) [] [] else K (Go.Bv.V.tup [Go.Bv.V.d (Go.Bv.D.slice Bool.true []), Go.Bv.V.d (Go.Bv.D.int Go.IntKind.i64 (0 : Int)), Go.Bv.V.d (Go.Bv.D.int Go.IntKind.i64 (0 : Int))]) [] [] else ((0 : Int) ≤ (0 : Int) ∧ (0 : Int) ≤ (↑(Prod.fst (Prod.snd (Go.Bv.rdL t_1 (0 : Nat) []))) : Int) ∧ (↑(Prod.fst (Prod.snd (Go.Bv.rdL t_1 (0 : Nat) []))) : Int) ≤ (↑(List.length t_1) : Int)) ∧ ((-9223372036854775808 : Int) ≤ (↑(List.length (Prod.snd (Prod.snd (Go.Bv.rdL t_1 (0 : Nat) [])))) : Int) ∧ (↑(List.length (Prod.snd (Prod.snd (Go.Bv.rdL t_1 (0 : Nat) [])))) : Int) ≤ (9223372036854775807 : Int) ∧ List.length (List.drop (0 : Nat) (List.take (Int.toNat (↑(Prod.fst (Prod.snd (Go.Bv.rdL t_1 (0 : Nat) []))) : Int)) t_1)) ≤ (4294967280 : Nat)) ∧ ((0 : Int) ≤ (↑(Prod.fst (Prod.snd (Go.Bv.rdL t_1 (0 : Nat) []))) : Int) ∧ Int.toNat (↑(Prod.fst (Prod.snd (Go.Bv.rdL t_1 (0 : Nat) []))) : Int) ≤ List.length t_1 ∧ List.length t_1 ≤ (4294967280 : Nat) ∧ List.length (Go.Proofs.lastZ (↑(List.length (Prod.snd (Prod.snd (Go.Bv.rdL t_1 (0 : Nat) [])))) : Int) (List.drop (0 : Nat) (List.take (Int.toNat (↑(Prod.fst (Prod.snd (Go.Bv.rdL t_1 (0 : Nat) []))) : Int)) t_1))) ≤ (4294967280 : Nat)) ∧ bif !Prod.snd (Go.Bv.mat (List.drop (Int.toNat (↑(Prod.fst (Prod.snd (Go.Bv.rdL t_1 (0 : Nat) []))) : Int)) t_1) (Go.Proofs.lastZ (↑(List.length (Prod.snd (Prod.snd (Go.Bv.rdL t_1 (0 : Nat) [])))) : Int) (List.drop (0 : Nat) (List.take (Int.toNat (↑(Prod.fst (Prod.snd (Go.Bv.rdL t_1 (0 : Nat) []))) : Int)) t_1)))) then K (Go.Bv.V.tup [Go.Bv.V.d (Go.Bv.D.slice Bool.true []), Go.Bv.V.d (Go.Bv.D.int Go.IntKind.i64 (↑(Int.toNat (↑(Prod.fst (Prod.snd (Go.Bv.rdL t_1 (0 : Nat) []))) : Int) + Prod.fst (Go.Bv.mat (List.drop (Int.toNat (↑(Prod.fst (Prod.snd (Go.Bv.rdL t_1 (0 : Nat) []))) : Int)) t_1) (Go.Proofs.lastZ (↑(List.length (Prod.snd (Prod.snd (Go.Bv.rdL t_1 (0 : Nat) [])))) : Int) (List.drop (0 : Nat) (List.take (Int.toNat (↑(Prod.fst (Prod.snd (Go.Bv.rdL t_1 (0 : Nat) []))) : Int)) t_1))))) : Int)), Go.Bv.V.d (Go.Bv.D.int Go.IntKind.i64 (122 : Int))]) [] [] else bif Decidable.decide ((↑(Int.toNat (↑(Prod.fst (Prod.snd (Go.Bv.rdL t_1 (0 : Nat) []))) : Int) + Prod.fst (Go.Bv.mat (List.drop (Int.toNat (↑(Prod.fst (Prod.snd (Go.Bv.rdL t_1 (0 : Nat) []))) : Int)) t_1) (Go.Proofs.lastZ (↑(List.length (Prod.snd (Prod.snd (Go.Bv.rdL t_1 (0 : Nat) [])))) : Int) (List.drop (0 : Nat) (List.take (Int.toNat (↑(Prod.fst (Prod.snd (Go.Bv.rdL t_1 (0 : Nat) []))) : Int)) t_1))))) : Int) < (↑(List.length t_1) : Int)) then K (Go.Bv.V.tup [Go.Bv.V.d (Go.Bv.D.slice Bool.true []), Go.Bv.V.d (Go.Bv.D.int Go.IntKind.i64 (↑(Int.toNat (↑(Prod.fst (Prod.snd (Go.Bv.rdL t_1 (0 : Nat) []))) : Int) + Prod.fst (Go.Bv.mat (List.drop (Int.toNat (↑(Prod.fst (Prod.snd (Go.Bv.rdL t_1 (0 : Nat) []))) : Int)) t_1) (Go.Proofs.lastZ (↑(List.length (Prod.snd (Prod.snd (Go.Bv.rdL t_1 (0 : Nat) [])))) : Int) (List.drop (0 : Nat) (List.take (Int.toNat (↑(Prod.fst (Prod.snd (Go.Bv.rdL t_1 (0 : Nat) []))) : Int)) t_1))))) : Int)), Go.Bv.V.d (Go.Bv.D.int Go.IntKind.i64 (122 : Int))]) [] [] else K (Go.Bv.V.tup [Go.Bv.V.sref (0 : Nat) (List.length (Prod.snd (Prod.snd (Go.Bv.rdL t_1 (0 : Nat) [])))), Go.Bv.V.d (Go.Bv.D.int Go.IntKind.i64 (0 : Int)), Go.Bv.V.d (Go.Bv.D.int Go.IntKind.i64 (0 : Int))]) [Go.Bv.Blk.row (1 : Nat) (0 : Nat) Bool.false (Go.Bv.strsD (Prod.snd (Prod.snd (Go.Bv.rdL t_1 (0 : Nat) []))))] [] else K (Go.Bv.V.tup [Go.Bv.V.d (Go.Bv.D.slice Bool.true []), Go.Bv.V.d (Go.Bv.D.int Go.IntKind.i64 (↑(Prod.fst (Prod.snd (Go.Bv.rdL t_1 (0 : Nat) []))) : Int)), Go.Bv.V.d (Go.Bv.D.int Go.IntKind.i64 (122 : Int))]) [] []) = (inlN Tryz.prog xRead lRead 4 8 [.d (.str t)] [] K) := by kernel_rfl
def readS : FSpec := fun args H K => match args, H with
  | [.d (.str t)], [] => t.length ≤ 4294967280 ∧
      bif (readF t).1.isEmpty then K (.tup [.d (.slice true []), .d (.int .i64 ((readF t).2.1 : Nat)), .d (.int .i64 ((readF t).2.2 : Nat))]) [] []
      else K (.tup [.sref 0 (readF t).1.length, .d (.int .i64 ((readF t).2.1 : Nat)), .d (.int .i64 ((readF t).2.2 : Nat))]) [.row 1 0 false (strsD (readF t).1)] []
  | _, _ => False
theorem readS_ok : FOK2 Tryz.prog 8 readS := by
  obtain ⟨sp, hsp⟩ : ∃ sp, sp = inlN Tryz.prog xRead lRead 4 8 := ⟨_, rfl⟩
  have hok : FOK2 Tryz.prog 8 sp := hsp ▸ inlN_ok (LL := lRead) xRead_ok mixed 4 8
  refine hok.imp fun args H K h => ?_
  unfold readS at h
  split at h
  · rename_i t
    obtain ⟨h1, h2⟩ := h
    rw [hsp]
    show inlN Tryz.prog xRead lRead 4 8 [.d (.str t)] [] K
    rw [← read_body]
    clear hok hsp
    refine ⟨readT_ok, t, rfl, h1, ?_⟩
    have a1 : (rdL t 0 []).2.1 ≤ t.length := readL_le 80 t 0 [] (Nat.zero_le _)
    have a2 : (rdL t 0 []).2.2.length ≤ 80 := readL_80 80 t 0 [] (Nat.zero_le _)
    unfold readF at h2
    generalize hr : rdL t 0 [] = q at h2 a1 a2 ⊢
    obtain ⟨ok, a, xs⟩ := q
    simp only [Int.toNat_natCast, List.drop_zero] at h2 a1 a2 ⊢
    cases ok with
    | false => exact h2
    | true =>
      have lt : (t.take a).length ≤ 4294967280 := by rw [List.length_take]; omega
      cases xs with
      | nil =>
        have lz := lastZ_len 0 (t.take a)
        simp only [List.length_nil, cond_true, List.isEmpty_nil, Int.natCast_zero] at h2 ⊢
        generalize hm : mat (t.drop a) (lastZ 0 (t.take a)) = m at h2 ⊢
        obtain ⟨j, b⟩ := m
        refine ⟨⟨by omega, by omega, by omega⟩, ⟨by omega, by omega, lt⟩, ⟨by omega, a1, h1, by omega⟩, ?_⟩
        cases b with
        | false => exact h2
        | true =>
          cases hd : decide (a + j < t.length) with
          | false =>
            have e : decide (((a + j : Nat) : Int) < (t.length : Int)) = false := by simp only [decide_eq_false_iff_not] at hd ⊢; omega
            simp only [hd] at h2
            simp only [e]
            exact h2
          | true =>
            have e : decide (((a + j : Nat) : Int) < (t.length : Int)) = true := by simp only [decide_eq_true_eq] at hd ⊢; omega
            simp only [hd] at h2
            simp only [e]
            exact h2
      | cons x r =>
        generalize hxs : x :: r = xs at *
        have hne : xs.isEmpty = false := by rw [← hxs]; rfl
        have lz := lastZ_len (xs.length : Nat) (t.take a)
        rw [hne]
        generalize hm : mat (t.drop a) (lastZ (xs.length : Nat) (t.take a)) = m at h2 ⊢
        obtain ⟨j, b⟩ := m
        refine ⟨⟨by omega, by omega, by omega⟩, ⟨by omega, by omega, lt⟩, ⟨by omega, a1, h1, by omega⟩, ?_⟩
        cases b with
        | false => exact h2
        | true =>
          cases hd : decide (a + j < t.length) with
          | false =>
            have e : decide (((a + j : Nat) : Int) < (t.length : Int)) = false := by simp only [decide_eq_false_iff_not] at hd ⊢; omega
            simp only [hd, Bool.not_false, Bool.and_true, cond_true, hne] at h2
            simp only [e]
            exact h2
          | true =>
            have e : decide (((a + j : Nat) : Int) < (t.length : Int)) = true := by simp only [decide_eq_true_eq] at hd ⊢; omega
            simp only [hd] at h2
            simp only [e]
            exact h2
  · exact h.elim
end Go.Proofs

namespace Go.Bv
theorem strsD_getD (xs : List (List UInt8)) (i : Nat) (h : i < xs.length) : (strsD xs).getD i [] = [.str (xs.getD i [])] := by
  rw [List.getD_eq_getElem?_getD, List.getD_eq_getElem?_getD]
  unfold strsD
  rw [List.getElem?_map, List.getElem?_eq_getElem h]; rfl
theorem digs_app : ∀ (f n : Nat) (acc : List UInt8), digs f n acc = digs f n [] ++ acc
  | 0, n, acc => by simp [digs]
  | f + 1, n, acc => by
    simp only [digs]
    cases Nat.blt n 10 with
    | true => rfl
    | false =>
      simp only [cond_false]
      rw [digs_app f (n / 10) (UInt8.ofNat (48 + n % 10) :: acc), digs_app f (n / 10) [UInt8.ofNat (48 + n % 10)]]
      simp
theorem digs_fuel : ∀ (f n : Nat) (acc : List UInt8), 0 < f → n < 10 ^ f → digs (f + 1) n acc = digs f n acc
  | 0, n, acc, h, _ => absurd h (Nat.lt_irrefl _)
  | f + 1, n, acc, _, h => by
    by_cases h10 : n < 10
    · have e : Nat.blt n 10 = true := by simp only [Nat.blt_eq]; exact h10
      simp only [digs, e, cond_true]
    · have e : Nat.blt n 10 = false := by
        cases hb : Nat.blt n 10 with
        | false => rfl
        | true => simp only [Nat.blt_eq] at hb; omega
      cases f with
      | zero => simp at h; omega
      | succ f =>
        rw [show digs (f + 1 + 1 + 1) n acc = bif Nat.blt n 10 then UInt8.ofNat (48 + n) :: acc else digs (f + 1 + 1) (n / 10) (UInt8.ofNat (48 + n % 10) :: acc) from rfl,
          show digs (f + 1 + 1) n acc = bif Nat.blt n 10 then UInt8.ofNat (48 + n) :: acc else digs (f + 1) (n / 10) (UInt8.ofNat (48 + n % 10) :: acc) from rfl, e]
        simp only [cond_false]
        exact digs_fuel (f + 1) (n / 10) _ (by omega) (by rw [Nat.pow_succ] at h; omega)
theorem itoaL_small (n : Nat) (h : n < 10) : itoaL n = [UInt8.ofNat (48 + n)] := by
  have e : Nat.blt n 10 = true := by simp only [Nat.blt_eq]; exact h
  show digs 20 n [] = _
  simp only [digs, e, cond_true]
theorem itoaL_step (n : Nat) (h : 10 ≤ n) (hb : n < 10 ^ 20) : itoaL n = itoaL (n / 10 : Nat) ++ [UInt8.ofNat (48 + n % 10)] := by
  have e : Nat.blt n 10 = false := by
    cases hb : Nat.blt n 10 with
    | false => rfl
    | true => simp only [Nat.blt_eq] at hb; omega
  show digs 20 n [] = digs 20 (n / 10) [] ++ _
  rw [show (20 : Nat) = 19 + 1 from rfl, digs_fuel 19 (n / 10) [] (by decide) (by omega)]
  simp only [digs, e, cond_false]
  exact digs_app 19 _ _
theorem wrap_i32 (n : Nat) (h : n < 1000) : IntKind.i32.wrap (n : Int) = n := by
  simp [IntKind.wrap, IntKind.signed, IntKind.bits] <;> omega
theorem encode_digit (n : Nat) (h : n < 10) : (Utf8.encode (IntKind.i32.wrap (IntKind.i64.wrap (48 + (n : Int))))).data.toList = [UInt8.ofNat (48 + n)] := by
  have : n = 0 ∨ n = 1 ∨ n = 2 ∨ n = 3 ∨ n = 4 ∨ n = 5 ∨ n = 6 ∨ n = 7 ∨ n = 8 ∨ n = 9 := by omega
  rcases this with rfl | rfl | rfl | rfl | rfl | rfl | rfl | rfl | rfl | rfl <;> rfl

def farN : List (List UInt8) → Nat → Nat
  | [], n => n
  | x :: r, n => bif decide (n ≤ 3000) then farN r (n + (x.length + 2)) else n
theorem farN_ge : ∀ (xs : List (List UInt8)) (n : Nat), n ≤ farN xs n
  | [], n => Nat.le_refl _
  | x :: r, n => by
    simp only [farN]
    cases decide (n ≤ 3000) with
    | true => have := farN_ge r (n + (x.length + 2)); simp only [cond_true]; omega
    | false => exact Nat.le_refl _
theorem farN_mem : ∀ (xs : List (List UInt8)) (n : Nat), farN xs n ≤ 3000 → ∀ x, x ∈ xs → x.length ≤ 3000
  | [], n, h, x, hx => by cases hx
  | y :: r, n, h, x, hx => by
    simp only [farN] at h
    cases hd : decide (n ≤ 3000) with
    | true =>
      rw [hd] at h
      simp only [cond_true] at h
      have := farN_ge r (n + (y.length + 2))
      cases hx with
      | head => omega
      | tail _ hx => exact farN_mem r _ h x hx
    | false => rw [hd] at h; simp only [cond_false, decide_eq_false_iff_not] at h hd; omega
def farB (xs : List (List UInt8)) : Bool := decide (200 < xs.length) || decide (3000 < farN xs 0)
end Go.Bv
namespace Go.Proofs
open Go Go.Bv

def decQ (k : Nat) : FSpec := fun args H K => match args, H with
  | [.d (.int .i64 n)], [] => (0 ≤ n ∧ n < k) ∧ K (.d (.str (itoaL n))) [] []
  | _, _ => False
def xDec (k : Nat) : SX := fun f => bif Nat.beq f 22 then some (decQ k) else xLib f
theorem dec_body (k : Nat) (n : Nat) (K : Go.Bv.KC) : (bif Decidable.decide ((↑n : Int) < (10 : Int)) then K (Go.Bv.V.d (Go.Bv.D.str (Array.toList (ByteArray.data (Go.Utf8.encode (Go.IntKind.wrap Go.IntKind.i32 (Go.IntKind.wrap Go.IntKind.i64 ((48 : Int) + (↑n : Int))))))))) [] [] else (10 : Int) ≠ (0 : Int) ∧ ((0 : Int) ≤ Go.IntKind.wrap Go.IntKind.i64 (Int.tdiv (↑n : Int) (10 : Int)) ∧ Go.IntKind.wrap Go.IntKind.i64 (Int.tdiv (↑n : Int) (10 : Int)) < (↑k : Int)) ∧ (10 : Int) ≠ (0 : Int) ∧ List.length (Go.Bv.itoaL (Go.IntKind.wrap Go.IntKind.i64 (Int.tdiv (↑n : Int) (10 : Int)))) + List.length (Array.toList (ByteArray.data (Go.Utf8.encode (Go.IntKind.wrap Go.IntKind.i32 (Go.IntKind.wrap Go.IntKind.i64 ((48 : Int) + Int.tmod (↑n : Int) (10 : Int))))))) ≤ (9223372036854775807 : Nat) ∧ K (Go.Bv.V.d (Go.Bv.D.str (Go.Bv.itoaL (Go.IntKind.wrap Go.IntKind.i64 (Int.tdiv (↑n : Int) (10 : Int))) ++ Array.toList (ByteArray.data (Go.Utf8.encode (Go.IntKind.wrap Go.IntKind.i32 (Go.IntKind.wrap Go.IntKind.i64 ((48 : Int) + Int.tmod (↑n : Int) (10 : Int))))))))) [] []) = (inlN Tryz.prog (xDec k) l0 1 22 [.d (.int .i64 n)] [] K) := by kernel_rfl
theorem decQ_ok : ∀ k : Nat, k ≤ 9223372036854775807 → FOK2 Tryz.prog 22 (decQ k)
  | 0, _ => by
    intro args H K h
    unfold decQ at h
    split at h
    · exact absurd h.1.2 (by have := h.1.1; omega)
    · exact h.elim
  | k + 1, hk => by
    have ih := decQ_ok k (by omega)
    have hX : XOK Tryz.prog (xDec k) := sx_cons ih xLib_ok
    obtain ⟨sp, hsp⟩ : ∃ sp, sp = inlN Tryz.prog (xDec k) l0 1 22 := ⟨_, rfl⟩
    have hok : FOK2 Tryz.prog 22 sp := hsp ▸ inlN_ok (LL := l0) hX mixed 1 22
    refine hok.imp fun args H K h => ?_
    unfold decQ at h
    split at h
    · rename_i n0
      obtain ⟨⟨h0, h1⟩, h2⟩ := h
      obtain ⟨n, rfl⟩ : ∃ n : Nat, n0 = n := ⟨n0.toNat, by omega⟩
      rw [hsp]
      show inlN Tryz.prog (xDec k) l0 1 22 [.d (.int .i64 n)] [] K
      rw [← dec_body]
      clear hok hsp hX ih
      by_cases h10 : n < 10
      · have e : decide ((n : Int) < 10) = true := by simp only [decide_eq_true_eq]; omega
        rw [e, encode_digit n h10]
        rw [itoaL_small n h10] at h2
        exact h2
      · have e : decide ((n : Int) < 10) = false := by simp only [decide_eq_false_iff_not]; omega
        have t1 : IntKind.i64.wrap (Int.tdiv (n : Int) 10) = ((n / 10 : Nat) : Int) := by
          rw [Int.tdiv_eq_ediv_of_nonneg (by omega), wrap_in _ (by omega) (by omega)]; omega
        have t2 : Int.tmod (n : Int) 10 = ((n % 10 : Nat) : Int) := by
          rw [Int.tmod_eq_emod_of_nonneg (by omega)]; omega
        rw [e, t1, t2, encode_digit (n % 10) (by omega)]
        rw [itoaL_step n (by omega) (by omega)] at h2
        have l1 := itoaL_len (n / 10 : Nat)
        exact ⟨by decide, ⟨by omega, by omega⟩, by decide, by simp only [List.length_singleton]; omega, h2⟩
    · exact h.elim
def decS : FSpec := fun args H K => match args, H with
  | [.d (.int .i64 n)], [] => (0 ≤ n ∧ n < 9223372036854775807) ∧ K (.d (.str (itoaL n))) [] []
  | _, _ => False
theorem decS_ok : FOK2 Tryz.prog 22 decS := (decQ_ok 9223372036854775807 (Nat.le_refl _)).imp fun args H K h => h

def ilS (bs : List UInt8) (i : Nat) : VS := stN 18 [(0, .d (.str bs)), (3, .d (.int .i64 i))] []
def ilE (bs : List UInt8) (v : V) : VS := stN 18 [(0, .d (.str bs)), (2, v)] []
theorem isLine_round (bs : List UInt8) (i : Nat) (Kn : Option Go.Bv.VS → Prop) (Ke : Go.Exit → Option Go.Bv.VS → Prop) : (bif Decidable.decide ((↑i : Int) < (↑(List.length bs) : Int)) then ((0 : Int) ≤ (↑i : Int) ∧ (↑i : Int) < (↑(List.length bs) : Int)) ∧ bif Decidable.decide ((32 : Int) ≤ (↑(UInt8.toNat (List.getD bs (Int.toNat (↑i : Int)) (0 : UInt8))) : Int)) then bif !Decidable.decide ((↑(UInt8.toNat (List.getD bs (Int.toNat (↑i : Int)) (0 : UInt8))) : Int) ≤ (126 : Int)) then Ke Go.Exit.ret (Option.some (Go.Bv.VS.mk [((0 : Nat), Go.Bv.V.d (Go.Bv.D.str bs)), ((2 : Nat), Go.Bv.V.d (Go.Bv.D.bool Bool.false))] [] (0 : Nat) [] (18 : Nat))) else Kn (Option.some (Go.Bv.VS.mk [((0 : Nat), Go.Bv.V.d (Go.Bv.D.str bs)), ((3 : Nat), Go.Bv.V.d (Go.Bv.D.int Go.IntKind.i64 (Go.IntKind.wrap Go.IntKind.i64 ((↑i : Int) + (1 : Int)))))] [] (0 : Nat) [] (18 : Nat))) else Ke Go.Exit.ret (Option.some (Go.Bv.VS.mk [((0 : Nat), Go.Bv.V.d (Go.Bv.D.str bs)), ((2 : Nat), Go.Bv.V.d (Go.Bv.D.bool Bool.false))] [] (0 : Nat) [] (18 : Nat))) else Ke (Go.Exit.exit (0 : Nat)) (Option.some (Go.Bv.VS.mk [((0 : Nat), Go.Bv.V.d (Go.Bv.D.str bs)), ((2 : Nat), Go.Bv.V.junk)] [] (0 : Nat) [] (18 : Nat)))) = (roundP Tryz.prog xLib iLib 0 (fun _ => none) (loopB Tryz.prog 21 [true, false, true, false]) [0, 3] [0, 2] (ilS bs i) Kn Ke) := by kernel_rfl
def ilT : LoopT := fun s W Q => ∃ bs, canonN 0 [0, 3] s = some (ilS bs 0) ∧ bs.length ≤ 4294967280 ∧ bif bs.all prB then Q (.exit 0) (ilE bs .junk) [] else Q .ret (ilE bs (.d (.bool false))) []
def ilR (p : List UInt8 × Nat) (e : Exit) (s : VS) : Prop := bif (p.1.drop p.2).all prB then e = .exit 0 ∧ s = ilE p.1 .junk else e = .ret ∧ s = ilE p.1 (.d (.bool false))
theorem ilT_ok : LoopOK Tryz.prog 0 none (loopB Tryz.prog 21 [true, false, true, false]) ilT := by
  refine LoopOK.walk xLib_ok iLib_ok mixed [0, 3] [0, 2] (L := fun _ => none) (fun p : List UInt8 × Nat => ilS p.1 p.2) (fun p => p.2 ≤ p.1.length ∧ p.1.length ≤ 4294967280) (fun p => p.1.length - p.2) ilR ?_ ?_
  · intro p hp
    obtain ⟨bs, i⟩ := p
    have hi : i ≤ bs.length := hp.1
    have hB : bs.length ≤ 4294967280 := hp.2
    clear hp
    show roundP Tryz.prog xLib iLib 0 (fun _ => none) (loopB Tryz.prog 21 [true, false, true, false]) [0, 3] [0, 2] (ilS bs i) _ _
    rw [← isLine_round]
    simp only [Bool.cond_decide, Bool.cond_not, Int.toNat_natCast]
    split
    · rename_i hlt
      have hlt' : i < bs.length := by omega
      have hd : bs.drop i = bs.getD i 0 :: bs.drop (i + 1) := drop_cons hlt' 0
      refine ⟨⟨by omega, hlt⟩, ?_⟩
      split
      · split
        · refine ⟨(bs, i + 1), ?_, ⟨by simp only; omega, hB⟩, by simp only; omega, fun e s' h => ?_⟩
          · rw [wrap_in _ (by omega) (by omega)]; simp only [ilS, Int.natCast_add, Int.cast_ofNat_Int]; rfl
          · have hp : prB (bs.getD i 0) = true := by simp only [prB, decide_eq_true_eq]; omega
            simp only [ilR, hd, List.all_cons, hp, Bool.true_and]; exact h
        · refine ⟨_, rfl, ?_⟩
          have hp : prB (bs.getD i 0) = false := by simp only [prB, decide_eq_false_iff_not]; omega
          simp only [ilR, hd, List.all_cons, hp, Bool.false_and, cond_false]; exact ⟨trivial, rfl⟩
      · refine ⟨_, rfl, ?_⟩
        have hp : prB (bs.getD i 0) = false := by simp only [prB, decide_eq_false_iff_not]; omega
        simp only [ilR, hd, List.all_cons, hp, Bool.false_and, cond_false]; exact ⟨trivial, rfl⟩
    · rename_i hge
      refine ⟨_, rfl, ?_⟩
      have : bs.drop i = [] := List.drop_eq_nil_of_le (by omega)
      simp only [ilR, this, List.all_nil, cond_true]; exact ⟨trivial, rfl⟩
  · intro s W Q hT
    obtain ⟨bs, h1, h2, h3⟩ := hT
    refine ⟨(bs, 0), h1, ⟨Nat.zero_le _, h2⟩, fun e s' h => ⟨[], ?_⟩⟩
    simp only [ilR, List.drop_zero] at h
    cases hb : bs.all prB with
    | true => rw [hb] at h h3; obtain ⟨rfl, rfl⟩ := h; exact h3
    | false => rw [hb] at h h3; obtain ⟨rfl, rfl⟩ := h; exact h3

def rlS (n : Int) (bs : List UInt8) (c i : Nat) : VS := stN 29 [(0, .d (.int .i64 n)), (1, .d (.str bs)), (5, .d (.int .i64 c)), (6, .d (.int .i64 i))] []
def rlE (n : Int) (bs : List UInt8) (c : Nat) : VS := stN 29 [(0, .d (.int .i64 n)), (1, .d (.str bs)), (5, .d (.int .i64 c))] []
theorem rlast_round (n : Int) (bs : List UInt8) (c : Nat) (i : Nat) (Kn : Option Go.Bv.VS → Prop) (Ke : Go.Exit → Option Go.Bv.VS → Prop) : (bif Decidable.decide ((↑i : Int) < (↑(List.length bs) : Int)) then ((0 : Int) ≤ (↑i : Int) ∧ (↑i : Int) < (↑(List.length bs) : Int)) ∧ (65521 : Int) ≠ (0 : Int) ∧ Kn (Option.some (Go.Bv.VS.mk [((0 : Nat), Go.Bv.V.d (Go.Bv.D.int Go.IntKind.i64 n)), ((1 : Nat), Go.Bv.V.d (Go.Bv.D.str bs)), ((5 : Nat), Go.Bv.V.d (Go.Bv.D.int Go.IntKind.i64 (Int.tmod (Go.IntKind.wrap Go.IntKind.i64 (Go.IntKind.wrap Go.IntKind.i64 ((31 : Int) * (↑c : Int)) + Go.IntKind.wrap Go.IntKind.i64 (↑(UInt8.toNat (List.getD bs (Int.toNat (↑i : Int)) (0 : UInt8))) : Int))) (65521 : Int)))), ((6 : Nat), Go.Bv.V.d (Go.Bv.D.int Go.IntKind.i64 (Go.IntKind.wrap Go.IntKind.i64 ((↑i : Int) + (1 : Int)))))] [] (0 : Nat) [] (29 : Nat))) else Ke (Go.Exit.exit (0 : Nat)) (Option.some (Go.Bv.VS.mk [((0 : Nat), Go.Bv.V.d (Go.Bv.D.int Go.IntKind.i64 n)), ((1 : Nat), Go.Bv.V.d (Go.Bv.D.str bs)), ((5 : Nat), Go.Bv.V.d (Go.Bv.D.int Go.IntKind.i64 (↑c : Int)))] [] (0 : Nat) [] (29 : Nat)))) = (roundP Tryz.prog xLib iLib 0 (fun _ => none) (loopB Tryz.prog 23 [true, true, false, true, false]) [0, 1, 5, 6] [0, 1, 5] (rlS n bs c i) Kn Ke) := by kernel_rfl
def rlT : LoopT := fun s W Q => ∃ (n : Int) (bs : List UInt8), canonN 0 [0, 1, 5, 6] s = some (rlS n bs 7 0) ∧ bs.length ≤ 4294967280 ∧ Q (.exit 0) (rlE n bs (sumL bs 7)) []
theorem rlT_ok : LoopOK Tryz.prog 0 none (loopB Tryz.prog 23 [true, true, false, true, false]) rlT := by
  refine LoopOK.walk xLib_ok iLib_ok mixed [0, 1, 5, 6] [0, 1, 5] (L := fun _ => none) (fun p : Int × List UInt8 × Nat × Nat => rlS p.1 p.2.1 p.2.2.2 p.2.2.1) (fun p => p.2.2.1 ≤ p.2.1.length ∧ p.2.1.length ≤ 4294967280 ∧ p.2.2.2 < 65521) (fun p => p.2.1.length - p.2.2.1)
    (fun p e s => e = .exit 0 ∧ s = rlE p.1 p.2.1 (sumL (p.2.1.drop p.2.2.1) p.2.2.2)) ?_ ?_
  · intro p hp
    obtain ⟨n, bs, i, c⟩ := p
    have hi : i ≤ bs.length := hp.1
    have hB : bs.length ≤ 4294967280 := hp.2.1
    have hc : c < 65521 := hp.2.2
    clear hp
    show roundP Tryz.prog xLib iLib 0 (fun _ => none) (loopB Tryz.prog 23 [true, true, false, true, false]) [0, 1, 5, 6] [0, 1, 5] (rlS n bs c i) _ _
    rw [← rlast_round]
    simp only [Bool.cond_decide, Int.toNat_natCast]
    split
    · rename_i hlt
      have hlt' : i < bs.length := by omega
      have hd : bs.drop i = bs.getD i 0 :: bs.drop (i + 1) := drop_cons hlt' 0
      have hb : (bs.getD i 0).toNat < 256 := UInt8.toNat_lt _
      refine ⟨⟨by omega, hlt⟩, by decide, (n, bs, i + 1, (31 * c + (bs.getD i 0).toNat) % 65521), ?_, ⟨by simp only; omega, hB, by simp only; omega⟩, by simp only; omega, fun e s' h => ?_⟩
      · rw [sum_step c _ hc hb, wrap_in _ (by omega) (by omega)]
        simp only [rlS, Int.natCast_add, Int.cast_ofNat_Int]; rfl
      · simp only [hd, sumL]; exact h
    · rename_i hge
      have : bs.drop i = [] := List.drop_eq_nil_of_le (by omega)
      refine ⟨_, rfl, trivial, ?_⟩
      simp only [this, sumL]; rfl
  · intro s W Q hT
    obtain ⟨n, bs, h1, h2, h3⟩ := hT
    refine ⟨(n, bs, 0, 7), h1, ⟨Nat.zero_le _, h2, by show (7 : Nat) < 65521; decide⟩, fun e s' h => ⟨[], ?_⟩⟩
    obtain ⟨rfl, h⟩ := h
    simp only [List.drop_zero] at h
    rw [h]; exact h3

def faS (b : Bool) (es : List (List D)) (n i : Nat) : VS := stN 30 [(0, .d (.slice b es)), (3, .d (.int .i64 n)), (4, .d (.int .i64 i))] []
def faE (b : Bool) (es : List (List D)) (n : Nat) : VS := stN 30 [(0, .d (.slice b es)), (3, .d (.int .i64 n))] []
theorem far_round (b : Bool) (es : List (List Go.Bv.D)) (n : Nat) (i : Nat) (Kn : Option Go.Bv.VS → Prop) (Ke : Go.Exit → Option Go.Bv.VS → Prop) : (bif Decidable.decide ((↑i : Int) < (↑(List.length es) : Int)) then bif Decidable.decide ((↑n : Int) ≤ (3000 : Int)) then ((0 : Int) ≤ (↑i : Int) ∧ (↑i : Int) < (↑(List.length es) : Int) ∧ List.length (List.getD es (Int.toNat (↑i : Int)) []) = (1 : Nat)) ∧ (List.brecOn.go (motive := fun (x : List Go.Bv.D) => Nat → Option Go.Bv.D) (List.getD es (Int.toNat (↑i : Int)) []) List.get?Internal._f).1 (0 : Nat) = Option.some (Go.Bv.D.str (Go.Bv.D.s (List.getD (List.getD es (Int.toNat (↑i : Int)) []) (0 : Nat) Go.Bv.D.nilp))) ∧ Kn (Option.some (Go.Bv.VS.mk [((0 : Nat), Go.Bv.V.d (Go.Bv.D.slice b es)), ((3 : Nat), Go.Bv.V.d (Go.Bv.D.int Go.IntKind.i64 (Go.IntKind.wrap Go.IntKind.i64 ((↑n : Int) + Go.IntKind.wrap Go.IntKind.i64 ((↑(List.length (Go.Bv.D.s (List.getD (List.getD es (Int.toNat (↑i : Int)) []) (0 : Nat) Go.Bv.D.nilp))) : Int) + (2 : Int)))))), ((4 : Nat), Go.Bv.V.d (Go.Bv.D.int Go.IntKind.i64 (Go.IntKind.wrap Go.IntKind.i64 ((↑i : Int) + (1 : Int)))))] [] (0 : Nat) [] (30 : Nat))) else Ke (Go.Exit.exit (0 : Nat)) (Option.some (Go.Bv.VS.mk [((0 : Nat), Go.Bv.V.d (Go.Bv.D.slice b es)), ((3 : Nat), Go.Bv.V.d (Go.Bv.D.int Go.IntKind.i64 (↑n : Int)))] [] (0 : Nat) [] (30 : Nat))) else Ke (Go.Exit.exit (0 : Nat)) (Option.some (Go.Bv.VS.mk [((0 : Nat), Go.Bv.V.d (Go.Bv.D.slice b es)), ((3 : Nat), Go.Bv.V.d (Go.Bv.D.int Go.IntKind.i64 (↑n : Int)))] [] (0 : Nat) [] (30 : Nat)))) = (roundP Tryz.prog xLib iLib 0 (fun _ => none) (loopB Tryz.prog 5 [true, true, false, true, false]) [0, 3, 4] [0, 3] (faS b es n i) Kn Ke) := by kernel_rfl
def faT : LoopT := fun s W Q => ∃ (b : Bool) (xs : List (List UInt8)), canonN 0 [0, 3, 4] s = some (faS b (strsD xs) 0 0) ∧ ((∀ x, x ∈ xs → x.length ≤ 140737488355328) ∧ xs.length ≤ 140737488355328) ∧ Q (.exit 0) (faE b (strsD xs) (farN xs 0)) []
theorem faT_ok : LoopOK Tryz.prog 0 none (loopB Tryz.prog 5 [true, true, false, true, false]) faT := by
  refine LoopOK.walk xLib_ok iLib_ok mixed [0, 3, 4] [0, 3] (L := fun _ => none) (fun p : Bool × List (List UInt8) × Nat × Nat => faS p.1 (strsD p.2.1) p.2.2.2 p.2.2.1) (fun p => (p.2.2.1 ≤ p.2.1.length ∧ (∀ x, x ∈ p.2.1 → x.length ≤ 140737488355328) ∧ p.2.1.length ≤ 140737488355328)) (fun p => p.2.1.length - p.2.2.1)
    (fun p e s => e = .exit 0 ∧ s = faE p.1 (strsD p.2.1) (farN (p.2.1.drop p.2.2.1) p.2.2.2)) ?_ ?_
  · intro p hp
    obtain ⟨b, xs, i, n⟩ := p
    have hi : i ≤ xs.length := hp.1
    have hx : ∀ x, x ∈ xs → x.length ≤ 140737488355328 := hp.2.1
    have hl : xs.length ≤ 140737488355328 := hp.2.2
    clear hp
    show roundP Tryz.prog xLib iLib 0 (fun _ => none) (loopB Tryz.prog 5 [true, true, false, true, false]) [0, 3, 4] [0, 3] (faS b (strsD xs) n i) _ _
    rw [← far_round]
    simp only [Int.toNat_natCast, strsD_len]
    by_cases hlt : i < xs.length
    · have e0 : decide ((i : Int) < (xs.length : Int)) = true := by simp only [decide_eq_true_eq]; omega
      have hd : xs.drop i = xs.getD i [] :: xs.drop (i + 1) := drop_cons hlt []
      rw [e0]
      by_cases h3 : n ≤ 3000
      · have e1 : decide ((n : Int) ≤ 3000) = true := by simp only [decide_eq_true_eq]; omega
        have e2 : decide (n ≤ 3000) = true := by simp only [decide_eq_true_eq]; omega
        have hm : (xs.getD i []).length ≤ 140737488355328 := by
          apply hx
          rw [List.getD_eq_getElem?_getD, List.getElem?_eq_getElem hlt]
          exact List.getElem_mem hlt
        rw [e1, strsD_getD xs i hlt]
        have hw : IntKind.i64.wrap ((n : Int) + IntKind.i64.wrap (((xs.getD i []).length : Int) + 2)) = ((n + ((xs.getD i []).length + 2) : Nat) : Int) := by
          rw [wrap_in (((xs.getD i []).length : Int) + 2) (by omega) (by omega), wrap_in _ (by omega) (by omega)]; omega
        refine ⟨⟨by omega, by omega, rfl⟩, rfl, (b, xs, i + 1, n + ((xs.getD i []).length + 2)), ?_, ⟨by simp only; omega, hx, hl⟩, by simp only; omega, fun e s' h => ?_⟩
        · simp only [List.getD_cons_zero, D.s]
          rw [hw, wrap_in ((i : Int) + 1) (by omega) (by omega)]
          simp only [faS, Int.natCast_add, Int.cast_ofNat_Int]; rfl
        · simp only [hd, farN, e2, cond_true]; exact h
      · have e1 : decide ((n : Int) ≤ 3000) = false := by simp only [decide_eq_false_iff_not]; omega
        have e2 : decide (n ≤ 3000) = false := by simp only [decide_eq_false_iff_not]; omega
        rw [e1]
        refine ⟨_, rfl, trivial, ?_⟩
        simp only [hd, farN, e2, cond_false]; rfl
    · have e0 : decide ((i : Int) < (xs.length : Int)) = false := by simp only [decide_eq_false_iff_not]; omega
      have : xs.drop i = [] := List.drop_eq_nil_of_le (by omega)
      rw [e0]
      refine ⟨_, rfl, trivial, ?_⟩
      simp only [this, farN]; rfl
  · intro s W Q hT
    obtain ⟨b, xs, h1, h2, h3⟩ := hT
    refine ⟨(b, xs, 0, 0), h1, ⟨Nat.zero_le _, h2.1, h2.2⟩, fun e s' h => ⟨[], ?_⟩⟩
    obtain ⟨rfl, h⟩ := h
    simp only [List.drop_zero] at h
    rw [h]; exact h3

def smS (xs ys : List (List UInt8))  (i : Nat) : VS := stN 26 [(0, .sref 0 xs.length), (1, .sref 1 ys.length), (5, .d (.int .i64 i))] [.row 1 0 false (strsD xs), .row 1 0 false (strsD ys)]
def smE (xs ys : List (List UInt8))  (v : V) : VS := stN 26 [(0, .sref 0 xs.length), (1, .sref 1 ys.length), (4, v)] [.row 1 0 false (strsD xs), .row 1 0 false (strsD ys)]
theorem same9_round (xs : List (List UInt8)) (ys : List (List UInt8)) (i : Nat) (Kn : Option Go.Bv.VS → Prop) (Ke : Go.Exit → Option Go.Bv.VS → Prop) : (bif Decidable.decide ((↑i : Int) < (↑(List.length xs) : Int)) then ((0 : Int) ≤ (↑i : Int) ∧ (↑i : Int) < (↑(List.length xs) : Int)) ∧ (Int.toNat (↑i : Int) < List.length (Go.Bv.strsD xs) ∧ (List.brecOn.go (motive := fun (x : List Go.Bv.D) => Nat → Option Go.Bv.D) (List.getD (Go.Bv.strsD xs) (Int.toNat (↑i : Int)) []) List.get?Internal._f).1 (0 : Nat) = Option.some (Go.Bv.D.str (Go.Bv.D.s (List.getD (List.getD (Go.Bv.strsD xs) (Int.toNat (↑i : Int)) []) (0 : Nat) Go.Bv.D.nilp)))) ∧ ((0 : Int) ≤ (↑i : Int) ∧ (↑i : Int) < (↑(List.length ys) : Int)) ∧ (Int.toNat (↑i : Int) < List.length (Go.Bv.strsD ys) ∧ (List.brecOn.go (motive := fun (x : List Go.Bv.D) => Nat → Option Go.Bv.D) (List.getD (Go.Bv.strsD ys) (Int.toNat (↑i : Int)) []) List.get?Internal._f).1 (0 : Nat) = Option.some (Go.Bv.D.str (Go.Bv.D.s (List.getD (List.getD (Go.Bv.strsD ys) (Int.toNat (↑i : Int)) []) (0 : Nat) Go.Bv.D.nilp)))) ∧ bif !Decidable.decide (Go.Bv.D.s (List.getD (List.getD (Go.Bv.strsD xs) (Int.toNat (↑i : Int)) []) (0 : Nat) Go.Bv.D.nilp) = Go.Bv.D.s (List.getD (List.getD (Go.Bv.strsD ys) (Int.toNat (↑i : Int)) []) (0 : Nat) Go.Bv.D.nilp)) then Ke Go.Exit.ret (Option.some (Go.Bv.VS.mk [((0 : Nat), Go.Bv.V.sref (0 : Nat) (List.length xs)), ((1 : Nat), Go.Bv.V.sref (1 : Nat) (List.length ys)), ((4 : Nat), Go.Bv.V.d (Go.Bv.D.bool Bool.false))] [((0 : Nat), Go.Bv.Blk.row (1 : Nat) (0 : Nat) Bool.false (Go.Bv.strsD xs)), ((1 : Nat), Go.Bv.Blk.row (1 : Nat) (0 : Nat) Bool.false (Go.Bv.strsD ys))] (2 : Nat) [] (26 : Nat))) else Kn (Option.some (Go.Bv.VS.mk [((0 : Nat), Go.Bv.V.sref (0 : Nat) (List.length xs)), ((1 : Nat), Go.Bv.V.sref (1 : Nat) (List.length ys)), ((5 : Nat), Go.Bv.V.d (Go.Bv.D.int Go.IntKind.i64 (Go.IntKind.wrap Go.IntKind.i64 ((↑i : Int) + (1 : Int)))))] [((0 : Nat), Go.Bv.Blk.row (1 : Nat) (0 : Nat) Bool.false (Go.Bv.strsD xs)), ((1 : Nat), Go.Bv.Blk.row (1 : Nat) (0 : Nat) Bool.false (Go.Bv.strsD ys))] (2 : Nat) [] (26 : Nat))) else Ke (Go.Exit.exit (0 : Nat)) (Option.some (Go.Bv.VS.mk [((0 : Nat), Go.Bv.V.sref (0 : Nat) (List.length xs)), ((1 : Nat), Go.Bv.V.sref (1 : Nat) (List.length ys)), ((4 : Nat), Go.Bv.V.junk)] [((0 : Nat), Go.Bv.Blk.row (1 : Nat) (0 : Nat) Bool.false (Go.Bv.strsD xs)), ((1 : Nat), Go.Bv.Blk.row (1 : Nat) (0 : Nat) Bool.false (Go.Bv.strsD ys))] (2 : Nat) [] (26 : Nat)))) = (roundP Tryz.prog xLib iLib 2 (fun _ => none) (loopB Tryz.prog 9 [true, true, false, true, false]) [0, 1, 5] [0, 1, 4] (smS xs ys i) Kn Ke) := by kernel_rfl
def smR (p : List (List UInt8) × Nat × List (List UInt8) × Unit) (e : Exit) (s' : VS) : Prop := bif decide (p.1.drop p.2.1 = p.2.2.1.drop p.2.1) then e = .exit 0 ∧ s' = smE p.1 p.2.2.1  .junk else e = .ret ∧ s' = smE p.1 p.2.2.1  (.d (.bool false))
def smT : LoopT := fun s W Q => ∃ (xs ys : List (List UInt8)) , canonN 2 [0, 1, 5] s = some (smS xs ys  0) ∧ (xs.length = ys.length ∧ xs.length ≤ 140737488355328) ∧
  bif decide (xs = ys) then Q (.exit 0) (smE xs ys  .junk) [] else Q .ret (smE xs ys  (.d (.bool false))) []
theorem smT_ok : LoopOK Tryz.prog 2 none (loopB Tryz.prog 9 [true, true, false, true, false]) smT := by
  refine LoopOK.walk xLib_ok iLib_ok mixed [0, 1, 5] [0, 1, 4] (L := fun _ => none) (fun p : List (List UInt8) × Nat × List (List UInt8) × Unit => smS p.1 p.2.2.1  p.2.1) (fun p => p.2.1 ≤ p.1.length ∧ p.1.length = p.2.2.1.length ∧ p.1.length ≤ 140737488355328) (fun p => p.1.length - p.2.1) smR ?_ ?_
  · intro p hp
    obtain ⟨xs, i, ys, ⟨⟩⟩ := p
    have hi : i ≤ xs.length := hp.1
    have he : xs.length = ys.length := hp.2.1
    have hl : xs.length ≤ 140737488355328 := hp.2.2
    clear hp
    show roundP Tryz.prog xLib iLib 2 (fun _ => none) (loopB Tryz.prog 9 [true, true, false, true, false]) [0, 1, 5] [0, 1, 4] (smS xs ys  i) _ _
    rw [← same9_round]
    simp only [Int.toNat_natCast, strsD_len]
    by_cases hlt : i < xs.length
    · have e0 : decide ((i : Int) < (xs.length : Int)) = true := by simp only [decide_eq_true_eq]; omega
      have hlt2 : i < ys.length := by omega
      have hd : xs.drop i = xs.getD i [] :: xs.drop (i + 1) := drop_cons hlt []
      have hd2 : ys.drop i = ys.getD i [] :: ys.drop (i + 1) := drop_cons hlt2 []
      rw [e0]
      simp only [strsD_getD xs i hlt, strsD_getD ys i hlt2, List.getD_cons_zero, D.s]
      refine ⟨⟨by omega, by omega⟩, ⟨by omega, (by first | rfl | rw [strsD_getD xs i hlt])⟩, ⟨by omega, by omega⟩, ⟨by omega, (by first | rfl | rw [strsD_getD ys i hlt2])⟩, ?_⟩
      cases hb : decide (xs.getD i [] = ys.getD i []) with
      | false =>
        simp only [decide_eq_false_iff_not] at hb
        refine ⟨_, rfl, ?_⟩
        have : decide (xs.drop i = ys.drop i) = false := by rw [hd, hd2]; simp only [decide_eq_false_iff_not, List.cons.injEq]; exact fun h => hb h.1
        simp only [smR, this, cond_false]; exact ⟨trivial, rfl⟩
      | true =>
        simp only [decide_eq_true_eq] at hb
        rw [wrap_in ((i : Int) + 1) (by omega) (by omega)]
        refine ⟨(xs, i + 1, ys, ()), ?_, ⟨by simp only; omega, he, hl⟩, by simp only; omega, fun e s' h => ?_⟩
        · simp only [smS, Int.natCast_add, Int.cast_ofNat_Int]; rfl
        · have : decide (xs.drop i = ys.drop i) = decide (xs.drop (i + 1) = ys.drop (i + 1)) := by
            rw [hd, hd2, hb]; simp only [List.cons.injEq, true_and]
          simp only [smR] at h ⊢
          rw [this]; exact h
    · have e0 : decide ((i : Int) < (xs.length : Int)) = false := by simp only [decide_eq_false_iff_not]; omega
      have h1 : xs.drop i = [] := List.drop_eq_nil_of_le (by omega)
      have h2 : ys.drop i = [] := List.drop_eq_nil_of_le (by omega)
      rw [e0]
      refine ⟨_, rfl, ?_⟩
      simp only [smR, h1, h2, decide_true, cond_true]; exact ⟨trivial, rfl⟩
  · intro s W Q hT
    obtain ⟨xs, ys, h1, h2, h3⟩ := hT
    refine ⟨(xs, 0, ys, ()), h1, ⟨Nat.zero_le _, h2.1, h2.2⟩, fun e s' h => ⟨[], ?_⟩⟩
    simp only [smR, List.drop_zero] at h
    cases hb : decide (xs = ys) with
    | true => rw [hb] at h h3; obtain ⟨rfl, rfl⟩ := h; exact h3
    | false => rw [hb] at h h3; obtain ⟨rfl, rfl⟩ := h; exact h3

def smS2 (xs ys : List (List UInt8)) (b : Bool) (i : Nat) : VS := stN 26 [(0, .sref 0 xs.length), (1, .d (.slice b (strsD ys))), (5, .d (.int .i64 i))] [.row 1 0 false (strsD xs)]
def smE2 (xs ys : List (List UInt8)) (b : Bool) (v : V) : VS := stN 26 [(0, .sref 0 xs.length), (1, .d (.slice b (strsD ys))), (4, v)] [.row 1 0 false (strsD xs)]
theorem same9_round2 (xs : List (List UInt8)) (ys : List (List UInt8)) (b : Bool) (i : Nat) (Kn : Option Go.Bv.VS → Prop) (Ke : Go.Exit → Option Go.Bv.VS → Prop) : (bif Decidable.decide ((↑i : Int) < (↑(List.length xs) : Int)) then ((0 : Int) ≤ (↑i : Int) ∧ (↑i : Int) < (↑(List.length xs) : Int)) ∧ (Int.toNat (↑i : Int) < List.length (Go.Bv.strsD xs) ∧ (List.brecOn.go (motive := fun (x : List Go.Bv.D) => Nat → Option Go.Bv.D) (List.getD (Go.Bv.strsD xs) (Int.toNat (↑i : Int)) []) List.get?Internal._f).1 (0 : Nat) = Option.some (Go.Bv.D.str (Go.Bv.D.s (List.getD (List.getD (Go.Bv.strsD xs) (Int.toNat (↑i : Int)) []) (0 : Nat) Go.Bv.D.nilp)))) ∧ ((0 : Int) ≤ (↑i : Int) ∧ (↑i : Int) < (↑(List.length (Go.Bv.strsD ys)) : Int) ∧ List.length (List.getD (Go.Bv.strsD ys) (Int.toNat (↑i : Int)) []) = (1 : Nat)) ∧ (List.brecOn.go (motive := fun (x : List Go.Bv.D) => Nat → Option Go.Bv.D) (List.getD (Go.Bv.strsD ys) (Int.toNat (↑i : Int)) []) List.get?Internal._f).1 (0 : Nat) = Option.some (Go.Bv.D.str (Go.Bv.D.s (List.getD (List.getD (Go.Bv.strsD ys) (Int.toNat (↑i : Int)) []) (0 : Nat) Go.Bv.D.nilp))) ∧ bif !Decidable.decide (Go.Bv.D.s (List.getD (List.getD (Go.Bv.strsD xs) (Int.toNat (↑i : Int)) []) (0 : Nat) Go.Bv.D.nilp) = Go.Bv.D.s (List.getD (List.getD (Go.Bv.strsD ys) (Int.toNat (↑i : Int)) []) (0 : Nat) Go.Bv.D.nilp)) then Ke Go.Exit.ret (Option.some (Go.Bv.VS.mk [((0 : Nat), Go.Bv.V.sref (0 : Nat) (List.length xs)), ((1 : Nat), Go.Bv.V.d (Go.Bv.D.slice b (Go.Bv.strsD ys))), ((4 : Nat), Go.Bv.V.d (Go.Bv.D.bool Bool.false))] [((0 : Nat), Go.Bv.Blk.row (1 : Nat) (0 : Nat) Bool.false (Go.Bv.strsD xs))] (1 : Nat) [] (26 : Nat))) else Kn (Option.some (Go.Bv.VS.mk [((0 : Nat), Go.Bv.V.sref (0 : Nat) (List.length xs)), ((1 : Nat), Go.Bv.V.d (Go.Bv.D.slice b (Go.Bv.strsD ys))), ((5 : Nat), Go.Bv.V.d (Go.Bv.D.int Go.IntKind.i64 (Go.IntKind.wrap Go.IntKind.i64 ((↑i : Int) + (1 : Int)))))] [((0 : Nat), Go.Bv.Blk.row (1 : Nat) (0 : Nat) Bool.false (Go.Bv.strsD xs))] (1 : Nat) [] (26 : Nat))) else Ke (Go.Exit.exit (0 : Nat)) (Option.some (Go.Bv.VS.mk [((0 : Nat), Go.Bv.V.sref (0 : Nat) (List.length xs)), ((1 : Nat), Go.Bv.V.d (Go.Bv.D.slice b (Go.Bv.strsD ys))), ((4 : Nat), Go.Bv.V.junk)] [((0 : Nat), Go.Bv.Blk.row (1 : Nat) (0 : Nat) Bool.false (Go.Bv.strsD xs))] (1 : Nat) [] (26 : Nat)))) = (roundP Tryz.prog xLib iLib 1 (fun _ => none) (loopB Tryz.prog 9 [true, true, false, true, false]) [0, 1, 5] [0, 1, 4] (smS2 xs ys b i) Kn Ke) := by kernel_rfl
def smR2 (p : List (List UInt8) × Nat × List (List UInt8) × Bool) (e : Exit) (s' : VS) : Prop := bif decide (p.1.drop p.2.1 = p.2.2.1.drop p.2.1) then e = .exit 0 ∧ s' = smE2 p.1 p.2.2.1 p.2.2.2 .junk else e = .ret ∧ s' = smE2 p.1 p.2.2.1 p.2.2.2 (.d (.bool false))
def smT2 : LoopT := fun s W Q => ∃ (xs ys : List (List UInt8)) (b : Bool), canonN 1 [0, 1, 5] s = some (smS2 xs ys b 0) ∧ (xs.length = ys.length ∧ xs.length ≤ 140737488355328) ∧
  bif decide (xs = ys) then Q (.exit 0) (smE2 xs ys b .junk) [] else Q .ret (smE2 xs ys b (.d (.bool false))) []
theorem smT2_ok : LoopOK Tryz.prog 1 none (loopB Tryz.prog 9 [true, true, false, true, false]) smT2 := by
  refine LoopOK.walk xLib_ok iLib_ok mixed [0, 1, 5] [0, 1, 4] (L := fun _ => none) (fun p : List (List UInt8) × Nat × List (List UInt8) × Bool => smS2 p.1 p.2.2.1 p.2.2.2 p.2.1) (fun p => p.2.1 ≤ p.1.length ∧ p.1.length = p.2.2.1.length ∧ p.1.length ≤ 140737488355328) (fun p => p.1.length - p.2.1) smR2 ?_ ?_
  · intro p hp
    obtain ⟨xs, i, ys, b⟩ := p
    have hi : i ≤ xs.length := hp.1
    have he : xs.length = ys.length := hp.2.1
    have hl : xs.length ≤ 140737488355328 := hp.2.2
    clear hp
    show roundP Tryz.prog xLib iLib 1 (fun _ => none) (loopB Tryz.prog 9 [true, true, false, true, false]) [0, 1, 5] [0, 1, 4] (smS2 xs ys b i) _ _
    rw [← same9_round2]
    simp only [Int.toNat_natCast, strsD_len]
    by_cases hlt : i < xs.length
    · have e0 : decide ((i : Int) < (xs.length : Int)) = true := by simp only [decide_eq_true_eq]; omega
      have hlt2 : i < ys.length := by omega
      have hd : xs.drop i = xs.getD i [] :: xs.drop (i + 1) := drop_cons hlt []
      have hd2 : ys.drop i = ys.getD i [] :: ys.drop (i + 1) := drop_cons hlt2 []
      rw [e0]
      simp only [strsD_getD xs i hlt, strsD_getD ys i hlt2, List.getD_cons_zero, D.s]
      refine ⟨⟨by omega, by omega⟩, ⟨by omega, (by first | rfl | rw [strsD_getD xs i hlt])⟩, ⟨by omega, by omega, by first | rfl | rw [strsD_getD ys i hlt2]⟩, (by first | rfl | rw [strsD_getD ys i hlt2]), ?_⟩
      cases hb : decide (xs.getD i [] = ys.getD i []) with
      | false =>
        simp only [decide_eq_false_iff_not] at hb
        refine ⟨_, rfl, ?_⟩
        have : decide (xs.drop i = ys.drop i) = false := by rw [hd, hd2]; simp only [decide_eq_false_iff_not, List.cons.injEq]; exact fun h => hb h.1
        simp only [smR2, this, cond_false]; exact ⟨trivial, rfl⟩
      | true =>
        simp only [decide_eq_true_eq] at hb
        rw [wrap_in ((i : Int) + 1) (by omega) (by omega)]
        refine ⟨(xs, i + 1, ys, b), ?_, ⟨by simp only; omega, he, hl⟩, by simp only; omega, fun e s' h => ?_⟩
        · simp only [smS2, Int.natCast_add, Int.cast_ofNat_Int]; rfl
        · have : decide (xs.drop i = ys.drop i) = decide (xs.drop (i + 1) = ys.drop (i + 1)) := by
            rw [hd, hd2, hb]; simp only [List.cons.injEq, true_and]
          simp only [smR2] at h ⊢
          rw [this]; exact h
    · have e0 : decide ((i : Int) < (xs.length : Int)) = false := by simp only [decide_eq_false_iff_not]; omega
      have h1 : xs.drop i = [] := List.drop_eq_nil_of_le (by omega)
      have h2 : ys.drop i = [] := List.drop_eq_nil_of_le (by omega)
      rw [e0]
      refine ⟨_, rfl, ?_⟩
      simp only [smR2, h1, h2, decide_true, cond_true]; exact ⟨trivial, rfl⟩
  · intro s W Q hT
    obtain ⟨xs, ys, b, h1, h2, h3⟩ := hT
    refine ⟨(xs, 0, ys, b), h1, ⟨Nat.zero_le _, h2.1, h2.2⟩, fun e s' h => ⟨[], ?_⟩⟩
    simp only [smR2, List.drop_zero] at h
    cases hb : decide (xs = ys) with
    | true => rw [hb] at h h3; obtain ⟨rfl, rfl⟩ := h; exact h3
    | false => rw [hb] at h h3; obtain ⟨rfl, rfl⟩ := h; exact h3

def smS3 (xs ys : List (List UInt8)) (b c : Bool) (i : Nat) : VS := stN 26 [(0, .d (.slice c (strsD xs))), (1, .d (.slice b (strsD ys))), (5, .d (.int .i64 i))] []
def smE3 (xs ys : List (List UInt8)) (b c : Bool) (v : V) : VS := stN 26 [(0, .d (.slice c (strsD xs))), (1, .d (.slice b (strsD ys))), (4, v)] []
theorem same9_round3 (xs : List (List UInt8)) (ys : List (List UInt8)) (b : Bool) (c : Bool) (i : Nat) (Kn : Option Go.Bv.VS → Prop) (Ke : Go.Exit → Option Go.Bv.VS → Prop) : (bif Decidable.decide ((↑i : Int) < (↑(List.length (Go.Bv.strsD xs)) : Int)) then ((0 : Int) ≤ (↑i : Int) ∧ (↑i : Int) < (↑(List.length (Go.Bv.strsD xs)) : Int) ∧ List.length (List.getD (Go.Bv.strsD xs) (Int.toNat (↑i : Int)) []) = (1 : Nat)) ∧ (List.brecOn.go (motive := fun (x : List Go.Bv.D) => Nat → Option Go.Bv.D) (List.getD (Go.Bv.strsD xs) (Int.toNat (↑i : Int)) []) List.get?Internal._f).1 (0 : Nat) = Option.some (Go.Bv.D.str (Go.Bv.D.s (List.getD (List.getD (Go.Bv.strsD xs) (Int.toNat (↑i : Int)) []) (0 : Nat) Go.Bv.D.nilp))) ∧ ((0 : Int) ≤ (↑i : Int) ∧ (↑i : Int) < (↑(List.length (Go.Bv.strsD ys)) : Int) ∧ List.length (List.getD (Go.Bv.strsD ys) (Int.toNat (↑i : Int)) []) = (1 : Nat)) ∧ (List.brecOn.go (motive := fun (x : List Go.Bv.D) => Nat → Option Go.Bv.D) (List.getD (Go.Bv.strsD ys) (Int.toNat (↑i : Int)) []) List.get?Internal._f).1 (0 : Nat) = Option.some (Go.Bv.D.str (Go.Bv.D.s (List.getD (List.getD (Go.Bv.strsD ys) (Int.toNat (↑i : Int)) []) (0 : Nat) Go.Bv.D.nilp))) ∧ bif !Decidable.decide (Go.Bv.D.s (List.getD (List.getD (Go.Bv.strsD xs) (Int.toNat (↑i : Int)) []) (0 : Nat) Go.Bv.D.nilp) = Go.Bv.D.s (List.getD (List.getD (Go.Bv.strsD ys) (Int.toNat (↑i : Int)) []) (0 : Nat) Go.Bv.D.nilp)) then Ke Go.Exit.ret (Option.some (Go.Bv.VS.mk [((0 : Nat), Go.Bv.V.d (Go.Bv.D.slice c (Go.Bv.strsD xs))), ((1 : Nat), Go.Bv.V.d (Go.Bv.D.slice b (Go.Bv.strsD ys))), ((4 : Nat), Go.Bv.V.d (Go.Bv.D.bool Bool.false))] [] (0 : Nat) [] (26 : Nat))) else Kn (Option.some (Go.Bv.VS.mk [((0 : Nat), Go.Bv.V.d (Go.Bv.D.slice c (Go.Bv.strsD xs))), ((1 : Nat), Go.Bv.V.d (Go.Bv.D.slice b (Go.Bv.strsD ys))), ((5 : Nat), Go.Bv.V.d (Go.Bv.D.int Go.IntKind.i64 (Go.IntKind.wrap Go.IntKind.i64 ((↑i : Int) + (1 : Int)))))] [] (0 : Nat) [] (26 : Nat))) else Ke (Go.Exit.exit (0 : Nat)) (Option.some (Go.Bv.VS.mk [((0 : Nat), Go.Bv.V.d (Go.Bv.D.slice c (Go.Bv.strsD xs))), ((1 : Nat), Go.Bv.V.d (Go.Bv.D.slice b (Go.Bv.strsD ys))), ((4 : Nat), Go.Bv.V.junk)] [] (0 : Nat) [] (26 : Nat)))) = (roundP Tryz.prog xLib iLib 0 (fun _ => none) (loopB Tryz.prog 9 [true, true, false, true, false]) [0, 1, 5] [0, 1, 4] (smS3 xs ys b c i) Kn Ke) := by kernel_rfl
def smR3 (p : List (List UInt8) × Nat × List (List UInt8) × Bool × Bool) (e : Exit) (s' : VS) : Prop := bif decide (p.1.drop p.2.1 = p.2.2.1.drop p.2.1) then e = .exit 0 ∧ s' = smE3 p.1 p.2.2.1 p.2.2.2.1 p.2.2.2.2 .junk else e = .ret ∧ s' = smE3 p.1 p.2.2.1 p.2.2.2.1 p.2.2.2.2 (.d (.bool false))
def smT3 : LoopT := fun s W Q => ∃ (xs ys : List (List UInt8)) (b c : Bool), canonN 0 [0, 1, 5] s = some (smS3 xs ys b c 0) ∧ (xs.length = ys.length ∧ xs.length ≤ 140737488355328) ∧
  bif decide (xs = ys) then Q (.exit 0) (smE3 xs ys b c .junk) [] else Q .ret (smE3 xs ys b c (.d (.bool false))) []
theorem smT3_ok : LoopOK Tryz.prog 0 none (loopB Tryz.prog 9 [true, true, false, true, false]) smT3 := by
  refine LoopOK.walk xLib_ok iLib_ok mixed [0, 1, 5] [0, 1, 4] (L := fun _ => none) (fun p : List (List UInt8) × Nat × List (List UInt8) × Bool × Bool => smS3 p.1 p.2.2.1 p.2.2.2.1 p.2.2.2.2 p.2.1) (fun p => p.2.1 ≤ p.1.length ∧ p.1.length = p.2.2.1.length ∧ p.1.length ≤ 140737488355328) (fun p => p.1.length - p.2.1) smR3 ?_ ?_
  · intro p hp
    obtain ⟨xs, i, ys, b, c⟩ := p
    have hi : i ≤ xs.length := hp.1
    have he : xs.length = ys.length := hp.2.1
    have hl : xs.length ≤ 140737488355328 := hp.2.2
    clear hp
    show roundP Tryz.prog xLib iLib 0 (fun _ => none) (loopB Tryz.prog 9 [true, true, false, true, false]) [0, 1, 5] [0, 1, 4] (smS3 xs ys b c i) _ _
    rw [← same9_round3]
    simp only [Int.toNat_natCast, strsD_len]
    by_cases hlt : i < xs.length
    · have e0 : decide ((i : Int) < (xs.length : Int)) = true := by simp only [decide_eq_true_eq]; omega
      have hlt2 : i < ys.length := by omega
      have hd : xs.drop i = xs.getD i [] :: xs.drop (i + 1) := drop_cons hlt []
      have hd2 : ys.drop i = ys.getD i [] :: ys.drop (i + 1) := drop_cons hlt2 []
      rw [e0]
      simp only [strsD_getD xs i hlt, strsD_getD ys i hlt2, List.getD_cons_zero, D.s]
      refine ⟨⟨by omega, by omega, by first | rfl | rw [strsD_getD xs i hlt]⟩, (by first | rfl | rw [strsD_getD xs i hlt]), ⟨by omega, by omega, by first | rfl | rw [strsD_getD ys i hlt2]⟩, (by first | rfl | rw [strsD_getD ys i hlt2]), ?_⟩
      cases hb : decide (xs.getD i [] = ys.getD i []) with
      | false =>
        simp only [decide_eq_false_iff_not] at hb
        refine ⟨_, rfl, ?_⟩
        have : decide (xs.drop i = ys.drop i) = false := by rw [hd, hd2]; simp only [decide_eq_false_iff_not, List.cons.injEq]; exact fun h => hb h.1
        simp only [smR3, this, cond_false]; exact ⟨trivial, rfl⟩
      | true =>
        simp only [decide_eq_true_eq] at hb
        rw [wrap_in ((i : Int) + 1) (by omega) (by omega)]
        refine ⟨(xs, i + 1, ys, b, c), ?_, ⟨by simp only; omega, he, hl⟩, by simp only; omega, fun e s' h => ?_⟩
        · simp only [smS3, Int.natCast_add, Int.cast_ofNat_Int]; rfl
        · have : decide (xs.drop i = ys.drop i) = decide (xs.drop (i + 1) = ys.drop (i + 1)) := by
            rw [hd, hd2, hb]; simp only [List.cons.injEq, true_and]
          simp only [smR3] at h ⊢
          rw [this]; exact h
    · have e0 : decide ((i : Int) < (xs.length : Int)) = false := by simp only [decide_eq_false_iff_not]; omega
      have h1 : xs.drop i = [] := List.drop_eq_nil_of_le (by omega)
      have h2 : ys.drop i = [] := List.drop_eq_nil_of_le (by omega)
      rw [e0]
      refine ⟨_, rfl, ?_⟩
      simp only [smR3, h1, h2, decide_true, cond_true]; exact ⟨trivial, rfl⟩
  · intro s W Q hT
    obtain ⟨xs, ys, b, c, h1, h2, h3⟩ := hT
    refine ⟨(xs, 0, ys, b, c), h1, ⟨Nat.zero_le _, h2.1, h2.2⟩, fun e s' h => ⟨[], ?_⟩⟩
    simp only [smR3, List.drop_zero] at h
    cases hb : decide (xs = ys) with
    | true => rw [hb] at h h3; obtain ⟨rfl, rfl⟩ := h; exact h3
    | false => rw [hb] at h h3; obtain ⟨rfl, rfl⟩ := h; exact h3
end Go.Proofs

namespace Go.Bv

def lenV (t : List UInt8) (i n s : Nat) : Int × Nat :=
  bif decide (0 < (i - s) + (dgL (t.drop i) n (i - s)).1) && decide ((t.getD (i + (dgL (t.drop i) n (i - s)).1) 0).toNat = 32) then (((dgL (t.drop i) n (i - s)).2 : Nat), i + (dgL (t.drop i) n (i - s)).1 + 1)
  else (-1, i + (dgL (t.drop i) n (i - s)).1)
end Go.Bv
namespace Go.Proofs
open Go Go.Bv
def lIl : FuncId → Nat → Option LoopT := fun f p => bif Nat.beq f 21 && Nat.beq p 26 then some ilT else none
theorem isLine_body (s : List UInt8) (K : Go.Bv.KC) : (Go.Bv.LoopOK Go.Proofs.Tryz.prog (0 : Nat) Option.none (Go.Bv.loopB Go.Proofs.Tryz.prog (21 : Nat) [Bool.true, Bool.false, Bool.true, Bool.false]) Go.Proofs.ilT ∧ ∃ (bs : List UInt8), Option.some (Go.Bv.VS.mk [((0 : Nat), Go.Bv.V.d (Go.Bv.D.str s)), ((3 : Nat), Go.Bv.V.d (Go.Bv.D.int Go.IntKind.i64 (0 : Int)))] [] (0 : Nat) [] (18 : Nat)) = Option.some (Go.Bv.VS.mk [((0 : Nat), Go.Bv.V.d (Go.Bv.D.str bs)), ((3 : Nat), Go.Bv.V.d (Go.Bv.D.int Go.IntKind.i64 (0 : Int)))] [] (0 : Nat) [] (18 : Nat)) ∧ List.length bs ≤ (4294967280 : Nat) ∧ bif List.all bs Go.Bv.prB then K (Go.Bv.V.d (Go.Bv.D.bool (Decidable.decide ((↑(List.length bs) : Int) ≤ (60 : Int))))) [] [] else K (Go.Bv.V.d (Go.Bv.D.bool Bool.false)) [] []) = (inlN Tryz.prog xLib lIl 4 21 [.d (.str s)] [] K) := by kernel_rfl
def isLineS : FSpec := fun args H K => match args, H with
  | [.d (.str s)], [] => s.length ≤ 4294967280 ∧ K (.d (.bool (writableL s))) [] []
  | _, _ => False
theorem isLineS_ok : FOK2 Tryz.prog 21 isLineS := by
  obtain ⟨sp, hsp⟩ : ∃ sp, sp = inlN Tryz.prog xLib lIl 4 21 := ⟨_, rfl⟩
  have hok : FOK2 Tryz.prog 21 sp := hsp ▸ inlN_ok (LL := lIl) xLib_ok mixed 4 21
  refine hok.imp fun args H K h => ?_
  unfold isLineS at h
  split at h
  · rename_i s
    obtain ⟨h1, h2⟩ := h
    rw [hsp]
    show inlN Tryz.prog xLib lIl 4 21 [.d (.str s)] [] K
    rw [← isLine_body]
    refine ⟨ilT_ok, s, rfl, h1, ?_⟩
    rw [writableL_eq] at h2
    cases hb : s.all prB with
    | true =>
      have e : decide ((s.length : Int) ≤ 60) = decide (s.length ≤ 60) := decide_eq_decide.2 (by omega)
      rw [hb, Bool.true_and] at h2
      rw [e]; exact h2
    | false => rw [hb] at h2; exact h2
  · exact h.elim
def lRl : FuncId → Nat → Option LoopT := fun f p => bif Nat.beq f 23 && Nat.beq p 58 then some rlT else none
def xRef : SX := fun f => bif Nat.beq f 22 then some decS else xLib f
theorem xRef_ok : XOK Tryz.prog xRef := sx_cons decS_ok xLib_ok
theorem rlast_body (n : Int) (s : List UInt8) (K : Go.Bv.KC) : (Go.Bv.LoopOK Go.Proofs.Tryz.prog (0 : Nat) Option.none (Go.Bv.loopB Go.Proofs.Tryz.prog (23 : Nat) [Bool.true, Bool.true, Bool.false, Bool.true, Bool.false]) Go.Proofs.rlT ∧ ∃ (n_1 : Int), ∃ (bs : List UInt8), Option.some (Go.Bv.VS.mk [((0 : Nat), Go.Bv.V.d (Go.Bv.D.int Go.IntKind.i64 n)), ((1 : Nat), Go.Bv.V.d (Go.Bv.D.str s)), ((5 : Nat), Go.Bv.V.d (Go.Bv.D.int Go.IntKind.i64 (7 : Int))), ((6 : Nat), Go.Bv.V.d (Go.Bv.D.int Go.IntKind.i64 (0 : Int)))] [] (0 : Nat) [] (29 : Nat)) = Option.some (Go.Bv.VS.mk [((0 : Nat), Go.Bv.V.d (Go.Bv.D.int Go.IntKind.i64 n_1)), ((1 : Nat), Go.Bv.V.d (Go.Bv.D.str bs)), ((5 : Nat), Go.Bv.V.d (Go.Bv.D.int Go.IntKind.i64 (7 : Int))), ((6 : Nat), Go.Bv.V.d (Go.Bv.D.int Go.IntKind.i64 (0 : Int)))] [] (0 : Nat) [] (29 : Nat)) ∧ List.length bs ≤ (4294967280 : Nat) ∧ ((0 : Int) ≤ n_1 ∧ n_1 < (9223372036854775807 : Int)) ∧ (4 : Nat) + List.length (Go.Bv.itoaL n_1) ≤ (9223372036854775807 : Nat) ∧ List.length ([(101 : UInt8), (110 : UInt8), (100 : UInt8), (32 : UInt8)] ++ Go.Bv.itoaL n_1) + (1 : Nat) ≤ (9223372036854775807 : Nat) ∧ ((0 : Int) ≤ (↑(Go.Bv.sumL bs (7 : Nat)) : Int) ∧ (↑(Go.Bv.sumL bs (7 : Nat)) : Int) < (9223372036854775807 : Int)) ∧ List.length ([(101 : UInt8), (110 : UInt8), (100 : UInt8), (32 : UInt8)] ++ Go.Bv.itoaL n_1 ++ [(32 : UInt8)]) + List.length (Go.Bv.itoaL (↑(Go.Bv.sumL bs (7 : Nat)) : Int)) ≤ (9223372036854775807 : Nat) ∧ List.length ([(101 : UInt8), (110 : UInt8), (100 : UInt8), (32 : UInt8)] ++ Go.Bv.itoaL n_1 ++ [(32 : UInt8)] ++ Go.Bv.itoaL (↑(Go.Bv.sumL bs (7 : Nat)) : Int)) + (1 : Nat) ≤ (9223372036854775807 : Nat) ∧ K (Go.Bv.V.d (Go.Bv.D.str ([(101 : UInt8), (110 : UInt8), (100 : UInt8), (32 : UInt8)] ++ Go.Bv.itoaL n_1 ++ [(32 : UInt8)] ++ Go.Bv.itoaL (↑(Go.Bv.sumL bs (7 : Nat)) : Int) ++ [(10 : UInt8)]))) [] []) = (inlN Tryz.prog xRef lRl 4 23 [.d (.int .i64 n), .d (.str s)] [] K) := by kernel_rfl
def rlastS : FSpec := fun args H K => match args, H with
  | [.d (.int .i64 n), .d (.str s)], [] => (0 ≤ n ∧ n < 9223372036854775807 ∧ s.length ≤ 4294967280) ∧ K (.d (.str (lastZ n s))) [] []
  | _, _ => False
theorem rlastS_ok : FOK2 Tryz.prog 23 rlastS := by
  obtain ⟨sp, hsp⟩ : ∃ sp, sp = inlN Tryz.prog xRef lRl 4 23 := ⟨_, rfl⟩
  have hok : FOK2 Tryz.prog 23 sp := hsp ▸ inlN_ok (LL := lRl) xRef_ok mixed 4 23
  refine hok.imp fun args H K h => ?_
  unfold rlastS at h
  split at h
  · rename_i n s
    obtain ⟨⟨h0, h1, h2⟩, h3⟩ := h
    rw [hsp]
    show inlN Tryz.prog xRef lRl 4 23 [.d (.int .i64 n), .d (.str s)] [] K
    rw [← rlast_body]
    have l1 := itoaL_len n
    have l2 := itoaL_len (sumL s 7 : Nat)
    have l3 := sumL_lt s 7 (by decide)
    refine ⟨rlT_ok, n, s, rfl, h2, ⟨h0, h1⟩, ?_⟩
    simp only [List.length_append, List.length_cons, List.length_nil]
    refine ⟨by omega, by omega, ⟨by omega, by omega⟩, by omega, by omega, ?_⟩
    have e : lastZ n s = [101, 110, 100, 32] ++ itoaL n ++ [32] ++ itoaL (sumL s 7 : Nat) ++ [10] := by simp [lastZ]
    rw [← e]; exact h3
  · exact h.elim
def lFa : FuncId → Nat → Option LoopT := fun f p => bif Nat.beq f 5 && Nat.beq p 58 then some faT else none
theorem far_body (b : Bool) (es : List (List Go.Bv.D)) (K : Go.Bv.KC) : (Go.Bv.LoopOK Go.Proofs.Tryz.prog (0 : Nat) Option.none (Go.Bv.loopB Go.Proofs.Tryz.prog (5 : Nat) [Bool.true, Bool.true, Bool.false, Bool.true, Bool.false]) Go.Proofs.faT ∧ ∃ (b_1 : Bool), ∃ (xs : List (List UInt8)), Option.some (Go.Bv.VS.mk [((0 : Nat), Go.Bv.V.d (Go.Bv.D.slice b es)), ((3 : Nat), Go.Bv.V.d (Go.Bv.D.int Go.IntKind.i64 (0 : Int))), ((4 : Nat), Go.Bv.V.d (Go.Bv.D.int Go.IntKind.i64 (0 : Int)))] [] (0 : Nat) [] (30 : Nat)) = Option.some (Go.Bv.VS.mk [((0 : Nat), Go.Bv.V.d (Go.Bv.D.slice b_1 (Go.Bv.strsD xs))), ((3 : Nat), Go.Bv.V.d (Go.Bv.D.int Go.IntKind.i64 (0 : Int))), ((4 : Nat), Go.Bv.V.d (Go.Bv.D.int Go.IntKind.i64 (0 : Int)))] [] (0 : Nat) [] (30 : Nat)) ∧ ((∀ (x : List UInt8), x ∈ xs → List.length x ≤ (140737488355328 : Nat)) ∧ List.length xs ≤ (140737488355328 : Nat)) ∧ bif Decidable.decide ((200 : Int) < (↑(List.length (Go.Bv.strsD xs)) : Int)) then K (Go.Bv.V.d (Go.Bv.D.bool Bool.true)) [] [] else K (Go.Bv.V.d (Go.Bv.D.bool (Decidable.decide ((3000 : Int) < (↑(Go.Bv.farN xs (0 : Nat)) : Int))))) [] []) = (inlN Tryz.prog xLib lFa 4 5 [.d (.slice b es)] [] K) := by kernel_rfl
def farS : FSpec := fun args H K => match args, H with
  | [.d (.slice b es)], [] => (es = strsD (strsV es) ∧ (∀ x, x ∈ strsV es → x.length ≤ 140737488355328) ∧ (strsV es).length ≤ 140737488355328) ∧ K (.d (.bool (farB (strsV es)))) [] []
  | _, _ => False
theorem farS_ok : FOK2 Tryz.prog 5 farS := by
  obtain ⟨sp, hsp⟩ : ∃ sp, sp = inlN Tryz.prog xLib lFa 4 5 := ⟨_, rfl⟩
  have hok : FOK2 Tryz.prog 5 sp := hsp ▸ inlN_ok (LL := lFa) xLib_ok mixed 4 5
  refine hok.imp fun args H K h => ?_
  unfold farS at h
  split at h
  · rename_i b es
    obtain ⟨⟨h0, h1, h2⟩, h3⟩ := h
    rw [hsp]
    show inlN Tryz.prog xLib lFa 4 5 [.d (.slice b es)] [] K
    rw [← far_body]
    generalize hxs : strsV es = xs at *
    subst h0
    refine ⟨faT_ok, b, xs, rfl, ⟨h1, h2⟩, ?_⟩
    simp only [strsD_len]
    unfold farB at h3
    cases hd : decide (200 < xs.length) with
    | true =>
      have e : decide ((200 : Int) < (xs.length : Int)) = true := by simp only [decide_eq_true_eq] at hd ⊢; omega
      rw [hd] at h3; rw [e]; exact h3
    | false =>
      have e : decide ((200 : Int) < (xs.length : Int)) = false := by simp only [decide_eq_false_iff_not] at hd ⊢; omega
      have e2 : decide ((3000 : Int) < (farN xs 0 : Int)) = decide (3000 < farN xs 0) := decide_eq_decide.2 (by omega)
      rw [hd, Bool.false_or] at h3; rw [e, e2]; exact h3
  · exact h.elim
def lSm : FuncId → Nat → Option LoopT := fun f p => bif Nat.beq f 9 && Nat.beq p 58 then some smT else none
def lSm2 : FuncId → Nat → Option LoopT := fun f p => bif Nat.beq f 9 && Nat.beq p 58 then some smT2 else none
def lSm3 : FuncId → Nat → Option LoopT := fun f p => bif Nat.beq f 9 && Nat.beq p 58 then some smT3 else none
theorem same9_body (xs : List (List UInt8)) (ys : List (List UInt8)) (K : Go.Bv.KC) : (bif !Decidable.decide ((↑(List.length xs) : Int) = (↑(List.length ys) : Int)) then K (Go.Bv.V.d (Go.Bv.D.bool Bool.false)) [Go.Bv.Blk.row (1 : Nat) (0 : Nat) Bool.false (Go.Bv.strsD xs), Go.Bv.Blk.row (1 : Nat) (0 : Nat) Bool.false (Go.Bv.strsD ys)] [] else Go.Bv.LoopOK Go.Proofs.Tryz.prog (List.length [Go.Bv.Blk.row (1 : Nat) (0 : Nat) Bool.false (Go.Bv.strsD xs), Go.Bv.Blk.row (1 : Nat) (0 : Nat) Bool.false (Go.Bv.strsD ys)]) Option.none (Go.Bv.loopB Go.Proofs.Tryz.prog (9 : Nat) [Bool.true, Bool.true, Bool.false, Bool.true, Bool.false]) Go.Proofs.smT ∧ ∃ (xs_1 : List (List UInt8)), ∃ (ys_1 : List (List UInt8)), Option.some (Go.Bv.VS.mk [((0 : Nat), Go.Bv.V.sref (0 : Nat) (List.length xs)), ((1 : Nat), Go.Bv.V.sref (1 : Nat) (List.length ys)), ((5 : Nat), Go.Bv.V.d (Go.Bv.D.int Go.IntKind.i64 (0 : Int)))] [((0 : Nat), Go.Bv.Blk.row (1 : Nat) (0 : Nat) Bool.false (Go.Bv.strsD xs)), ((1 : Nat), Go.Bv.Blk.row (1 : Nat) (0 : Nat) Bool.false (Go.Bv.strsD ys))] (2 : Nat) [] (26 : Nat)) = Option.some (Go.Bv.VS.mk [((0 : Nat), Go.Bv.V.sref (0 : Nat) (List.length xs_1)), ((1 : Nat), Go.Bv.V.sref (1 : Nat) (List.length ys_1)), ((5 : Nat), Go.Bv.V.d (Go.Bv.D.int Go.IntKind.i64 (0 : Int)))] [((0 : Nat), Go.Bv.Blk.row (1 : Nat) (0 : Nat) Bool.false (Go.Bv.strsD xs_1)), ((1 : Nat), Go.Bv.Blk.row (1 : Nat) (0 : Nat) Bool.false (Go.Bv.strsD ys_1))] (2 : Nat) [] (26 : Nat)) ∧ (List.length xs_1 = List.length ys_1 ∧ List.length xs_1 ≤ (140737488355328 : Nat)) ∧ bif Decidable.decide (xs_1 = ys_1) then K (Go.Bv.V.d (Go.Bv.D.bool Bool.true)) [Go.Bv.Blk.row (1 : Nat) (0 : Nat) Bool.false (Go.Bv.strsD xs_1), Go.Bv.Blk.row (1 : Nat) (0 : Nat) Bool.false (Go.Bv.strsD ys_1)] [] else K (Go.Bv.V.d (Go.Bv.D.bool Bool.false)) [Go.Bv.Blk.row (1 : Nat) (0 : Nat) Bool.false (Go.Bv.strsD xs_1), Go.Bv.Blk.row (1 : Nat) (0 : Nat) Bool.false (Go.Bv.strsD ys_1)] []) = (inlN Tryz.prog xLib lSm 4 9 [.sref 0 xs.length, .sref 1 ys.length] [.row 1 0 false (strsD xs), .row 1 0 false (strsD ys)] K) := by kernel_rfl
theorem same9_body2 (xs : List (List UInt8)) (ys : List (List UInt8)) (b : Bool) (K : Go.Bv.KC) : (bif !Decidable.decide ((↑(List.length xs) : Int) = (↑(List.length (Go.Bv.strsD ys)) : Int)) then K (Go.Bv.V.d (Go.Bv.D.bool Bool.false)) [Go.Bv.Blk.row (1 : Nat) (0 : Nat) Bool.false (Go.Bv.strsD xs)] [] else Go.Bv.LoopOK Go.Proofs.Tryz.prog (List.length [Go.Bv.Blk.row (1 : Nat) (0 : Nat) Bool.false (Go.Bv.strsD xs)]) Option.none (Go.Bv.loopB Go.Proofs.Tryz.prog (9 : Nat) [Bool.true, Bool.true, Bool.false, Bool.true, Bool.false]) Go.Proofs.smT2 ∧ ∃ (xs_1 : List (List UInt8)), ∃ (ys_1 : List (List UInt8)), ∃ (b_1 : Bool), Option.some (Go.Bv.VS.mk [((0 : Nat), Go.Bv.V.sref (0 : Nat) (List.length xs)), ((1 : Nat), Go.Bv.V.d (Go.Bv.D.slice b (Go.Bv.strsD ys))), ((5 : Nat), Go.Bv.V.d (Go.Bv.D.int Go.IntKind.i64 (0 : Int)))] [((0 : Nat), Go.Bv.Blk.row (1 : Nat) (0 : Nat) Bool.false (Go.Bv.strsD xs))] (1 : Nat) [] (26 : Nat)) = Option.some (Go.Bv.VS.mk [((0 : Nat), Go.Bv.V.sref (0 : Nat) (List.length xs_1)), ((1 : Nat), Go.Bv.V.d (Go.Bv.D.slice b_1 (Go.Bv.strsD ys_1))), ((5 : Nat), Go.Bv.V.d (Go.Bv.D.int Go.IntKind.i64 (0 : Int)))] [((0 : Nat), Go.Bv.Blk.row (1 : Nat) (0 : Nat) Bool.false (Go.Bv.strsD xs_1))] (1 : Nat) [] (26 : Nat)) ∧ (List.length xs_1 = List.length ys_1 ∧ List.length xs_1 ≤ (140737488355328 : Nat)) ∧ bif Decidable.decide (xs_1 = ys_1) then K (Go.Bv.V.d (Go.Bv.D.bool Bool.true)) [Go.Bv.Blk.row (1 : Nat) (0 : Nat) Bool.false (Go.Bv.strsD xs_1)] [] else K (Go.Bv.V.d (Go.Bv.D.bool Bool.false)) [Go.Bv.Blk.row (1 : Nat) (0 : Nat) Bool.false (Go.Bv.strsD xs_1)] []) = (inlN Tryz.prog xLib lSm2 4 9 [.sref 0 xs.length, .d (.slice b (strsD ys))] [.row 1 0 false (strsD xs)] K) := by kernel_rfl
theorem same9_body3 (xs : List (List UInt8)) (ys : List (List UInt8)) (b : Bool) (c : Bool) (K : Go.Bv.KC) : (bif !Decidable.decide ((↑(List.length (Go.Bv.strsD xs)) : Int) = (↑(List.length (Go.Bv.strsD ys)) : Int)) then K (Go.Bv.V.d (Go.Bv.D.bool Bool.false)) [] [] else Go.Bv.LoopOK Go.Proofs.Tryz.prog (0 : Nat) Option.none (Go.Bv.loopB Go.Proofs.Tryz.prog (9 : Nat) [Bool.true, Bool.true, Bool.false, Bool.true, Bool.false]) Go.Proofs.smT3 ∧ ∃ (xs_1 : List (List UInt8)), ∃ (ys_1 : List (List UInt8)), ∃ (b_1 : Bool), ∃ (c_1 : Bool), Option.some (Go.Bv.VS.mk [((0 : Nat), Go.Bv.V.d (Go.Bv.D.slice c (Go.Bv.strsD xs))), ((1 : Nat), Go.Bv.V.d (Go.Bv.D.slice b (Go.Bv.strsD ys))), ((5 : Nat), Go.Bv.V.d (Go.Bv.D.int Go.IntKind.i64 (0 : Int)))] [] (0 : Nat) [] (26 : Nat)) = Option.some (Go.Bv.VS.mk [((0 : Nat), Go.Bv.V.d (Go.Bv.D.slice c_1 (Go.Bv.strsD xs_1))), ((1 : Nat), Go.Bv.V.d (Go.Bv.D.slice b_1 (Go.Bv.strsD ys_1))), ((5 : Nat), Go.Bv.V.d (Go.Bv.D.int Go.IntKind.i64 (0 : Int)))] [] (0 : Nat) [] (26 : Nat)) ∧ (List.length xs_1 = List.length ys_1 ∧ List.length xs_1 ≤ (140737488355328 : Nat)) ∧ bif Decidable.decide (xs_1 = ys_1) then K (Go.Bv.V.d (Go.Bv.D.bool Bool.true)) [] [] else K (Go.Bv.V.d (Go.Bv.D.bool Bool.false)) [] []) = (inlN Tryz.prog xLib lSm3 4 9 [.d (.slice c (strsD xs)), .d (.slice b (strsD ys))] [] K) := by kernel_rfl
def sm9S : FSpec := fun args H K => match args, H with
  | [.sref 0 n, .sref 1 m], [.row 1 0 false es, .row 1 0 false fs] => (es = strsD (strsV es) ∧ fs = strsD (strsV fs) ∧ n = (strsV es).length ∧ m = (strsV fs).length ∧ n ≤ 140737488355328) ∧
      K (.d (.bool (decide (strsV es = strsV fs)))) [.row 1 0 false (strsD (strsV es)), .row 1 0 false (strsD (strsV fs))] []
  | [.sref 0 n, .d (.slice b fs)], [.row 1 0 false es] => (es = strsD (strsV es) ∧ fs = strsD (strsV fs) ∧ n = (strsV es).length ∧ n ≤ 140737488355328) ∧ K (.d (.bool (decide (strsV es = strsV fs)))) [.row 1 0 false (strsD (strsV es))] []
  | [.d (.slice c es), .d (.slice b fs)], [] => (es = strsD (strsV es) ∧ fs = strsD (strsV fs) ∧ (strsV es).length ≤ 140737488355328) ∧ K (.d (.bool (decide (strsV es = strsV fs)))) [] []
  | _, _ => False
theorem ne_dec {α : Type} {xs ys : List α} [DecidableEq (List α)] (h : decide ((xs.length : Int) = (ys.length : Int)) = false) : decide (xs = ys) = false := by
  simp only [decide_eq_false_iff_not] at h ⊢
  intro e; rw [e] at h; exact h rfl
theorem sm9S_ok : FOK2 Tryz.prog 9 sm9S := by
  obtain ⟨sp1, hsp1⟩ : ∃ sp, sp = inlN Tryz.prog xLib lSm 4 9 := ⟨_, rfl⟩
  have hok1 : FOK2 Tryz.prog 9 sp1 := hsp1 ▸ inlN_ok (LL := lSm) xLib_ok mixed 4 9
  obtain ⟨sp2, hsp2⟩ : ∃ sp, sp = inlN Tryz.prog xLib lSm2 4 9 := ⟨_, rfl⟩
  have hok2 : FOK2 Tryz.prog 9 sp2 := hsp2 ▸ inlN_ok (LL := lSm2) xLib_ok mixed 4 9
  obtain ⟨sp3, hsp3⟩ : ∃ sp, sp = inlN Tryz.prog xLib lSm3 4 9 := ⟨_, rfl⟩
  have hok3 : FOK2 Tryz.prog 9 sp3 := hsp3 ▸ inlN_ok (LL := lSm3) xLib_ok mixed 4 9
  intro args H K h
  unfold sm9S at h
  split at h
  · rename_i n m es fs
    obtain ⟨⟨h1, h2, h3, h4, h5⟩, h6⟩ := h
    apply hok1
    rw [hsp1]
    generalize hxs : strsV es = xs at *
    generalize hys : strsV fs = ys at *
    subst h1 h2 h3 h4
    show inlN Tryz.prog xLib lSm 4 9 [.sref 0 xs.length, .sref 1 ys.length] [.row 1 0 false (strsD xs), .row 1 0 false (strsD ys)] K
    rw [← same9_body]
    cases hd : decide ((xs.length : Int) = (ys.length : Int)) with
    | false => rw [ne_dec hd] at h6; exact h6
    | true =>
      simp only [decide_eq_true_eq] at hd
      refine ⟨smT_ok, xs, ys, rfl, ⟨by omega, h5⟩, ?_⟩
      cases hb : decide (xs = ys) with
      | true => rw [hb] at h6; exact h6
      | false => rw [hb] at h6; exact h6
  · rename_i n b fs es
    obtain ⟨⟨h1, h2, h3, h5⟩, h6⟩ := h
    apply hok2
    rw [hsp2]
    generalize hxs : strsV es = xs at *
    generalize hys : strsV fs = ys at *
    subst h1 h2 h3
    show inlN Tryz.prog xLib lSm2 4 9 [.sref 0 xs.length, .d (.slice b (strsD ys))] [.row 1 0 false (strsD xs)] K
    rw [← same9_body2]
    rw [strsD_len]
    cases hd : decide ((xs.length : Int) = (ys.length : Int)) with
    | false => rw [ne_dec hd] at h6; exact h6
    | true =>
      simp only [decide_eq_true_eq] at hd
      refine ⟨smT2_ok, xs, ys, b, rfl, ⟨by omega, h5⟩, ?_⟩
      cases hb : decide (xs = ys) with
      | true => rw [hb] at h6; exact h6
      | false => rw [hb] at h6; exact h6
  · rename_i c es b fs
    obtain ⟨⟨h1, h2, h5⟩, h6⟩ := h
    apply hok3
    rw [hsp3]
    generalize hxs : strsV es = xs at *
    generalize hys : strsV fs = ys at *
    subst h1 h2
    show inlN Tryz.prog xLib lSm3 4 9 [.d (.slice c (strsD xs)), .d (.slice b (strsD ys))] [] K
    rw [← same9_body3]
    rw [strsD_len, strsD_len]
    cases hd : decide ((xs.length : Int) = (ys.length : Int)) with
    | false => rw [ne_dec hd] at h6; exact h6
    | true =>
      simp only [decide_eq_true_eq] at hd
      refine ⟨smT3_ok, xs, ys, b, c, rfl, ⟨by omega, h5⟩, ?_⟩
      cases hb : decide (xs = ys) with
      | true => rw [hb] at h6; exact h6
      | false => rw [hb] at h6; exact h6
  · exact h.elim

def leS (t : List UInt8) (i n s : Nat) : VS := stN 57 [(0, .d (.str t)), (1, .d (.int .i64 i)), (4, .d (.int .i64 n)), (5, .d (.int .i64 0)), (6, .d (.int .i64 s))] []
def leE (i : Nat) (n a : Int) : VS := stN 57 [(1, .d (.int .i64 i)), (4, .d (.int .i64 n)), (5, .d (.int .i64 a))] []
theorem length_round (t : List UInt8) (i : Nat) (n : Nat) (s : Nat) (Kn : Option Go.Bv.VS → Prop) (Ke : Go.Exit → Option Go.Bv.VS → Prop) : (bif Decidable.decide ((↑i : Int) < (↑(List.length t) : Int)) then ((0 : Int) ≤ (↑i : Int) ∧ (↑i : Int) < (↑(List.length t) : Int)) ∧ bif Decidable.decide ((↑(UInt8.toNat (List.getD t (Int.toNat (↑i : Int)) (0 : UInt8))) : Int) = (32 : Int)) then bif Decidable.decide ((↑s : Int) < (↑i : Int)) then Ke Go.Exit.ret (Option.some (Go.Bv.VS.mk [((1 : Nat), Go.Bv.V.d (Go.Bv.D.int Go.IntKind.i64 (↑i : Int))), ((4 : Nat), Go.Bv.V.d (Go.Bv.D.int Go.IntKind.i64 (↑n : Int))), ((5 : Nat), Go.Bv.V.d (Go.Bv.D.int Go.IntKind.i64 (Go.IntKind.wrap Go.IntKind.i64 ((↑i : Int) + (1 : Int)))))] [] (0 : Nat) [] (57 : Nat))) else ((0 : Int) ≤ (↑i : Int) ∧ (↑i : Int) < (↑(List.length t) : Int)) ∧ bif Decidable.decide ((0 : Int) ≤ Go.IntKind.wrap Go.IntKind.i64 (Go.IntKind.wrap Go.IntKind.i64 (↑(UInt8.toNat (List.getD t (Int.toNat (↑i : Int)) (0 : UInt8))) : Int) - (48 : Int))) then bif !Decidable.decide (Go.IntKind.wrap Go.IntKind.i64 (Go.IntKind.wrap Go.IntKind.i64 (↑(UInt8.toNat (List.getD t (Int.toNat (↑i : Int)) (0 : UInt8))) : Int) - (48 : Int)) ≤ (9 : Int)) then Ke Go.Exit.ret (Option.some (Go.Bv.VS.mk [((1 : Nat), Go.Bv.V.d (Go.Bv.D.int Go.IntKind.i64 (↑i : Int))), ((4 : Nat), Go.Bv.V.d (Go.Bv.D.int Go.IntKind.i64 (-1 : Int))), ((5 : Nat), Go.Bv.V.d (Go.Bv.D.int Go.IntKind.i64 (↑i : Int)))] [] (0 : Nat) [] (57 : Nat))) else bif Decidable.decide ((↑s : Int) < (↑i : Int)) then bif Decidable.decide ((↑n : Int) = (0 : Int)) then Ke Go.Exit.ret (Option.some (Go.Bv.VS.mk [((1 : Nat), Go.Bv.V.d (Go.Bv.D.int Go.IntKind.i64 (↑i : Int))), ((4 : Nat), Go.Bv.V.d (Go.Bv.D.int Go.IntKind.i64 (-1 : Int))), ((5 : Nat), Go.Bv.V.d (Go.Bv.D.int Go.IntKind.i64 (↑i : Int)))] [] (0 : Nat) [] (57 : Nat))) else bif Decidable.decide ((60 : Int) < Go.IntKind.wrap Go.IntKind.i64 (Go.IntKind.wrap Go.IntKind.i64 ((↑n : Int) * (10 : Int)) + Go.IntKind.wrap Go.IntKind.i64 (Go.IntKind.wrap Go.IntKind.i64 (↑(UInt8.toNat (List.getD t (Int.toNat (↑i : Int)) (0 : UInt8))) : Int) - (48 : Int)))) then Ke Go.Exit.ret (Option.some (Go.Bv.VS.mk [((1 : Nat), Go.Bv.V.d (Go.Bv.D.int Go.IntKind.i64 (↑i : Int))), ((4 : Nat), Go.Bv.V.d (Go.Bv.D.int Go.IntKind.i64 (-1 : Int))), ((5 : Nat), Go.Bv.V.d (Go.Bv.D.int Go.IntKind.i64 (↑i : Int)))] [] (0 : Nat) [] (57 : Nat))) else Kn (Option.some (Go.Bv.VS.mk [((0 : Nat), Go.Bv.V.d (Go.Bv.D.str t)), ((1 : Nat), Go.Bv.V.d (Go.Bv.D.int Go.IntKind.i64 (Go.IntKind.wrap Go.IntKind.i64 ((↑i : Int) + (1 : Int))))), ((4 : Nat), Go.Bv.V.d (Go.Bv.D.int Go.IntKind.i64 (Go.IntKind.wrap Go.IntKind.i64 (Go.IntKind.wrap Go.IntKind.i64 ((↑n : Int) * (10 : Int)) + Go.IntKind.wrap Go.IntKind.i64 (Go.IntKind.wrap Go.IntKind.i64 (↑(UInt8.toNat (List.getD t (Int.toNat (↑i : Int)) (0 : UInt8))) : Int) - (48 : Int)))))), ((5 : Nat), Go.Bv.V.d (Go.Bv.D.int Go.IntKind.i64 (0 : Int))), ((6 : Nat), Go.Bv.V.d (Go.Bv.D.int Go.IntKind.i64 (↑s : Int)))] [] (0 : Nat) [] (57 : Nat))) else Kn (Option.some (Go.Bv.VS.mk [((0 : Nat), Go.Bv.V.d (Go.Bv.D.str t)), ((1 : Nat), Go.Bv.V.d (Go.Bv.D.int Go.IntKind.i64 (Go.IntKind.wrap Go.IntKind.i64 ((↑i : Int) + (1 : Int))))), ((4 : Nat), Go.Bv.V.d (Go.Bv.D.int Go.IntKind.i64 (Go.IntKind.wrap Go.IntKind.i64 (Go.IntKind.wrap Go.IntKind.i64 ((↑n : Int) * (10 : Int)) + Go.IntKind.wrap Go.IntKind.i64 (Go.IntKind.wrap Go.IntKind.i64 (↑(UInt8.toNat (List.getD t (Int.toNat (↑i : Int)) (0 : UInt8))) : Int) - (48 : Int)))))), ((5 : Nat), Go.Bv.V.d (Go.Bv.D.int Go.IntKind.i64 (0 : Int))), ((6 : Nat), Go.Bv.V.d (Go.Bv.D.int Go.IntKind.i64 (↑s : Int)))] [] (0 : Nat) [] (57 : Nat))) else Ke Go.Exit.ret (Option.some (Go.Bv.VS.mk [((1 : Nat), Go.Bv.V.d (Go.Bv.D.int Go.IntKind.i64 (↑i : Int))), ((4 : Nat), Go.Bv.V.d (Go.Bv.D.int Go.IntKind.i64 (-1 : Int))), ((5 : Nat), Go.Bv.V.d (Go.Bv.D.int Go.IntKind.i64 (↑i : Int)))] [] (0 : Nat) [] (57 : Nat))) else ((0 : Int) ≤ (↑i : Int) ∧ (↑i : Int) < (↑(List.length t) : Int)) ∧ bif Decidable.decide ((0 : Int) ≤ Go.IntKind.wrap Go.IntKind.i64 (Go.IntKind.wrap Go.IntKind.i64 (↑(UInt8.toNat (List.getD t (Int.toNat (↑i : Int)) (0 : UInt8))) : Int) - (48 : Int))) then bif !Decidable.decide (Go.IntKind.wrap Go.IntKind.i64 (Go.IntKind.wrap Go.IntKind.i64 (↑(UInt8.toNat (List.getD t (Int.toNat (↑i : Int)) (0 : UInt8))) : Int) - (48 : Int)) ≤ (9 : Int)) then Ke Go.Exit.ret (Option.some (Go.Bv.VS.mk [((1 : Nat), Go.Bv.V.d (Go.Bv.D.int Go.IntKind.i64 (↑i : Int))), ((4 : Nat), Go.Bv.V.d (Go.Bv.D.int Go.IntKind.i64 (-1 : Int))), ((5 : Nat), Go.Bv.V.d (Go.Bv.D.int Go.IntKind.i64 (↑i : Int)))] [] (0 : Nat) [] (57 : Nat))) else bif Decidable.decide ((↑s : Int) < (↑i : Int)) then bif Decidable.decide ((↑n : Int) = (0 : Int)) then Ke Go.Exit.ret (Option.some (Go.Bv.VS.mk [((1 : Nat), Go.Bv.V.d (Go.Bv.D.int Go.IntKind.i64 (↑i : Int))), ((4 : Nat), Go.Bv.V.d (Go.Bv.D.int Go.IntKind.i64 (-1 : Int))), ((5 : Nat), Go.Bv.V.d (Go.Bv.D.int Go.IntKind.i64 (↑i : Int)))] [] (0 : Nat) [] (57 : Nat))) else bif Decidable.decide ((60 : Int) < Go.IntKind.wrap Go.IntKind.i64 (Go.IntKind.wrap Go.IntKind.i64 ((↑n : Int) * (10 : Int)) + Go.IntKind.wrap Go.IntKind.i64 (Go.IntKind.wrap Go.IntKind.i64 (↑(UInt8.toNat (List.getD t (Int.toNat (↑i : Int)) (0 : UInt8))) : Int) - (48 : Int)))) then Ke Go.Exit.ret (Option.some (Go.Bv.VS.mk [((1 : Nat), Go.Bv.V.d (Go.Bv.D.int Go.IntKind.i64 (↑i : Int))), ((4 : Nat), Go.Bv.V.d (Go.Bv.D.int Go.IntKind.i64 (-1 : Int))), ((5 : Nat), Go.Bv.V.d (Go.Bv.D.int Go.IntKind.i64 (↑i : Int)))] [] (0 : Nat) [] (57 : Nat))) else Kn (Option.some (Go.Bv.VS.mk [((0 : Nat), Go.Bv.V.d (Go.Bv.D.str t)), ((1 : Nat), Go.Bv.V.d (Go.Bv.D.int Go.IntKind.i64 (Go.IntKind.wrap Go.IntKind.i64 ((↑i : Int) + (1 : Int))))), ((4 : Nat), Go.Bv.V.d (Go.Bv.D.int Go.IntKind.i64 (Go.IntKind.wrap Go.IntKind.i64 (Go.IntKind.wrap Go.IntKind.i64 ((↑n : Int) * (10 : Int)) + Go.IntKind.wrap Go.IntKind.i64 (Go.IntKind.wrap Go.IntKind.i64 (↑(UInt8.toNat (List.getD t (Int.toNat (↑i : Int)) (0 : UInt8))) : Int) - (48 : Int)))))), ((5 : Nat), Go.Bv.V.d (Go.Bv.D.int Go.IntKind.i64 (0 : Int))), ((6 : Nat), Go.Bv.V.d (Go.Bv.D.int Go.IntKind.i64 (↑s : Int)))] [] (0 : Nat) [] (57 : Nat))) else Kn (Option.some (Go.Bv.VS.mk [((0 : Nat), Go.Bv.V.d (Go.Bv.D.str t)), ((1 : Nat), Go.Bv.V.d (Go.Bv.D.int Go.IntKind.i64 (Go.IntKind.wrap Go.IntKind.i64 ((↑i : Int) + (1 : Int))))), ((4 : Nat), Go.Bv.V.d (Go.Bv.D.int Go.IntKind.i64 (Go.IntKind.wrap Go.IntKind.i64 (Go.IntKind.wrap Go.IntKind.i64 ((↑n : Int) * (10 : Int)) + Go.IntKind.wrap Go.IntKind.i64 (Go.IntKind.wrap Go.IntKind.i64 (↑(UInt8.toNat (List.getD t (Int.toNat (↑i : Int)) (0 : UInt8))) : Int) - (48 : Int)))))), ((5 : Nat), Go.Bv.V.d (Go.Bv.D.int Go.IntKind.i64 (0 : Int))), ((6 : Nat), Go.Bv.V.d (Go.Bv.D.int Go.IntKind.i64 (↑s : Int)))] [] (0 : Nat) [] (57 : Nat))) else Ke Go.Exit.ret (Option.some (Go.Bv.VS.mk [((1 : Nat), Go.Bv.V.d (Go.Bv.D.int Go.IntKind.i64 (↑i : Int))), ((4 : Nat), Go.Bv.V.d (Go.Bv.D.int Go.IntKind.i64 (-1 : Int))), ((5 : Nat), Go.Bv.V.d (Go.Bv.D.int Go.IntKind.i64 (↑i : Int)))] [] (0 : Nat) [] (57 : Nat))) else Ke (Go.Exit.exit (0 : Nat)) (Option.some (Go.Bv.VS.mk [((1 : Nat), Go.Bv.V.d (Go.Bv.D.int Go.IntKind.i64 (↑i : Int))), ((4 : Nat), Go.Bv.V.d (Go.Bv.D.int Go.IntKind.i64 (↑n : Int))), ((5 : Nat), Go.Bv.V.d (Go.Bv.D.int Go.IntKind.i64 (0 : Int)))] [] (0 : Nat) [] (57 : Nat)))) = (roundP Tryz.prog xLib iLib 0 (fun _ => none) (loopB Tryz.prog 24 [true, true, false, false]) [0, 1, 4, 5, 6] [1, 4, 5] (leS t i n s) Kn Ke) := by kernel_rfl
def leR (p : List UInt8 × Nat × Nat × Nat) (e : Exit) (s' : VS) : Prop :=
  bif decide (p.2.1 + (dgL (p.1.drop p.2.1) p.2.2.1 (p.2.1 - p.2.2.2)).1 < p.1.length) then e = .ret ∧ s' = leE (p.2.1 + (dgL (p.1.drop p.2.1) p.2.2.1 (p.2.1 - p.2.2.2)).1) (lenV p.1 p.2.1 p.2.2.1 p.2.2.2).1 (lenV p.1 p.2.1 p.2.2.1 p.2.2.2).2
  else e = .exit 0 ∧ s' = leE p.1.length (dgL (p.1.drop p.2.1) p.2.2.1 (p.2.1 - p.2.2.2)).2 0
def leT : LoopT := fun s W Q => ∃ (t : List UInt8) (i : Nat), canonN 0 [0, 1, 4, 5, 6] s = some (leS t i 0 i) ∧ (i ≤ t.length ∧ t.length ≤ 4294967280) ∧
  bif decide (i + (dgL (t.drop i) 0 0).1 < t.length) then Q .ret (leE (i + (dgL (t.drop i) 0 0).1) (lenV t i 0 i).1 (lenV t i 0 i).2) [] else Q (.exit 0) (leE t.length (dgL (t.drop i) 0 0).2 0) []
theorem leT_ok : LoopOK Tryz.prog 0 none (loopB Tryz.prog 24 [true, true, false, false]) leT := by
  refine LoopOK.walk xLib_ok iLib_ok mixed [0, 1, 4, 5, 6] [1, 4, 5] (L := fun _ => none) (fun p : List UInt8 × Nat × Nat × Nat => leS p.1 p.2.1 p.2.2.1 p.2.2.2) (fun p => p.2.1 ≤ p.1.length ∧ p.1.length ≤ 4294967280 ∧ p.2.2.1 ≤ 60 ∧ p.2.2.2 ≤ p.2.1 ∧ (p.2.2.2 = p.2.1 → p.2.2.1 = 0)) (fun p => p.1.length - p.2.1) leR ?_ ?_
  · intro p hp
    obtain ⟨t, i, n, s⟩ := p
    have hi : i ≤ t.length := hp.1
    have ht : t.length ≤ 4294967280 := hp.2.1
    have hn : n ≤ 60 := hp.2.2.1
    have hs : s ≤ i := hp.2.2.2.1
    have hs0 : s = i → n = 0 := hp.2.2.2.2
    clear hp
    show roundP Tryz.prog xLib iLib 0 (fun _ => none) (loopB Tryz.prog 24 [true, true, false, false]) [0, 1, 4, 5, 6] [1, 4, 5] (leS t i n s) _ _
    rw [← length_round]
    simp only [Int.toNat_natCast]
    by_cases hlt : i < t.length
    · have e0 : decide ((i : Int) < (t.length : Int)) = true := by simp only [decide_eq_true_eq]; omega
      have hd2 : t.drop i = t.getD i 0 :: t.drop (i + 1) := drop_cons hlt 0
      have hb : (t.getD i 0).toNat < 256 := UInt8.toNat_lt _
      rw [e0]
      obtain ⟨c, hc⟩ : ∃ c, (t.getD i 0).toNat = c := ⟨_, rfl⟩
      rw [hc] at hb
      simp only [hc]

      have stop : (decide (48 ≤ c) && decide (c ≤ 57) && (decide (i - s = 0) || decide (0 < n)) && decide (10 * n + (c - 48) ≤ 60)) = false → dgL (t.drop i) n (i - s) = (0, n) := by
        intro h; rw [hd2]; simp only [dgL, hc, h, cond_false]
      have bad : (decide (48 ≤ c) && decide (c ≤ 57) && (decide (i - s = 0) || decide (0 < n)) && decide (10 * n + (c - 48) ≤ 60)) = false → (c = 32 → i = s) → leR (t, i, n, s) .ret (leE i (-1) i) := by
        intro h h32
        have e := stop h
        have e1 : decide (i < t.length) = true := by simpa using hlt
        have e2 : (decide (0 < i - s) && decide (c = 32)) = false := by
          cases h5 : decide (c = 32) with
          | false => simp
          | true => have := h32 (by simpa using h5); simp; omega
        simp only [leR, lenV, e, Nat.add_zero, e1, hc, e2, cond_true, cond_false]
        exact ⟨trivial, trivial⟩
      have good : 48 ≤ c → c ≤ 57 → (i - s = 0 ∨ 0 < n) → 10 * n + (c - 48) ≤ 60 → ∃ j : List UInt8 × Nat × Nat × Nat,
          some (leS t (i + 1) (10 * n + (c - 48)) s) = some (leS j.1 j.2.1 j.2.2.1 j.2.2.2) ∧ (j.2.1 ≤ j.1.length ∧ j.1.length ≤ 4294967280 ∧ j.2.2.1 ≤ 60 ∧ j.2.2.2 ≤ j.2.1 ∧ (j.2.2.2 = j.2.1 → j.2.2.1 = 0)) ∧ j.1.length - j.2.1 < t.length - i ∧ ∀ e s', leR j e s' → leR (t, i, n, s) e s' := by
        intro h48 h57 hz h60
        have e : (decide (48 ≤ c) && decide (c ≤ 57) && (decide (i - s = 0) || decide (0 < n)) && decide (10 * n + (c - 48) ≤ 60)) = true := by
          simp only [h48, h57, h60, decide_true, Bool.true_and, Bool.and_true, Bool.or_eq_true, decide_eq_true_eq]; exact hz
        refine ⟨(t, i + 1, 10 * n + (c - 48), s), rfl, ⟨by simp only; omega, ht, h60, by simp only; omega, fun h => (by simp only at h; omega)⟩, by simp only; omega, fun e' s' h => ?_⟩
        have hq : dgL (t.drop i) n (i - s) = ((dgL (t.drop (i + 1)) (10 * n + (c - 48)) (i + 1 - s)).1 + 1, (dgL (t.drop (i + 1)) (10 * n + (c - 48)) (i + 1 - s)).2) := by
          rw [hd2, show i + 1 - s = i - s + 1 by omega]; simp only [dgL, hc, e, cond_true]
        simp only [leR, lenV] at h ⊢
        rw [hq]
        simp only
        generalize dgL (t.drop (i + 1)) (10 * n + (c - 48)) (i + 1 - s) = q at h ⊢
        rw [show i + (q.1 + 1) = i + 1 + q.1 by omega, show i - s + (q.1 + 1) = i + 1 - s + q.1 by omega]
        exact h
      refine ⟨⟨by omega, by omega⟩, ?_⟩
      have wd : 48 ≤ c → c ≤ 57 → IntKind.i64.wrap (IntKind.i64.wrap ((c : Int)) - 48) = ((c - 48 : Nat) : Int) := by
        intro h1 h2; rw [wrap_in (c : Int) (by omega) (by omega), wrap_in _ (by omega) (by omega)]; omega
      have wd0 : IntKind.i64.wrap (IntKind.i64.wrap ((c : Int)) - 48) = (c : Int) - 48 := by
        rw [wrap_in (c : Int) (by omega) (by omega), wrap_in _ (by omega) (by omega)]
      rw [wd0]

      have rest : (c = 32 → i = s) →
          (((0 : Int) ≤ i ∧ (i : Int) < t.length) ∧ bif decide ((0 : Int) ≤ (c : Int) - 48) then bif !decide ((c : Int) - 48 ≤ 9) then (∃ s2, some (leE i (-1) i) = some s2 ∧ leR (t, i, n, s) .ret s2) else
            bif decide ((s : Int) < i) then bif decide ((n : Int) = 0) then (∃ s2, some (leE i (-1) i) = some s2 ∧ leR (t, i, n, s) .ret s2) else
              bif decide ((60 : Int) < IntKind.i64.wrap (IntKind.i64.wrap ((n : Int) * 10) + ((c : Int) - 48))) then (∃ s2, some (leE i (-1) i) = some s2 ∧ leR (t, i, n, s) .ret s2) else
                ∃ j : List UInt8 × Nat × Nat × Nat, some (stN 57 [(0, .d (.str t)), (1, .d (.int .i64 (IntKind.i64.wrap ((i : Int) + 1)))), (4, .d (.int .i64 (IntKind.i64.wrap (IntKind.i64.wrap ((n : Int) * 10) + ((c : Int) - 48))))), (5, .d (.int .i64 0)), (6, .d (.int .i64 s))] []) = some (leS j.1 j.2.1 j.2.2.1 j.2.2.2) ∧ (j.2.1 ≤ j.1.length ∧ j.1.length ≤ 4294967280 ∧ j.2.2.1 ≤ 60 ∧ j.2.2.2 ≤ j.2.1 ∧ (j.2.2.2 = j.2.1 → j.2.2.1 = 0)) ∧ j.1.length - j.2.1 < t.length - i ∧ ∀ e s', leR j e s' → leR (t, i, n, s) e s'
            else ∃ j : List UInt8 × Nat × Nat × Nat, some (stN 57 [(0, .d (.str t)), (1, .d (.int .i64 (IntKind.i64.wrap ((i : Int) + 1)))), (4, .d (.int .i64 (IntKind.i64.wrap (IntKind.i64.wrap ((n : Int) * 10) + ((c : Int) - 48))))), (5, .d (.int .i64 0)), (6, .d (.int .i64 s))] []) = some (leS j.1 j.2.1 j.2.2.1 j.2.2.2) ∧ (j.2.1 ≤ j.1.length ∧ j.1.length ≤ 4294967280 ∧ j.2.2.1 ≤ 60 ∧ j.2.2.2 ≤ j.2.1 ∧ (j.2.2.2 = j.2.1 → j.2.2.1 = 0)) ∧ j.1.length - j.2.1 < t.length - i ∧ ∀ e s', leR j e s' → leR (t, i, n, s) e s'
          else (∃ s2, some (leE i (-1) i) = some s2 ∧ leR (t, i, n, s) .ret s2)) := by
        intro h32
        refine ⟨⟨by omega, by omega⟩, ?_⟩
        cases h48 : decide ((0 : Int) ≤ (c : Int) - 48) with
        | false =>
          simp only [decide_eq_false_iff_not] at h48
          exact ⟨_, rfl, bad (by simp; omega) h32⟩
        | true =>
          cases h57 : decide ((c : Int) - 48 ≤ 9) with
          | false =>
            simp only [decide_eq_false_iff_not] at h57
            exact ⟨_, rfl, bad (by simp; omega) h32⟩
          | true =>
            simp only [decide_eq_true_eq] at h48 h57
            have hw : IntKind.i64.wrap (IntKind.i64.wrap ((n : Int) * 10) + ((c : Int) - 48)) = ((10 * n + (c - 48) : Nat) : Int) := by
              rw [wrap_in ((n : Int) * 10) (by omega) (by omega), wrap_in _ (by omega) (by omega)]; omega
            rw [hw, wrap_in ((i : Int) + 1) (by omega) (by omega)]
            cases hsi : decide ((s : Int) < (i : Int)) with
            | false =>
              simp only [decide_eq_false_iff_not] at hsi
              by_cases h60 : 10 * n + (c - 48) ≤ 60
              · exact good (by omega) (by omega) (.inl (by omega)) h60
              · have := hs0 (by omega)
                exact absurd h60 (by omega)
            | true =>
              simp only [decide_eq_true_eq] at hsi
              cases hn0 : decide ((n : Int) = 0) with
              | true =>
                simp only [decide_eq_true_eq] at hn0
                exact ⟨_, rfl, bad (by simp; omega) h32⟩
              | false =>
                simp only [decide_eq_false_iff_not] at hn0
                cases h60 : decide ((60 : Int) < ((10 * n + (c - 48) : Nat) : Int)) with
                | true =>
                  simp only [decide_eq_true_eq] at h60
                  exact ⟨_, rfl, bad (by simp; omega) h32⟩
                | false =>
                  simp only [decide_eq_false_iff_not] at h60
                  exact good (by omega) (by omega) (.inr (by omega)) (by omega)
      cases h32 : decide ((c : Int) = 32) with
      | false =>
        simp only [decide_eq_false_iff_not] at h32
        exact rest (fun h => absurd h (by omega))
      | true =>
        simp only [decide_eq_true_eq] at h32
        have hc32 : c = 32 := by omega
        cases hsi : decide ((s : Int) < (i : Int)) with
        | false =>
          have hs2 : ¬ ((s : Int) < (i : Int)) := by simpa using hsi
          have := rest (fun _ => by omega)
          rw [hsi] at this
          exact this
        | true =>
          simp only [decide_eq_true_eq] at hsi
          rw [wrap_in ((i : Int) + 1) (by omega) (by omega)]
          refine ⟨_, rfl, ?_⟩
          have e := stop (by rw [hc32]; rfl)
          have e1 : decide (i < t.length) = true := by simpa using hlt
          have e2 : decide (0 < i - s) = true := by simp only [decide_eq_true_eq]; omega
          simp only [leR, lenV, e, Nat.add_zero, e1, hc, hc32, e2, decide_true, Bool.true_and, cond_true]
          exact ⟨trivial, by simp only [leE, Int.natCast_add, Int.cast_ofNat_Int]; rfl⟩
    · have e0 : decide ((i : Int) < (t.length : Int)) = false := by simp only [decide_eq_false_iff_not]; omega
      have : t.drop i = [] := List.drop_eq_nil_of_le (by omega)
      rw [e0]
      refine ⟨_, rfl, ?_⟩
      have e1 : decide (i < t.length) = false := by simpa using hlt
      have e2 : i = t.length := by omega
      simp only [leR, this, dgL, Nat.add_zero, e1, cond_false]
      exact ⟨trivial, by rw [← e2]; rfl⟩
  · intro s W Q hT
    obtain ⟨t, i, h1, h2, h3⟩ := hT
    refine ⟨(t, i, 0, i), h1, ⟨h2.1, h2.2, Nat.zero_le _, Nat.le_refl _, fun _ => rfl⟩, fun e s' h => ⟨[], ?_⟩⟩
    simp only [leR, Nat.sub_self] at h
    cases hb : decide (i + (dgL (t.drop i) 0 0).1 < t.length) with
    | true => rw [hb] at h h3; obtain ⟨rfl, rfl⟩ := h; exact h3
    | false => rw [hb] at h h3; obtain ⟨rfl, rfl⟩ := h; exact h3
def lLe : FuncId → Nat → Option LoopT := fun f p => bif Nat.beq f 24 && Nat.beq p 28 then some leT else none
end Go.Proofs

namespace Go.Bv
def lenF (t : List UInt8) (a : Nat) : Int × Nat := bif decide (a + (dgL (t.drop a) 0 0).1 < t.length) then lenV t a 0 a else (-1, t.length)
theorem tw_all {α : Type} (p : α → Bool) : ∀ l : List α, l.all p = true → l.takeWhile p = l
  | [], _ => rfl
  | a :: r, h => by
    simp only [List.all_cons, Bool.and_eq_true] at h
    rw [List.takeWhile_cons_of_pos h.1, tw_all p r h.2]
end Go.Bv
namespace Go.Proofs
open Go Go.Bv
theorem length_body (t : List UInt8) (a : Nat) (K : Go.Bv.KC) : (Go.Bv.LoopOK Go.Proofs.Tryz.prog (0 : Nat) Option.none (Go.Bv.loopB Go.Proofs.Tryz.prog (24 : Nat) [Bool.true, Bool.true, Bool.false, Bool.false]) Go.Proofs.leT ∧ ∃ (t_1 : List UInt8), ∃ (i : Nat), Option.some (Go.Bv.VS.mk [((0 : Nat), Go.Bv.V.d (Go.Bv.D.str t)), ((1 : Nat), Go.Bv.V.d (Go.Bv.D.int Go.IntKind.i64 (↑a : Int))), ((4 : Nat), Go.Bv.V.d (Go.Bv.D.int Go.IntKind.i64 (0 : Int))), ((5 : Nat), Go.Bv.V.d (Go.Bv.D.int Go.IntKind.i64 (0 : Int))), ((6 : Nat), Go.Bv.V.d (Go.Bv.D.int Go.IntKind.i64 (↑a : Int)))] [] (0 : Nat) [] (57 : Nat)) = Option.some (Go.Bv.VS.mk [((0 : Nat), Go.Bv.V.d (Go.Bv.D.str t_1)), ((1 : Nat), Go.Bv.V.d (Go.Bv.D.int Go.IntKind.i64 (↑i : Int))), ((4 : Nat), Go.Bv.V.d (Go.Bv.D.int Go.IntKind.i64 (0 : Int))), ((5 : Nat), Go.Bv.V.d (Go.Bv.D.int Go.IntKind.i64 (0 : Int))), ((6 : Nat), Go.Bv.V.d (Go.Bv.D.int Go.IntKind.i64 (↑i : Int)))] [] (0 : Nat) [] (57 : Nat)) ∧ (i ≤ List.length t_1 ∧ List.length t_1 ≤ (4294967280 : Nat)) ∧ bif Decidable.decide (i + Prod.fst (Go.Bv.dgL (List.drop i t_1) (0 : Nat) (0 : Nat)) < List.length t_1) then K (Go.Bv.V.tup [Go.Bv.V.d (Go.Bv.D.int Go.IntKind.i64 (Prod.fst (Go.Bv.lenV t_1 i (0 : Nat) i))), Go.Bv.V.d (Go.Bv.D.int Go.IntKind.i64 (↑(Prod.snd (Go.Bv.lenV t_1 i (0 : Nat) i)) : Int))]) [] [] else K (Go.Bv.V.tup [Go.Bv.V.d (Go.Bv.D.int Go.IntKind.i64 (-1 : Int)), Go.Bv.V.d (Go.Bv.D.int Go.IntKind.i64 (↑(List.length t_1) : Int))]) [] []) = (inlN Tryz.prog xLib lLe 4 24 [.d (.str t), .d (.int .i64 a)] [] K) := by kernel_rfl
def lengthS : FSpec := fun args H K => match args, H with
  | [.d (.str t), .d (.int .i64 a)], [] => (0 ≤ a ∧ a.toNat ≤ t.length ∧ t.length ≤ 4294967280) ∧ K (.tup [.d (.int .i64 (lenF t a.toNat).1), .d (.int .i64 ((lenF t a.toNat).2 : Nat))]) [] []
  | _, _ => False
theorem lengthS_ok : FOK2 Tryz.prog 24 lengthS := by
  obtain ⟨sp, hsp⟩ : ∃ sp, sp = inlN Tryz.prog xLib lLe 4 24 := ⟨_, rfl⟩
  have hok : FOK2 Tryz.prog 24 sp := hsp ▸ inlN_ok (LL := lLe) xLib_ok mixed 4 24
  refine hok.imp fun args H K h => ?_
  unfold lengthS at h
  split at h
  · rename_i t a
    obtain ⟨⟨h0, h1, h2⟩, h4⟩ := h
    obtain ⟨n, rfl⟩ : ∃ n : Nat, a = n := ⟨a.toNat, by omega⟩
    simp only [Int.toNat_natCast] at h1 h4
    rw [hsp]
    show inlN Tryz.prog xLib lLe 4 24 [.d (.str t), .d (.int .i64 n)] [] K
    rw [← length_body]
    refine ⟨leT_ok, t, n, rfl, ⟨h1, h2⟩, ?_⟩
    unfold lenF at h4
    cases hb : decide (n + (dgL (t.drop n) 0 0).1 < t.length) with
    | true => rw [hb] at h4; exact h4
    | false => rw [hb] at h4; exact h4
  · exact h.elim

def xRef2 : SX := fun f => bif Nat.beq f 21 then some isLineS else bif Nat.beq f 23 then some rlastS else xRef f
theorem xRef2_ok : XOK Tryz.prog xRef2 := sx_cons isLineS_ok (sx_cons rlastS_ok xRef_ok)
def rwS (b : Bool) (es : List (List D)) (s : List UInt8) (i : Nat) : VS := stN 42 [(0, .d (.slice b es)), (4, .d (.str s)), (5, .d (.int .i64 i))] []
def rwE (b : Bool) (es : List (List D)) (s : List UInt8) (v v2 : V) : VS := stN 42 [(0, .d (.slice b es)), (2, v), (3, v2), (4, .d (.str s))] []
def iRef2 : FuncId → FSpec := inlN Tryz.prog xRef2 l0 4
theorem iRef2_ok : ∀ f, FOK2 Tryz.prog f (iRef2 f) := inlN_ok xRef2_ok mixed 4
theorem rwrite_round (b : Bool) (es : List (List Go.Bv.D)) (s : List UInt8) (i : Nat) (Kn : Option Go.Bv.VS → Prop) (Ke : Go.Exit → Option Go.Bv.VS → Prop) : (bif Decidable.decide ((↑i : Int) < (↑(List.length es) : Int)) then ((0 : Int) ≤ (↑i : Int) ∧ (↑i : Int) < (↑(List.length es) : Int) ∧ List.length (List.getD es (Int.toNat (↑i : Int)) []) = (1 : Nat)) ∧ (List.brecOn.go (motive := fun (x : List Go.Bv.D) => Nat → Option Go.Bv.D) (List.getD es (Int.toNat (↑i : Int)) []) List.get?Internal._f).1 (0 : Nat) = Option.some (Go.Bv.D.str (Go.Bv.D.s (List.getD (List.getD es (Int.toNat (↑i : Int)) []) (0 : Nat) Go.Bv.D.nilp))) ∧ List.length (Go.Bv.D.s (List.getD (List.getD es (Int.toNat (↑i : Int)) []) (0 : Nat) Go.Bv.D.nilp)) ≤ (4294967280 : Nat) ∧ bif !Go.Bv.writableL (Go.Bv.D.s (List.getD (List.getD es (Int.toNat (↑i : Int)) []) (0 : Nat) Go.Bv.D.nilp)) then Ke Go.Exit.ret (Option.some (Go.Bv.VS.mk [((0 : Nat), Go.Bv.V.d (Go.Bv.D.slice b es)), ((2 : Nat), Go.Bv.V.d (Go.Bv.D.str [])), ((3 : Nat), Go.Bv.V.d (Go.Bv.D.int Go.IntKind.i64 (121 : Int))), ((4 : Nat), Go.Bv.V.d (Go.Bv.D.str s))] [] (0 : Nat) [] (42 : Nat))) else ((0 : Int) ≤ (↑i : Int) ∧ (↑i : Int) < (↑(List.length es) : Int) ∧ List.length (List.getD es (Int.toNat (↑i : Int)) []) = (1 : Nat)) ∧ (List.brecOn.go (motive := fun (x : List Go.Bv.D) => Nat → Option Go.Bv.D) (List.getD es (Int.toNat (↑i : Int)) []) List.get?Internal._f).1 (0 : Nat) = Option.some (Go.Bv.D.str (Go.Bv.D.s (List.getD (List.getD es (Int.toNat (↑i : Int)) []) (0 : Nat) Go.Bv.D.nilp))) ∧ ((0 : Int) ≤ (↑(List.length (Go.Bv.D.s (List.getD (List.getD es (Int.toNat (↑i : Int)) []) (0 : Nat) Go.Bv.D.nilp))) : Int) ∧ (↑(List.length (Go.Bv.D.s (List.getD (List.getD es (Int.toNat (↑i : Int)) []) (0 : Nat) Go.Bv.D.nilp))) : Int) < (9223372036854775807 : Int)) ∧ True ∧ List.length (Go.Bv.itoaL (↑(List.length (Go.Bv.D.s (List.getD (List.getD es (Int.toNat (↑i : Int)) []) (0 : Nat) Go.Bv.D.nilp))) : Int)) + (1 : Nat) ≤ (9223372036854775807 : Nat) ∧ ((0 : Int) ≤ (↑i : Int) ∧ (↑i : Int) < (↑(List.length es) : Int) ∧ List.length (List.getD es (Int.toNat (↑i : Int)) []) = (1 : Nat)) ∧ (List.brecOn.go (motive := fun (x : List Go.Bv.D) => Nat → Option Go.Bv.D) (List.getD es (Int.toNat (↑i : Int)) []) List.get?Internal._f).1 (0 : Nat) = Option.some (Go.Bv.D.str (Go.Bv.D.s (List.getD (List.getD es (Int.toNat (↑i : Int)) []) (0 : Nat) Go.Bv.D.nilp))) ∧ List.length (Go.Bv.itoaL (↑(List.length (Go.Bv.D.s (List.getD (List.getD es (Int.toNat (↑i : Int)) []) (0 : Nat) Go.Bv.D.nilp))) : Int) ++ [(32 : UInt8)]) + List.length (Go.Bv.D.s (List.getD (List.getD es (Int.toNat (↑i : Int)) []) (0 : Nat) Go.Bv.D.nilp)) ≤ (9223372036854775807 : Nat) ∧ List.length (Go.Bv.itoaL (↑(List.length (Go.Bv.D.s (List.getD (List.getD es (Int.toNat (↑i : Int)) []) (0 : Nat) Go.Bv.D.nilp))) : Int) ++ [(32 : UInt8)] ++ Go.Bv.D.s (List.getD (List.getD es (Int.toNat (↑i : Int)) []) (0 : Nat) Go.Bv.D.nilp)) + (1 : Nat) ≤ (9223372036854775807 : Nat) ∧ List.length s + List.length (Go.Bv.itoaL (↑(List.length (Go.Bv.D.s (List.getD (List.getD es (Int.toNat (↑i : Int)) []) (0 : Nat) Go.Bv.D.nilp))) : Int) ++ [(32 : UInt8)] ++ Go.Bv.D.s (List.getD (List.getD es (Int.toNat (↑i : Int)) []) (0 : Nat) Go.Bv.D.nilp) ++ [(10 : UInt8)]) ≤ (9223372036854775807 : Nat) ∧ Kn (Option.some (Go.Bv.VS.mk [((0 : Nat), Go.Bv.V.d (Go.Bv.D.slice b es)), ((4 : Nat), Go.Bv.V.d (Go.Bv.D.str (s ++ (Go.Bv.itoaL (↑(List.length (Go.Bv.D.s (List.getD (List.getD es (Int.toNat (↑i : Int)) []) (0 : Nat) Go.Bv.D.nilp))) : Int) ++ [(32 : UInt8)] ++ Go.Bv.D.s (List.getD (List.getD es (Int.toNat (↑i : Int)) []) (0 : Nat) Go.Bv.D.nilp) ++ [(10 : UInt8)])))), ((5 : Nat), Go.Bv.V.d (Go.Bv.D.int Go.IntKind.i64 (Go.IntKind.wrap Go.IntKind.i64 ((↑i : Int) + (1 : Int)))))] [] (0 : Nat) [] (42 : Nat))) else Ke (Go.Exit.exit (0 : Nat)) (Option.some (Go.Bv.VS.mk [((0 : Nat), Go.Bv.V.d (Go.Bv.D.slice b es)), ((2 : Nat), Go.Bv.V.junk), ((3 : Nat), Go.Bv.V.junk), ((4 : Nat), Go.Bv.V.d (Go.Bv.D.str s))] [] (0 : Nat) [] (42 : Nat)))) = (roundP Tryz.prog xRef2 (inlN Tryz.prog xRef2 l0 4) 0 (fun _ => none) (loopB Tryz.prog 10 [true, true, true, false, true, false]) [0, 4, 5] [0, 2, 3, 4] (rwS b es s i) Kn Ke) := by kernel_rfl
def rwR (p : Bool × List (List UInt8) × Nat × List UInt8) (e : Exit) (s' : VS) : Prop :=
  bif (p.2.1.drop p.2.2.1).all writableL then e = .exit 0 ∧ s' = rwE p.1 (strsD p.2.1) (p.2.2.2 ++ bodyL ((p.2.1.drop p.2.2.1).takeWhile writableL)) .junk .junk
  else e = .ret ∧ s' = rwE p.1 (strsD p.2.1) (p.2.2.2 ++ bodyL ((p.2.1.drop p.2.2.1).takeWhile writableL)) (.d (.str [])) (.d (.int .i64 121))
def rwT : LoopT := fun s W Q => ∃ (b : Bool) (xs : List (List UInt8)), canonN 0 [0, 4, 5] s = some (rwS b (strsD xs) [] 0) ∧ (xs.length ≤ 80 ∧ ∀ x, x ∈ xs → x.length ≤ 4294967280) ∧
  bif xs.all writableL then Q (.exit 0) (rwE b (strsD xs) (bodyL xs) .junk .junk) [] else Q .ret (rwE b (strsD xs) (bodyL (xs.takeWhile writableL)) (.d (.str [])) (.d (.int .i64 121))) []
theorem rwT_ok : LoopOK Tryz.prog 0 none (loopB Tryz.prog 10 [true, true, true, false, true, false]) rwT := by
  refine LoopOK.walk xRef2_ok iRef2_ok mixed [0, 4, 5] [0, 2, 3, 4] (L := fun _ => none) (fun p : Bool × List (List UInt8) × Nat × List UInt8 => rwS p.1 (strsD p.2.1) p.2.2.2 p.2.2.1) (fun p => p.2.2.1 ≤ p.2.1.length ∧ p.2.1.length ≤ 80 ∧ (∀ x, x ∈ p.2.1 → x.length ≤ 4294967280) ∧ p.2.2.2.length ≤ p.2.2.1 * 84) (fun p => p.2.1.length - p.2.2.1) rwR ?_ ?_
  · intro p hp
    obtain ⟨b, xs, i, s⟩ := p
    have hi : i ≤ xs.length := hp.1
    have hl : xs.length ≤ 80 := hp.2.1
    have hx : ∀ x, x ∈ xs → x.length ≤ 4294967280 := hp.2.2.1
    have hs : s.length ≤ i * 84 := hp.2.2.2
    clear hp
    show roundP Tryz.prog xRef2 (inlN Tryz.prog xRef2 l0 4) 0 (fun _ => none) (loopB Tryz.prog 10 [true, true, true, false, true, false]) [0, 4, 5] [0, 2, 3, 4] (rwS b (strsD xs) s i) _ _
    rw [← rwrite_round]
    simp only [Int.toNat_natCast, strsD_len]
    by_cases hlt : i < xs.length
    · have e0 : decide ((i : Int) < (xs.length : Int)) = true := by simp only [decide_eq_true_eq]; omega
      have hd : xs.drop i = xs.getD i [] :: xs.drop (i + 1) := drop_cons hlt []
      have hm : (xs.getD i []).length ≤ 4294967280 := by
        apply hx
        rw [List.getD_eq_getElem?_getD, List.getElem?_eq_getElem hlt]
        exact List.getElem_mem hlt
      rw [e0, strsD_getD xs i hlt]
      simp only [List.getD_cons_zero, D.s]
      generalize hy : xs.getD i [] = y at hd hm ⊢
      refine ⟨⟨by omega, by omega, by first | trivial | rfl⟩, by first | trivial | rfl, hm, ?_⟩
      cases hw : writableL y with
      | false =>
        refine ⟨_, rfl, ?_⟩
        simp only [rwR, hd, List.all_cons, hw, Bool.false_and, cond_false, List.takeWhile_cons, Bool.false_eq_true, if_false, bodyL, List.append_nil]
        exact ⟨trivial, rfl⟩
      | true =>
        have h60 : y.length ≤ 60 := by simp only [writableL, Bool.and_eq_true, decide_eq_true_eq] at hw; exact hw.2
        have l1 := itoaL_len (y.length : Nat)
        simp only [List.length_append, List.length_cons, List.length_nil]
        rw [wrap_in ((i : Int) + 1) (by omega) (by omega)]
        refine ⟨⟨by omega, by omega, by first | trivial | rfl⟩, by first | trivial | rfl, ⟨by omega, by omega⟩, trivial, by omega, ⟨by omega, by omega, by first | trivial | rfl⟩, by first | trivial | rfl, by omega, by omega, by omega,
          (b, xs, i + 1, s ++ (itoaL (y.length : Nat) ++ [32] ++ y ++ [10])), ?_, ⟨by simp only; omega, hl, hx, ?_⟩, by simp only; omega, fun e s' h => ?_⟩
        · simp only [rwS, Int.natCast_add, Int.cast_ofNat_Int]; rfl
        · simp only [List.length_append, List.length_cons, List.length_nil]; omega
        · simp only [rwR] at h ⊢
          simp only [hd, List.all_cons, hw, Bool.true_and, List.takeWhile_cons, if_true, bodyL]
          simp only [List.append_assoc, List.cons_append, List.nil_append] at h ⊢
          exact h
    · have e0 : decide ((i : Int) < (xs.length : Int)) = false := by simp only [decide_eq_false_iff_not]; omega
      have : xs.drop i = [] := List.drop_eq_nil_of_le (by omega)
      rw [e0]
      refine ⟨_, rfl, ?_⟩
      simp only [rwR, this, List.all_nil, List.takeWhile_nil, bodyL, List.append_nil, cond_true]; exact ⟨trivial, rfl⟩
  · intro s W Q hT
    obtain ⟨b, xs, h1, h2, h3⟩ := hT
    refine ⟨(b, xs, 0, []), h1, ⟨Nat.zero_le _, h2.1, h2.2, Nat.zero_le _⟩, fun e s' h => ⟨[], ?_⟩⟩
    simp only [rwR, List.drop_zero, List.nil_append] at h
    cases hb : xs.all writableL with
    | true => rw [hb] at h h3; rw [tw_all _ _ hb] at h; obtain ⟨rfl, rfl⟩ := h; exact h3
    | false => rw [hb] at h h3; obtain ⟨rfl, rfl⟩ := h; exact h3
def lRw : FuncId → Nat → Option LoopT := fun f p => bif Nat.beq f 10 && Nat.beq p 122 then some rwT else none
end Go.Proofs

namespace Go.Bv
variable {P : Program}

def roundQ2 (na : Nat) (keep keepE keepR : List Nat) (Kn : Option VS → Prop) (Ke : Exit → Option VS → Prop) : Exit → VS → List Nat → Prop
  | .normal, s1, _ => Kn (canonN na keep s1)
  | .ret, s1, _ => Ke .ret (canonN na keepR s1)
  | e, s1, _ => Ke e (canonN na keepE s1)
def roundP2 (P : Program) (X : SX) (inl : FuncId → FSpec) (na : Nat) (L : Nat → Option LoopT) (b : Code) (keep keepE keepR : List Nat) (s : VS) (Kn : Option VS → Prop) (Ke : Exit → Option VS → Prop) : Prop :=
  codeP P X inl na none L b 1 s [] (roundQ2 na keep keepE keepR Kn Ke)
theorem LoopOK.walk2 {X : SX} {inl : FuncId → FSpec} {na : Nat} {L : Nat → Option LoopT} {b : Code} {ι : Type} {T : LoopT} (hX : XOK P X) (hI : ∀ f, FOK2 P f (inl f)) (hm : P.follows .mixedOrders = true)
    (keep keepE keepR : List Nat) (S : ι → VS) (I : ι → Prop) (μ : ι → Nat) (R : ι → Exit → VS → Prop)
    (round : ∀ i, I i → roundP2 P X inl na L b keep keepE keepR (S i) (fun o => ∃ j, o = some (S j) ∧ I j ∧ μ j < μ i ∧ ∀ e s', R j e s' → R i e s') (fun e o => ∃ s2, o = some s2 ∧ R i e s2))
    (entry : ∀ s W Q, T s W Q → ∃ i, canonN na keep s = some (S i) ∧ I i ∧ ∀ e s', R i e s' → ∃ W', Q e s' W') : LoopOK P na none b T := by
  refine LoopOK.mk keep S I μ R (fun i hi => ?_) entry
  obtain ⟨e, s1, W1, h1, h2⟩ := codeP_ok hX hI hm b 1 (S i) [] _ (round i hi)
  cases e with
  | normal =>
    obtain ⟨j, h3, h4⟩ := h2
    exact ⟨_, s1, h1, j, h3, h4⟩
  | exit id => obtain ⟨s2, h3, h4⟩ := h2; exact ⟨_, s2, h1.canon h3, h4⟩
  | goto l => obtain ⟨s2, h3, h4⟩ := h2; exact ⟨_, s2, h1.canon h3, h4⟩
  | ret => obtain ⟨s2, h3, h4⟩ := h2; exact ⟨_, s2, h1.canon h3, h4⟩
  | panic ch => obtain ⟨s2, h3, h4⟩ := h2; exact ⟨_, s2, h1.canon h3, h4⟩
  | outgrown => obtain ⟨s2, h3, h4⟩ := h2; exact ⟨_, s2, h1.canon h3, h4⟩
end Go.Bv

namespace Go.Proofs
open Go Go.Bv
theorem rwrite_body (b : Bool) (es : List (List Go.Bv.D)) (K : Go.Bv.KC) : (bif Decidable.decide ((80 : Int) < (↑(List.length es) : Int)) then K (Go.Bv.V.tup [Go.Bv.V.d (Go.Bv.D.str []), Go.Bv.V.d (Go.Bv.D.int Go.IntKind.i64 (2 : Int))]) [] [] else Go.Bv.LoopOK Go.Proofs.Tryz.prog (0 : Nat) Option.none (Go.Bv.loopB Go.Proofs.Tryz.prog (10 : Nat) [Bool.true, Bool.true, Bool.true, Bool.false, Bool.true, Bool.false]) Go.Proofs.rwT ∧ ∃ (b_1 : Bool), ∃ (xs : List (List UInt8)), Option.some (Go.Bv.VS.mk [((0 : Nat), Go.Bv.V.d (Go.Bv.D.slice b es)), ((4 : Nat), Go.Bv.V.d (Go.Bv.D.str [])), ((5 : Nat), Go.Bv.V.d (Go.Bv.D.int Go.IntKind.i64 (0 : Int)))] [] (0 : Nat) [] (42 : Nat)) = Option.some (Go.Bv.VS.mk [((0 : Nat), Go.Bv.V.d (Go.Bv.D.slice b_1 (Go.Bv.strsD xs))), ((4 : Nat), Go.Bv.V.d (Go.Bv.D.str [])), ((5 : Nat), Go.Bv.V.d (Go.Bv.D.int Go.IntKind.i64 (0 : Int)))] [] (0 : Nat) [] (42 : Nat)) ∧ (List.length xs ≤ (80 : Nat) ∧ ∀ (x : List UInt8), x ∈ xs → List.length x ≤ (4294967280 : Nat)) ∧ bif List.all xs Go.Bv.writableL then ((0 : Int) ≤ (↑(List.length (Go.Bv.strsD xs)) : Int) ∧ (↑(List.length (Go.Bv.strsD xs)) : Int) < (9223372036854775807 : Int) ∧ List.length (Go.Bv.bodyL xs) ≤ (4294967280 : Nat)) ∧ List.length (Go.Bv.bodyL xs) + List.length (Go.Proofs.lastZ (↑(List.length (Go.Bv.strsD xs)) : Int) (Go.Bv.bodyL xs)) ≤ (9223372036854775807 : Nat) ∧ K (Go.Bv.V.tup [Go.Bv.V.d (Go.Bv.D.str (Go.Bv.bodyL xs ++ Go.Proofs.lastZ (↑(List.length (Go.Bv.strsD xs)) : Int) (Go.Bv.bodyL xs))), Go.Bv.V.d (Go.Bv.D.int Go.IntKind.i64 (0 : Int))]) [] [] else K (Go.Bv.V.tup [Go.Bv.V.d (Go.Bv.D.str []), Go.Bv.V.d (Go.Bv.D.int Go.IntKind.i64 (121 : Int))]) [] []) = (inlN Tryz.prog xRef2 lRw 4 10 [.d (.slice b es)] [] K) := by kernel_rfl
def rwriteS : FSpec := fun args H K => match args, H with
  | [.d (.slice b es)], [] => (es = strsD (strsV es) ∧ ∀ x, x ∈ strsV es → x.length ≤ 4294967280) ∧ K (.tup [.d (.str (writeL (strsV es)).1), .d (.int .i64 (writeL (strsV es)).2)]) [] []
  | _, _ => False
theorem rwriteS_ok : FOK2 Tryz.prog 10 rwriteS := by
  obtain ⟨sp, hsp⟩ : ∃ sp, sp = inlN Tryz.prog xRef2 lRw 4 10 := ⟨_, rfl⟩
  have hok : FOK2 Tryz.prog 10 sp := hsp ▸ inlN_ok (LL := lRw) xRef2_ok mixed 4 10
  refine hok.imp fun args H K h => ?_
  unfold rwriteS at h
  split at h
  · rename_i b es
    obtain ⟨⟨h0, h1⟩, h3⟩ := h
    rw [hsp]
    show inlN Tryz.prog xRef2 lRw 4 10 [.d (.slice b es)] [] K
    rw [← rwrite_body]
    generalize hxs : strsV es = xs at *
    subst h0
    simp only [strsD_len]
    cases hd : decide ((80 : Int) < (xs.length : Int)) with
    | true =>
      simp only [decide_eq_true_eq] at hd
      have : writeL xs = ([], 2) := by
        have : decide (80 < xs.length) = true := by simp only [decide_eq_true_eq]; omega
        simp only [writeL, this, cond_true]
      rw [this] at h3; exact h3
    | false =>
      simp only [decide_eq_false_iff_not] at hd
      have h80 : ¬ 80 < xs.length := by omega
      refine ⟨rwT_ok, b, xs, rfl, ⟨by omega, h1⟩, ?_⟩
      cases hb : xs.all writableL with
      | true =>
        rw [writeL_good h80 hb] at h3
        have l1 := bodyL_len xs hb
        have l2 := lastZ_len (xs.length : Nat) (bodyL xs)
        exact ⟨⟨by omega, by omega, by omega⟩, by omega, h3⟩
      | false => rw [writeL_bad h80 hb] at h3; exact h3
  · exact h.elim

def retS (a : Int) : VS := stN 134 [(2, .d (.slice true [])), (3, .d (.int .i64 a)), (4, .d (.int .i64 122))] []
def riS0 (t : List UInt8) (i n k : Nat)  : VS := stN 134 [(0, .d (.str t)), (5, .d (.int .i64 i)), (6, .d (.slice true [])), (7, .d (.int .i64 n)), (9, .d (.int .i64 k))] []
def riE0 (t : List UInt8) (i n : Nat)  : VS := stN 134 [(0, .d (.str t)), (5, .d (.int .i64 i)), (6, .d (.slice true [])), (7, .d (.int .i64 n))] []
theorem ri_round0 (t : List UInt8) (i : Nat) (n : Nat) (k : Nat) (Kn : Option Go.Bv.VS → Prop) (Ke : Go.Exit → Option Go.Bv.VS → Prop) : (bif Decidable.decide ((↑k : Int) < (↑n : Int)) then bif Decidable.decide ((↑(List.length t) : Int) ≤ Go.IntKind.wrap Go.IntKind.i64 ((↑i : Int) + (↑k : Int))) then Ke Go.Exit.ret (Option.some (Go.Bv.VS.mk [((2 : Nat), Go.Bv.V.d (Go.Bv.D.slice Bool.true [])), ((3 : Nat), Go.Bv.V.d (Go.Bv.D.int Go.IntKind.i64 (Go.IntKind.wrap Go.IntKind.i64 ((↑i : Int) + (↑k : Int))))), ((4 : Nat), Go.Bv.V.d (Go.Bv.D.int Go.IntKind.i64 (122 : Int)))] [] (0 : Nat) [] (134 : Nat))) else ((0 : Int) ≤ Go.IntKind.wrap Go.IntKind.i64 ((↑i : Int) + (↑k : Int)) ∧ Go.IntKind.wrap Go.IntKind.i64 ((↑i : Int) + (↑k : Int)) < (↑(List.length t) : Int)) ∧ bif Decidable.decide ((32 : Int) ≤ (↑(UInt8.toNat (List.getD t (Int.toNat (Go.IntKind.wrap Go.IntKind.i64 ((↑i : Int) + (↑k : Int)))) (0 : UInt8))) : Int)) then bif !Decidable.decide ((↑(UInt8.toNat (List.getD t (Int.toNat (Go.IntKind.wrap Go.IntKind.i64 ((↑i : Int) + (↑k : Int)))) (0 : UInt8))) : Int) ≤ (126 : Int)) then Ke Go.Exit.ret (Option.some (Go.Bv.VS.mk [((2 : Nat), Go.Bv.V.d (Go.Bv.D.slice Bool.true [])), ((3 : Nat), Go.Bv.V.d (Go.Bv.D.int Go.IntKind.i64 (Go.IntKind.wrap Go.IntKind.i64 ((↑i : Int) + (↑k : Int))))), ((4 : Nat), Go.Bv.V.d (Go.Bv.D.int Go.IntKind.i64 (122 : Int)))] [] (0 : Nat) [] (134 : Nat))) else Kn (Option.some (Go.Bv.VS.mk [((0 : Nat), Go.Bv.V.d (Go.Bv.D.str t)), ((5 : Nat), Go.Bv.V.d (Go.Bv.D.int Go.IntKind.i64 (↑i : Int))), ((6 : Nat), Go.Bv.V.d (Go.Bv.D.slice Bool.true [])), ((7 : Nat), Go.Bv.V.d (Go.Bv.D.int Go.IntKind.i64 (↑n : Int))), ((9 : Nat), Go.Bv.V.d (Go.Bv.D.int Go.IntKind.i64 (Go.IntKind.wrap Go.IntKind.i64 ((↑k : Int) + (1 : Int)))))] [] (0 : Nat) [] (134 : Nat))) else Ke Go.Exit.ret (Option.some (Go.Bv.VS.mk [((2 : Nat), Go.Bv.V.d (Go.Bv.D.slice Bool.true [])), ((3 : Nat), Go.Bv.V.d (Go.Bv.D.int Go.IntKind.i64 (Go.IntKind.wrap Go.IntKind.i64 ((↑i : Int) + (↑k : Int))))), ((4 : Nat), Go.Bv.V.d (Go.Bv.D.int Go.IntKind.i64 (122 : Int)))] [] (0 : Nat) [] (134 : Nat))) else Ke (Go.Exit.exit (2 : Nat)) (Option.some (Go.Bv.VS.mk [((0 : Nat), Go.Bv.V.d (Go.Bv.D.str t)), ((5 : Nat), Go.Bv.V.d (Go.Bv.D.int Go.IntKind.i64 (↑i : Int))), ((6 : Nat), Go.Bv.V.d (Go.Bv.D.slice Bool.true [])), ((7 : Nat), Go.Bv.V.d (Go.Bv.D.int Go.IntKind.i64 (↑n : Int)))] [] (0 : Nat) [] (134 : Nat)))) = (roundP2 Tryz.prog xLib iLib 0 (fun _ => none) (loopB Tryz.prog 11 [true, true, true, false, false, false, true, false, true, true, true, false, true, false]) [0, 5, 6, 7, 9] [0, 5, 6, 7] [2, 3, 4] (riS0 t i n k) Kn Ke) := by kernel_rfl
def riR0 (p : List UInt8 × Nat × Nat × Nat × Unit) (e : Exit) (s' : VS) : Prop :=
  bif (prL (p.1.drop (p.2.1 + p.2.2.2.1)) (p.2.2.1 - p.2.2.2.1)).2 then e = .exit 2 ∧ s' = riE0 p.1 p.2.1 p.2.2.1  else e = .ret ∧ s' = retS ((p.2.1 + p.2.2.2.1 + (prL (p.1.drop (p.2.1 + p.2.2.2.1)) (p.2.2.1 - p.2.2.2.1)).1 : Nat) : Int)
def riT0 : LoopT := fun s W Q => ∃ (t : List UInt8) (i n : Nat) , canonN 0 [0, 5, 6, 7, 9] s = some (riS0 t i n 0 ) ∧ (i ≤ t.length ∧ t.length ≤ 4294967280 ∧ n ≤ 60) ∧
  bif (prL (t.drop i) n).2 then Q (.exit 2) (riE0 t i n ) [] else Q .ret (retS ((i + (prL (t.drop i) n).1 : Nat) : Int)) []
theorem riT0_ok : LoopOK Tryz.prog 0 none (loopB Tryz.prog 11 [true, true, true, false, false, false, true, false, true, true, true, false, true, false]) riT0 := by
  refine LoopOK.walk2 xLib_ok iLib_ok mixed [0, 5, 6, 7, 9] [0, 5, 6, 7] [2, 3, 4] (L := fun _ => none) (fun p : List UInt8 × Nat × Nat × Nat × Unit => riS0 p.1 p.2.1 p.2.2.1 p.2.2.2.1 ) (fun p => p.2.1 + p.2.2.2.1 ≤ p.1.length ∧ p.1.length ≤ 4294967280 ∧ p.2.2.2.1 ≤ p.2.2.1 ∧ p.2.2.1 ≤ 60) (fun p => p.2.2.1 - p.2.2.2.1) riR0 ?_ ?_
  · intro p hp
    obtain ⟨t, i, n, k, ⟨⟩⟩ := p
    have hi : i + k ≤ t.length := hp.1
    have ht : t.length ≤ 4294967280 := hp.2.1
    have hk : k ≤ n := hp.2.2.1
    have hn : n ≤ 60 := hp.2.2.2
    clear hp
    show roundP2 Tryz.prog xLib iLib 0 (fun _ => none) (loopB Tryz.prog 11 [true, true, true, false, false, false, true, false, true, true, true, false, true, false]) [0, 5, 6, 7, 9] [0, 5, 6, 7] [2, 3, 4] (riS0 t i n k ) _ _
    rw [← ri_round0]
    have w0 : IntKind.i64.wrap ((i : Int) + (k : Int)) = ((i + k : Nat) : Int) := by rw [wrap_in _ (by omega) (by omega)]; omega
    rw [w0]
    simp only [Int.toNat_natCast]
    by_cases hlt : k < n
    · have e0 : decide ((k : Int) < (n : Int)) = true := by simp only [decide_eq_true_eq]; omega
      rw [e0]
      obtain ⟨m, hm⟩ : ∃ m, n - k = m + 1 := ⟨n - k - 1, by omega⟩
      have hbad : (t.drop (i + k) = [] ∨ (∃ r, t.drop (i + k) = t.getD (i + k) 0 :: r ∧ prB (t.getD (i + k) 0) = false)) → riR0 (t, i, n, k, ()) .ret (retS ((i + k : Nat) : Int)) := by
        intro h
        have : prL (t.drop (i + k)) (n - k) = (0, false) := by
          rw [hm]
          rcases h with h | ⟨r, h, h2⟩
          · rw [h]; rfl
          · rw [h]; simp only [prL, h2, cond_false]
        simp only [riR0, this, cond_false, Nat.add_zero]; exact ⟨trivial, trivial⟩
      by_cases hat : t.length ≤ i + k
      · have e1 : decide ((t.length : Int) ≤ ((i + k : Nat) : Int)) = true := by simp only [decide_eq_true_eq]; omega
        rw [e1]
        exact ⟨_, rfl, hbad (.inl (List.drop_eq_nil_of_le hat))⟩
      · have e1 : decide ((t.length : Int) ≤ ((i + k : Nat) : Int)) = false := by simp only [decide_eq_false_iff_not]; omega
        have hd2 : t.drop (i + k) = t.getD (i + k) 0 :: t.drop (i + k + 1) := drop_cons (by omega) 0
        rw [e1]
        refine ⟨⟨by omega, by omega⟩, ?_⟩
        cases h32 : decide ((32 : Int) ≤ ((t.getD (i + k) 0).toNat : Int)) with
        | false =>
          simp only [decide_eq_false_iff_not] at h32
          have hp : prB (t.getD (i + k) 0) = false := by simp only [prB, decide_eq_false_iff_not]; omega
          exact ⟨_, rfl, hbad (.inr ⟨_, hd2, hp⟩)⟩
        | true =>
          cases h126 : decide (((t.getD (i + k) 0).toNat : Int) ≤ 126) with
          | false =>
            simp only [decide_eq_false_iff_not] at h126
            have hp : prB (t.getD (i + k) 0) = false := by simp only [prB, decide_eq_false_iff_not]; omega
            exact ⟨_, rfl, hbad (.inr ⟨_, hd2, hp⟩)⟩
          | true =>
            simp only [decide_eq_true_eq] at h32 h126
            have hp : prB (t.getD (i + k) 0) = true := by simp only [prB, decide_eq_true_eq]; omega
            rw [wrap_in ((k : Int) + 1) (by omega) (by omega)]
            refine ⟨(t, i, n, k + 1, ()), ?_, ⟨by simp only; omega, ht, by simp only; omega, hn⟩, by simp only; omega, fun e s' h => ?_⟩
            · simp only [riS0, Int.natCast_add, Int.cast_ofNat_Int]; rfl
            · simp only [riR0] at h ⊢
              have hk2 : n - (k + 1) = m := by omega
              rw [hk2] at h
              rw [hm]
              rw [show i + (k + 1) = i + k + 1 by omega] at h
              simp only [hd2, prL, hp, cond_true]
              rw [show i + k + ((prL (t.drop (i + k + 1)) m).1 + 1) = i + k + 1 + (prL (t.drop (i + k + 1)) m).1 by omega]
              exact h
    · have e0 : decide ((k : Int) < (n : Int)) = false := by simp only [decide_eq_false_iff_not]; omega
      rw [e0]
      have hk2 : n - k = 0 := by omega
      refine ⟨_, rfl, ?_⟩
      simp only [riR0, hk2, prL, cond_true]; exact ⟨trivial, rfl⟩
  · intro s W Q hT
    obtain ⟨t, i, n, h1, h2, h3⟩ := hT
    refine ⟨(t, i, n, 0, ()), h1, ⟨h2.1, h2.2.1, Nat.zero_le _, h2.2.2⟩, fun e s' h => ⟨[], ?_⟩⟩
    simp only [riR0, Nat.sub_zero, Nat.add_zero] at h
    cases hb : (prL (t.drop i) n).2 with
    | true => rw [hb] at h h3; obtain ⟨rfl, rfl⟩ := h; exact h3
    | false => rw [hb] at h h3; obtain ⟨rfl, rfl⟩ := h; exact h3
def riS1 (t : List UInt8) (i n k : Nat) (xs : List (List UInt8)) : VS := stN 134 [(0, .d (.str t)), (5, .d (.int .i64 i)), (6, .sref 0 xs.length), (7, .d (.int .i64 n)), (9, .d (.int .i64 k))] [.row 1 0 false (strsD xs)]
def riE1 (t : List UInt8) (i n : Nat) (xs : List (List UInt8)) : VS := stN 134 [(0, .d (.str t)), (5, .d (.int .i64 i)), (6, .sref 0 xs.length), (7, .d (.int .i64 n))] [.row 1 0 false (strsD xs)]
theorem ri_round1 (t : List UInt8) (i : Nat) (n : Nat) (k : Nat) (xs : List (List UInt8)) (Kn : Option Go.Bv.VS → Prop) (Ke : Go.Exit → Option Go.Bv.VS → Prop) : (bif Decidable.decide ((↑k : Int) < (↑n : Int)) then bif Decidable.decide ((↑(List.length t) : Int) ≤ Go.IntKind.wrap Go.IntKind.i64 ((↑i : Int) + (↑k : Int))) then Ke Go.Exit.ret (Option.some (Go.Bv.VS.mk [((2 : Nat), Go.Bv.V.d (Go.Bv.D.slice Bool.true [])), ((3 : Nat), Go.Bv.V.d (Go.Bv.D.int Go.IntKind.i64 (Go.IntKind.wrap Go.IntKind.i64 ((↑i : Int) + (↑k : Int))))), ((4 : Nat), Go.Bv.V.d (Go.Bv.D.int Go.IntKind.i64 (122 : Int)))] [] (0 : Nat) [] (134 : Nat))) else ((0 : Int) ≤ Go.IntKind.wrap Go.IntKind.i64 ((↑i : Int) + (↑k : Int)) ∧ Go.IntKind.wrap Go.IntKind.i64 ((↑i : Int) + (↑k : Int)) < (↑(List.length t) : Int)) ∧ bif Decidable.decide ((32 : Int) ≤ (↑(UInt8.toNat (List.getD t (Int.toNat (Go.IntKind.wrap Go.IntKind.i64 ((↑i : Int) + (↑k : Int)))) (0 : UInt8))) : Int)) then bif !Decidable.decide ((↑(UInt8.toNat (List.getD t (Int.toNat (Go.IntKind.wrap Go.IntKind.i64 ((↑i : Int) + (↑k : Int)))) (0 : UInt8))) : Int) ≤ (126 : Int)) then Ke Go.Exit.ret (Option.some (Go.Bv.VS.mk [((2 : Nat), Go.Bv.V.d (Go.Bv.D.slice Bool.true [])), ((3 : Nat), Go.Bv.V.d (Go.Bv.D.int Go.IntKind.i64 (Go.IntKind.wrap Go.IntKind.i64 ((↑i : Int) + (↑k : Int))))), ((4 : Nat), Go.Bv.V.d (Go.Bv.D.int Go.IntKind.i64 (122 : Int)))] [] (0 : Nat) [] (134 : Nat))) else Kn (Option.some (Go.Bv.VS.mk [((0 : Nat), Go.Bv.V.d (Go.Bv.D.str t)), ((5 : Nat), Go.Bv.V.d (Go.Bv.D.int Go.IntKind.i64 (↑i : Int))), ((6 : Nat), Go.Bv.V.sref (0 : Nat) (List.length xs)), ((7 : Nat), Go.Bv.V.d (Go.Bv.D.int Go.IntKind.i64 (↑n : Int))), ((9 : Nat), Go.Bv.V.d (Go.Bv.D.int Go.IntKind.i64 (Go.IntKind.wrap Go.IntKind.i64 ((↑k : Int) + (1 : Int)))))] [((0 : Nat), Go.Bv.Blk.row (1 : Nat) (0 : Nat) Bool.false (Go.Bv.strsD xs))] (1 : Nat) [] (134 : Nat))) else Ke Go.Exit.ret (Option.some (Go.Bv.VS.mk [((2 : Nat), Go.Bv.V.d (Go.Bv.D.slice Bool.true [])), ((3 : Nat), Go.Bv.V.d (Go.Bv.D.int Go.IntKind.i64 (Go.IntKind.wrap Go.IntKind.i64 ((↑i : Int) + (↑k : Int))))), ((4 : Nat), Go.Bv.V.d (Go.Bv.D.int Go.IntKind.i64 (122 : Int)))] [] (0 : Nat) [] (134 : Nat))) else Ke (Go.Exit.exit (2 : Nat)) (Option.some (Go.Bv.VS.mk [((0 : Nat), Go.Bv.V.d (Go.Bv.D.str t)), ((5 : Nat), Go.Bv.V.d (Go.Bv.D.int Go.IntKind.i64 (↑i : Int))), ((6 : Nat), Go.Bv.V.sref (0 : Nat) (List.length xs)), ((7 : Nat), Go.Bv.V.d (Go.Bv.D.int Go.IntKind.i64 (↑n : Int)))] [((0 : Nat), Go.Bv.Blk.row (1 : Nat) (0 : Nat) Bool.false (Go.Bv.strsD xs))] (1 : Nat) [] (134 : Nat)))) = (roundP2 Tryz.prog xLib iLib 0 (fun _ => none) (loopB Tryz.prog 11 [true, true, true, false, false, false, true, false, true, true, true, false, true, false]) [0, 5, 6, 7, 9] [0, 5, 6, 7] [2, 3, 4] (riS1 t i n k xs) Kn Ke) := by kernel_rfl
def riR1 (p : List UInt8 × Nat × Nat × Nat × List (List UInt8)) (e : Exit) (s' : VS) : Prop :=
  bif (prL (p.1.drop (p.2.1 + p.2.2.2.1)) (p.2.2.1 - p.2.2.2.1)).2 then e = .exit 2 ∧ s' = riE1 p.1 p.2.1 p.2.2.1 p.2.2.2.2 else e = .ret ∧ s' = retS ((p.2.1 + p.2.2.2.1 + (prL (p.1.drop (p.2.1 + p.2.2.2.1)) (p.2.2.1 - p.2.2.2.1)).1 : Nat) : Int)
def riT1 : LoopT := fun s W Q => ∃ (t : List UInt8) (i n : Nat) (xs : List (List UInt8)), canonN 0 [0, 5, 6, 7, 9] s = some (riS1 t i n 0 xs) ∧ (i ≤ t.length ∧ t.length ≤ 4294967280 ∧ n ≤ 60) ∧
  bif (prL (t.drop i) n).2 then Q (.exit 2) (riE1 t i n xs) [] else Q .ret (retS ((i + (prL (t.drop i) n).1 : Nat) : Int)) []
theorem riT1_ok : LoopOK Tryz.prog 0 none (loopB Tryz.prog 11 [true, true, true, false, false, false, true, false, true, true, true, false, true, false]) riT1 := by
  refine LoopOK.walk2 xLib_ok iLib_ok mixed [0, 5, 6, 7, 9] [0, 5, 6, 7] [2, 3, 4] (L := fun _ => none) (fun p : List UInt8 × Nat × Nat × Nat × List (List UInt8) => riS1 p.1 p.2.1 p.2.2.1 p.2.2.2.1 p.2.2.2.2) (fun p => p.2.1 + p.2.2.2.1 ≤ p.1.length ∧ p.1.length ≤ 4294967280 ∧ p.2.2.2.1 ≤ p.2.2.1 ∧ p.2.2.1 ≤ 60) (fun p => p.2.2.1 - p.2.2.2.1) riR1 ?_ ?_
  · intro p hp
    obtain ⟨t, i, n, k, xs⟩ := p
    have hi : i + k ≤ t.length := hp.1
    have ht : t.length ≤ 4294967280 := hp.2.1
    have hk : k ≤ n := hp.2.2.1
    have hn : n ≤ 60 := hp.2.2.2
    clear hp
    show roundP2 Tryz.prog xLib iLib 0 (fun _ => none) (loopB Tryz.prog 11 [true, true, true, false, false, false, true, false, true, true, true, false, true, false]) [0, 5, 6, 7, 9] [0, 5, 6, 7] [2, 3, 4] (riS1 t i n k xs) _ _
    rw [← ri_round1]
    have w0 : IntKind.i64.wrap ((i : Int) + (k : Int)) = ((i + k : Nat) : Int) := by rw [wrap_in _ (by omega) (by omega)]; omega
    rw [w0]
    simp only [Int.toNat_natCast]
    by_cases hlt : k < n
    · have e0 : decide ((k : Int) < (n : Int)) = true := by simp only [decide_eq_true_eq]; omega
      rw [e0]
      obtain ⟨m, hm⟩ : ∃ m, n - k = m + 1 := ⟨n - k - 1, by omega⟩
      have hbad : (t.drop (i + k) = [] ∨ (∃ r, t.drop (i + k) = t.getD (i + k) 0 :: r ∧ prB (t.getD (i + k) 0) = false)) → riR1 (t, i, n, k, xs) .ret (retS ((i + k : Nat) : Int)) := by
        intro h
        have : prL (t.drop (i + k)) (n - k) = (0, false) := by
          rw [hm]
          rcases h with h | ⟨r, h, h2⟩
          · rw [h]; rfl
          · rw [h]; simp only [prL, h2, cond_false]
        simp only [riR1, this, cond_false, Nat.add_zero]; exact ⟨trivial, trivial⟩
      by_cases hat : t.length ≤ i + k
      · have e1 : decide ((t.length : Int) ≤ ((i + k : Nat) : Int)) = true := by simp only [decide_eq_true_eq]; omega
        rw [e1]
        exact ⟨_, rfl, hbad (.inl (List.drop_eq_nil_of_le hat))⟩
      · have e1 : decide ((t.length : Int) ≤ ((i + k : Nat) : Int)) = false := by simp only [decide_eq_false_iff_not]; omega
        have hd2 : t.drop (i + k) = t.getD (i + k) 0 :: t.drop (i + k + 1) := drop_cons (by omega) 0
        rw [e1]
        refine ⟨⟨by omega, by omega⟩, ?_⟩
        cases h32 : decide ((32 : Int) ≤ ((t.getD (i + k) 0).toNat : Int)) with
        | false =>
          simp only [decide_eq_false_iff_not] at h32
          have hp : prB (t.getD (i + k) 0) = false := by simp only [prB, decide_eq_false_iff_not]; omega
          exact ⟨_, rfl, hbad (.inr ⟨_, hd2, hp⟩)⟩
        | true =>
          cases h126 : decide (((t.getD (i + k) 0).toNat : Int) ≤ 126) with
          | false =>
            simp only [decide_eq_false_iff_not] at h126
            have hp : prB (t.getD (i + k) 0) = false := by simp only [prB, decide_eq_false_iff_not]; omega
            exact ⟨_, rfl, hbad (.inr ⟨_, hd2, hp⟩)⟩
          | true =>
            simp only [decide_eq_true_eq] at h32 h126
            have hp : prB (t.getD (i + k) 0) = true := by simp only [prB, decide_eq_true_eq]; omega
            rw [wrap_in ((k : Int) + 1) (by omega) (by omega)]
            refine ⟨(t, i, n, k + 1, xs), ?_, ⟨by simp only; omega, ht, by simp only; omega, hn⟩, by simp only; omega, fun e s' h => ?_⟩
            · simp only [riS1, Int.natCast_add, Int.cast_ofNat_Int]; rfl
            · simp only [riR1] at h ⊢
              have hk2 : n - (k + 1) = m := by omega
              rw [hk2] at h
              rw [hm]
              rw [show i + (k + 1) = i + k + 1 by omega] at h
              simp only [hd2, prL, hp, cond_true]
              rw [show i + k + ((prL (t.drop (i + k + 1)) m).1 + 1) = i + k + 1 + (prL (t.drop (i + k + 1)) m).1 by omega]
              exact h
    · have e0 : decide ((k : Int) < (n : Int)) = false := by simp only [decide_eq_false_iff_not]; omega
      rw [e0]
      have hk2 : n - k = 0 := by omega
      refine ⟨_, rfl, ?_⟩
      simp only [riR1, hk2, prL, cond_true]; exact ⟨trivial, rfl⟩
  · intro s W Q hT
    obtain ⟨t, i, n, xs, h1, h2, h3⟩ := hT
    refine ⟨(t, i, n, 0, xs), h1, ⟨h2.1, h2.2.1, Nat.zero_le _, h2.2.2⟩, fun e s' h => ⟨[], ?_⟩⟩
    simp only [riR1, Nat.sub_zero, Nat.add_zero] at h
    cases hb : (prL (t.drop i) n).2 with
    | true => rw [hb] at h h3; obtain ⟨rfl, rfl⟩ := h; exact h3
    | false => rw [hb] at h h3; obtain ⟨rfl, rfl⟩ := h; exact h3
def xRef3 : SX := fun f => bif Nat.beq f 24 then some lengthS else xRef2 f
theorem xRef3_ok : XOK Tryz.prog xRef3 := sx_cons lengthS_ok xRef2_ok
end Go.Proofs
