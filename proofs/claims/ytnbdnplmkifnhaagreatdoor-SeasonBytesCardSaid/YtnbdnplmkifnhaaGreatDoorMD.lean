/- A part of the proof: an abstract heap, a verified walk over the program, and plain laws over lists. Conditions: none beyond the statement. -/
import Derived.Test.YtnbdnplmkifnhaaGreatDoorMC
import Derived.Lib.ItoaNum
import Derived.Lib.Split
import Derived.Lib.Join
import Derived.Lib.Strings
import Derived.Lib.Atoi
import Derived.Below
import Derived.Shelf.Strings.OnBuilder
import Derived.Shelf.Strings.BuilderF
import Derived.Shelf.Strconv.Atoi
import Derived.Shelf.LaysM
import Derived.Shelf.Strconv.Itoa3
import Derived.Shelf.Strings.Prefix
import Derived.Shelf.Strings.Split
import Derived.Ground.Names2Prog
import Derived.Test.YtnbdnplmkifnhaaGreatDoorProg
import Derived.Sort.Grow
import Derived.KernelRfl
import Derived.Lib.FrozenHead
import Derived.WalkKit
import Derived.BigCall
set_option linter.unusedVariables false
set_option linter.unusedSimpArgs false
namespace Go.Bv

theorem blt_false {a b : Nat} (h : Nat.blt a b = false) : ¬ a < b := fun e => by rw [← Nat.blt_eq] at e; rw [e] at h; cases h
theorem digs_eq : ∀ (f n : Nat) (acc : List UInt8), 0 < f → n < 10 ^ f → digs f n acc = Lib.decDigits n ++ acc
  | 0, n, acc, h0, h => by omega
  | f + 1, n, acc, h0, h => by
    simp only [digs]
    rw [Lib.decDigits]
    cases hb : Nat.blt n 10 with
    | true =>
      have : n < 10 := by simpa [Nat.blt_eq] using hb
      simp [this]
    | false =>
      have hn : ¬ n < 10 := blt_false hb
      have hf : 0 < f := by
        cases f with
        | zero => simp at h; omega
        | succ f => omega
      simp only [cond_false, dif_neg hn]
      rw [digs_eq f (n / 10) _ hf (by rw [Nat.pow_succ] at h; omega)]
      simp
theorem itoaL_eq (n : Int) (h0 : -9223372036854775808 ≤ n) (h1 : n ≤ 9223372036854775807) : itoaL n = Lib.itoa n := by
  unfold itoaL Lib.itoa
  cases n with
  | ofNat m =>
    have hm : m < 10 ^ 20 := by have : (m : Int) ≤ 9223372036854775807 := h1; omega
    have hn : ¬ (Int.ofNat m < 0) := fun e => by have : (0 : Int) ≤ Int.ofNat m := Int.natCast_nonneg m; omega
    rw [if_neg hn]
    show digs 20 m [] = _
    rw [digs_eq 20 m [] (by omega) hm]; simp
  | negSucc m =>
    have hm : m + 1 < 10 ^ 20 := by omega
    have hn : Int.negSucc m < 0 := by omega
    rw [if_pos hn]
    show 45 :: digs 20 (m + 1) [] = _
    rw [digs_eq 20 (m + 1) [] (by omega) hm]; simp [Int.natAbs]

theorem nbeq_u8 {a b : UInt8} : Nat.beq a.toNat b.toNat = (a == b) := by
  cases h : Nat.beq a.toNat b.toNat with
  | true => have := Nat.eq_of_beq_eq_true h; rw [UInt8.toNat_inj] at this; simp [this]
  | false =>
    have : a ≠ b := fun e => by subst e; simp at h
    simp [this]

theorem index_one_nil (c : UInt8) : Lib.index [] [c] = -1 := by simp [Lib.index]
theorem index_one_hit (c : UInt8) (r : List UInt8) : Lib.index (c :: r) [c] = 0 := by simp [Lib.index]
theorem index_one_miss {c x : UInt8} (h : x ≠ c) (r : List UInt8) : Lib.index (x :: r) [c] = if Lib.index r [c] == -1 then -1 else Lib.index r [c] + 1 := by
  rw [Lib.index, if_neg (by simp [List.isPrefixOf]; exact fun e => h e.symm)]

theorem splitL_go (c : UInt8) : ∀ (s cur : List UInt8), splitL c s cur = if Lib.index s [c] == -1 then [cur.reverse ++ s] else (cur.reverse ++ s.take (Lib.index s [c]).toNat) :: splitL c (s.drop ((Lib.index s [c]).toNat + 1)) []
  | [], cur => by simp [splitL, index_one_nil]
  | x :: r, cur => by
    simp only [splitL, nbeq_u8]
    by_cases h : x = c
    · subst h
      rw [index_one_hit]
      simp
    · rw [index_one_miss h]
      simp only [beq_eq_false_iff_ne.2 h, cond_false]
      rw [splitL_go c r (x :: cur)]
      have hge := Lib.index_ge r [c]
      by_cases hi : Lib.index r [c] = -1
      · simp [hi]
      · have h1 : (Lib.index r [c] == -1) = false := beq_eq_false_iff_ne.2 hi
        have h2 : ¬ Lib.index r [c] + 1 = -1 := by omega
        have h3 : (Lib.index r [c] + 1 == -1) = false := beq_eq_false_iff_ne.2 h2
        simp only [h1, Bool.false_eq_true, if_false, h3]
        have h4 : (Lib.index r [c] + 1).toNat = (Lib.index r [c]).toNat + 1 := by omega
        rw [h4]
        simp
theorem splitL_eq (c : UInt8) : ∀ (n : Nat) (s : List UInt8), s.length < n → splitL c s [] = Lib.split s [c]
  | 0, s, h => by omega
  | n + 1, s, h => by
    rw [splitL_go, Lib.split]
    have hge := Lib.index_ge s [c]
    by_cases hi : Lib.index s [c] = -1
    · rw [Lib.count_miss hi]
      simp [hi, Lib.splitK]
    · obtain ⟨i, hi'⟩ : ∃ i : Nat, Lib.index s [c] = i := ⟨(Lib.index s [c]).toNat, by omega⟩
      rw [Lib.count_hit (by simp) hi']
      have h1 : (Lib.index s [c] == -1) = false := beq_eq_false_iff_ne.2 hi
      have hs : s ≠ [] := fun e => by subst e; rw [index_one_nil] at hi; exact hi rfl
      have hlen : (s.drop (i + 1)).length < n := by
        have : 0 < s.length := List.length_pos_iff.2 hs
        simp; omega
      rw [Nat.add_comm 1, Lib.splitK]
      simp only [h1, Bool.false_eq_true, if_false]
      rw [hi']
      simp only [Int.toNat_natCast, List.reverse_nil, List.nil_append, Nat.add_zero, List.length_singleton]
      rw [splitL_eq c n _ hlen, Lib.split]
theorem splitL_len (c : UInt8) (s : List UInt8) : (splitL c s []).length = Lib.count s [c] + 1 := by
  suffices h : ∀ (n : Nat) (s : List UInt8), s.length < n → (splitL c s []).length = Lib.count s [c] + 1 from h _ s (Nat.lt_succ_self _)
  intro n
  induction n with
  | zero => intro s h; omega
  | succ n ih =>
    intro s h
    rw [splitL_go]
    have hge := Lib.index_ge s [c]
    by_cases hi : Lib.index s [c] = -1
    · rw [Lib.count_miss hi]; simp [hi]
    · obtain ⟨i, hi'⟩ : ∃ i : Nat, Lib.index s [c] = i := ⟨(Lib.index s [c]).toNat, by omega⟩
      rw [Lib.count_hit (by simp) hi']
      have h1 : (Lib.index s [c] == -1) = false := beq_eq_false_iff_ne.2 hi
      have hs : s ≠ [] := fun e => by subst e; rw [index_one_nil] at hi; exact hi rfl
      have hlen : (s.drop (i + 1)).length < n := by
        have : 0 < s.length := List.length_pos_iff.2 hs
        simp; omega
      simp only [h1, Bool.false_eq_true, if_false]
      rw [hi', List.length_cons, Int.toNat_natCast, ih _ hlen]
      simp; omega

theorem joinL_eq (sep : List UInt8) : ∀ xs : List (List UInt8), joinL sep xs = Lib.join xs sep
  | [] => by simp [joinL, Lib.join, List.intercalate]
  | [a] => by simp [joinL, Lib.join, List.intercalate]
  | a :: b :: r => by
    have := joinL_eq sep (b :: r)
    simp only [joinL]
    rw [this]
    simp [Lib.join, List.intercalate, List.intersperse]

theorem trimL_one (c : UInt8) (s : List UInt8) : trimL [c] s = Lib.trimPrefix s [c] := by
  cases s with
  | nil => simp [trimL, Lib.trimPrefix, Lib.hasPrefix, List.isPrefixOf]
  | cons b r =>
    simp only [trimL, nbeq_u8, Lib.trimPrefix, Lib.hasPrefix, List.isPrefixOf, Bool.and_true]
    cases h : (c == b) <;> simp

theorem atoiGo_eq : ∀ (l : List UInt8) (acc : Nat), atoiL.go acc l = Lib.decFrom acc l
  | [], acc => rfl
  | b :: r, acc => by
    simp only [atoiL.go, Lib.decFrom, Lib.digitVal]
    by_cases h : 48 ≤ b.toNat ∧ b.toNat ≤ 57
    · rw [if_pos h]
      have : (Nat.ble 48 b.toNat && Nat.ble b.toNat 57) = true := by simp [Nat.ble_eq, h]
      rw [this]
      exact atoiGo_eq r _
    · rw [if_neg h]
      have : (Nat.ble 48 b.toNat && Nat.ble b.toNat 57) = false := by
        rw [Bool.and_eq_false_iff]
        rcases Classical.not_and_iff_not_or_not.1 h with h | h
        · left; rw [← Bool.not_eq_true, Nat.ble_eq]; exact h
        · right; rw [← Bool.not_eq_true, Nat.ble_eq]; exact h
      rw [this]; rfl
theorem atoiDec_eq (l : List UInt8) : atoiL.dec l = Lib.decNat l := by
  cases l with
  | nil => rfl
  | cons b r => simp only [atoiL.dec, Lib.decNat, List.isEmpty_cons, Bool.false_eq_true, if_false]; exact atoiGo_eq _ _
theorem atoiL_lib {l : List UInt8} {n : Int} (h : atoiL l = some n) : Lib.atoi l = some n := by
  cases l with
  | nil => simp [atoiL] at h
  | cons b r =>
    simp only [atoiL] at h
    have e45 : Nat.beq b.toNat 45 = (b == 45) := nbeq_u8 (b := 45)
    rw [e45] at h
    cases hb : (b == 45) with
    | true =>
      rw [hb] at h
      simp only [cond_true, atoiDec_eq] at h
      simp only [Lib.atoi, hb, if_true]; exact h
    | false =>
      rw [hb] at h
      simp only [cond_false, atoiDec_eq] at h
      have h43 : (b == 43) = false := by
        cases hc : (b == 43) with
        | false => rfl
        | true =>
          have hb43 : b = 43 := by simpa using hc
          subst hb43
          simp [Lib.decNat, Lib.decFrom, Lib.digitVal] at h
      simp only [Lib.atoi, hb, h43, Bool.false_eq_true, if_false]; exact h
end Go.Bv

namespace Go.Bv
variable {P : Program}

theorem RelH.below {g : Gh} {H : List (Nat × Blk)} {w w' : World} (h : RelH g H w) (hb : Go.RowKit.Below w.heap.size w w') : RelH g H w' := {
  wg := h.wg.of_lt (fun k hk => hb.block k hk)
  mem := fun b o c hm => by
    have := h.mem b o c hm
    rw [cell_heap (w := w) (hb.block b (cell_lt this))]; exact this
  blk := fun id b hg => (h.blk id b hg).step (Gh.le_refl g) (fun k x _ _ e => by rw [hb.block k (Array.getElem?_eq_some_iff.1 e).1]; exact e) (fun _ _ _ _ _ e => e) (fun e => e)
  inj := h.inj }

theorem Ends.of_below {g : Gh} {H : List Blk} {w w' : World} {r : V} {c : Value} (h : RelH g (enumB 0 H) w) (hd : Dom g H.length) (hb : Go.RowKit.Below w.heap.size w w') (hr : RelV g r c) : Ends g H w r H c w' :=
  ⟨g, hr, h.below hb, { leM := fun _ _ _ h => h, leB := fun _ _ => rfl, leS := fun _ _ => rfl, size := hb.size, os := hb.os, output := hb.output, tape := hb.tape, kept := fun k hk _ => hb.block k hk, own := fun k hk => .inl hk, mnew := fun _ _ _ h => .inl h }, hd⟩

theorem VSpec.of_below {f : FuncId} {args : List V} {H : List Blk} {r : V}
    (h : ∀ (g : Gh) (w : World) (cargs : Array Value), RelH g (enumB 0 H) w → AllRel g args cargs → Calls P f cargs w (fun e w' => ∃ c, e = .returned c ∧ RelV g r c ∧ Go.RowKit.Below w.heap.size w w')) : VSpec P f args H r H :=
  ⟨Nat.le_refl _, fun g w cargs hrel hdom hall => (h g w cargs hrel hall).mono fun e w' ⟨c, he, hr, hb⟩ => ⟨c, he, Ends.of_below hrel hdom hb hr⟩⟩

theorem AllRel.one {g : Gh} {v : V} {cs : Array Value} (h : AllRel g [v] cs) : ∃ c, cs = #[c] ∧ RelV g v c := by
  obtain ⟨h1, h2⟩ := h
  match cs, h1 with
  | ⟨[c]⟩, _ => exact ⟨c, rfl, h2 0 v c rfl rfl⟩
theorem AllRel.two {g : Gh} {v v' : V} {cs : Array Value} (h : AllRel g [v, v'] cs) : ∃ c c', cs = #[c, c'] ∧ RelV g v c ∧ RelV g v' c' := by
  obtain ⟨h1, h2⟩ := h
  match cs, h1 with
  | ⟨[c, c']⟩, _ => exact ⟨c, c', rfl, h2 0 v c rfl rfl, h2 1 v' c' rfl rfl⟩
end Go.Bv

namespace Go.Proofs
open Go.Shelf
def Tryz.lays169_ren : Go.Shelf.Ren := ⟨fun | 169 => 17 | n => n, fun | 70 => 57 | 9 => 9 | 0 => 0 | 72 => 59 | 37 => 31 | 127 => 104 | 3 => 3 | 5 => 5 | n => n, fun | n => n⟩
theorem Tryz.lays169 : Go.Proofs.Lays.n169 Tryz.prog Tryz.lays169_ren := {
  mixed := by kernel_rfl
  f169 := Tryz.func17.trans (congrArg some (by kernel_rfl))
  t0 := Tryz.underlying0
  a0 := Tryz.isAgg0
  z0 := Tryz.sizeOf0
  v0 := Tryz.zeroValue0
  t3 := Tryz.underlying3
  a3 := Tryz.isAgg3
  z3 := Tryz.sizeOf3
  v3 := Tryz.zeroValue3
  t9 := Tryz.underlying9
  a9 := Tryz.isAgg9
  z9 := Tryz.sizeOf9
  v9 := Tryz.zeroValue9
  t37 := Tryz.underlying31
  a37 := Tryz.isAgg31
  z37 := Tryz.sizeOf31
  v37 := Tryz.zeroValue31
  t70 := Tryz.underlying57
  a70 := Tryz.isAgg57
  z70 := Tryz.sizeOf57
  v70 := Tryz.zeroValue57
  t72 := Tryz.underlying59
  a72 := Tryz.isAgg59
  z72 := Tryz.sizeOf59
  v72 := Tryz.zeroValue59
  t127 := Tryz.underlying104
  a127 := Tryz.isAgg104
  z127 := Tryz.sizeOf104
  v127 := Tryz.zeroValue104 }
theorem Tryz.Builder_Extra_169 : Builder.Extra Tryz.prog Tryz.lays169_ren := {
  sizeBuilder := by kernel_rfl
  liesBuilder := by kernel_rfl
  t5 := Tryz.underlying5
  a5 := Tryz.isAgg5
  z5 := Tryz.sizeOf5
  v5 := Tryz.zeroValue5
  infoByte := by kernel_rfl
  cellsByte := by kernel_rfl
  sizeByte := by kernel_rfl
  neB5 := by decide }
def Tryz.lays156_ren : Go.Shelf.Ren := ⟨fun | 156 => 37 | 165 => 77 | 166 => 15 | 169 => 17 | 240 => 35 | 241 => 132 | 276 => 75 | 277 => 187 | n => n, fun | 31 => 22 | 9 => 9 | 3 => 3 | 4 => 4 | 0 => 0 | 20 => 20 | 72 => 59 | 76 => 63 | 70 => 57 | 37 => 31 | 75 => 62 | 127 => 104 | 164 => 162 | 5 => 5 | 80 => 66 | n => n, fun | n => n⟩
theorem Tryz.lays156 : Go.Proofs.Lays.n156 Tryz.prog Tryz.lays156_ren := {
  mixed := by kernel_rfl
  f156 := Tryz.func37.trans (congrArg some (by kernel_rfl))
  f165 := Tryz.func77.trans (congrArg some (by kernel_rfl))
  f166 := Tryz.func15.trans (congrArg some (by kernel_rfl))
  f169 := Tryz.func17.trans (congrArg some (by kernel_rfl))
  f240 := Tryz.func35.trans (congrArg some (by kernel_rfl))
  f241 := Tryz.func132.trans (congrArg some (by kernel_rfl))
  f276 := Tryz.func75.trans (congrArg some (by kernel_rfl))
  f277 := Tryz.func187.trans (congrArg some (by kernel_rfl))
  t0 := Tryz.underlying0
  a0 := Tryz.isAgg0
  z0 := Tryz.sizeOf0
  v0 := Tryz.zeroValue0
  t3 := Tryz.underlying3
  a3 := Tryz.isAgg3
  z3 := Tryz.sizeOf3
  v3 := Tryz.zeroValue3
  t4 := Tryz.underlying4
  a4 := Tryz.isAgg4
  z4 := Tryz.sizeOf4
  v4 := Tryz.zeroValue4
  t9 := Tryz.underlying9
  a9 := Tryz.isAgg9
  z9 := Tryz.sizeOf9
  v9 := Tryz.zeroValue9
  t20 := Tryz.underlying20
  a20 := Tryz.isAgg20
  z20 := Tryz.sizeOf20
  v20 := Tryz.zeroValue20
  t31 := Tryz.underlying22
  a31 := Tryz.isAgg22
  z31 := Tryz.sizeOf22
  v31 := Tryz.zeroValue22
  t37 := Tryz.underlying31
  a37 := Tryz.isAgg31
  z37 := Tryz.sizeOf31
  v37 := Tryz.zeroValue31
  t70 := Tryz.underlying57
  a70 := Tryz.isAgg57
  z70 := Tryz.sizeOf57
  v70 := Tryz.zeroValue57
  t72 := Tryz.underlying59
  a72 := Tryz.isAgg59
  z72 := Tryz.sizeOf59
  v72 := Tryz.zeroValue59
  t75 := Tryz.underlying62
  a75 := Tryz.isAgg62
  z75 := Tryz.sizeOf62
  v75 := Tryz.zeroValue62
  t76 := Tryz.underlying63
  a76 := Tryz.isAgg63
  z76 := Tryz.sizeOf63
  v76 := Tryz.zeroValue63
  t127 := Tryz.underlying104
  a127 := Tryz.isAgg104
  z127 := Tryz.sizeOf104
  v127 := Tryz.zeroValue104
  t164 := Tryz.underlying162
  a164 := Tryz.isAgg162
  z164 := Tryz.sizeOf162
  v164 := Tryz.zeroValue162 }
theorem Tryz.Builder_Extra_156 : Builder.Extra Tryz.prog Tryz.lays156_ren := {
  sizeBuilder := by kernel_rfl
  liesBuilder := by kernel_rfl
  t5 := Tryz.underlying5
  a5 := Tryz.isAgg5
  z5 := Tryz.sizeOf5
  v5 := Tryz.zeroValue5
  infoByte := by kernel_rfl
  cellsByte := by kernel_rfl
  sizeByte := by kernel_rfl
  neB5 := by decide }
open Go.RowKit in

theorem Tryz.strings_Join_none (a : Option Addr) (c : Nat) (sep : ByteArray) (w : World) :
    Calls Tryz.prog 37 #[.slice a 0 c, .string sep] w fun e w' => e = .returned (.string ⟨#[]⟩) ∧ w' = w := Any.strings_Join_none Tryz.lays156 Tryz.Builder_Extra_156 a c sep w
open Go.RowKit in

theorem Tryz.strings_Join (bk o c : Nat) (xs : List ByteArray) (sep : ByteArray) (w : World) (hcells : ∀ (j : Nat) x, xs[j]? = some x → w.cell? ⟨bk, o + j, none⟩ = some (.string x)) (hbk : bk < w.heap.size) (hN : xs.length ≤ 140737488355328) (hcap : xs.length ≤ c) (hlen : (Lib.join (xs.map (·.data.toList)) sep.data.toList).length ≤ 140737488355328) :
    Calls Tryz.prog 37 #[.slice (some ⟨bk, o, none⟩) xs.length c, .string sep] w fun e w' => e = .returned (.string ⟨(Lib.join (xs.map (·.data.toList)) sep.data.toList).toArray⟩) ∧ Below w.heap.size w w' := Any.strings_Join Tryz.lays156 Tryz.Builder_Extra_156 bk o c xs sep w hcells hbk hN hcap hlen
open Go.RowKit in

theorem Tryz.Builder_String_any_f (B b : Nat) (l : List UInt8) (w : World) (h : Lib.IsBuilderF 59 5 B b (Lib.byteCells l) w) (hBw : B ≤ w.heap.size) :
    Calls Tryz.prog 17 #[.pointer (some ⟨b, 0, none⟩)] w fun e w' => e = .returned (.string ⟨l.toArray⟩) ∧ (Lib.IsBuilderF 59 5 B b (Lib.byteCells l) w' ∧ Below B w w') := Any.Builder_String_any_f Tryz.lays169 Tryz.Builder_Extra_169 B b l w h hBw
def Tryz.lays172_ren : Go.Shelf.Ren := ⟨fun | 172 => 130 | 244 => 181 | 245 => 182 | 247 => 229 | 279 => 230 | 280 => 231 | 281 => 232 | 282 => 233 | 287 => 280 | 316 => 281 | 171 => 36 | 205 => 282 | 321 => 314 | 322 => 315 | 243 => 76 | 246 => 131 | 283 => 183 | 284 => 184 | 285 => 185 | 286 => 186 | 129 => 235 | 317 => 234 | 318 => 236 | 319 => 237 | 320 => 238 | 337 => 283 | 338 => 284 | n => n, fun | 9 => 9 | 3 => 3 | 75 => 62 | 76 => 63 | 4 => 4 | 5 => 5 | 167 => 332 | 37 => 31 | 0 => 0 | 85 => 333 | 2 => 2 | 168 => 335 | 53 => 282 | 175 => 371 | 46 => 224 | 210 => 375 | 127 => 104 | 145 => 408 | 143 => 406 | 21 => 21 | 171 => 281 | 173 => 285 | 212 => 339 | 51 => 340 | 20 => 20 | 213 => 341 | 232 => 409 | 233 => 410 | 80 => 66 | n => n, fun | 15 => 2 | 16 => 3 | 17 => 0 | 18 => 6 | 19 => 7 | n => n⟩
theorem Tryz.lays172 : Go.Proofs.Lays.n172 Tryz.prog Tryz.lays172_ren := {
  mixed := by kernel_rfl
  f129 := Tryz.func235.trans (congrArg some (by kernel_rfl))
  f171 := Tryz.func36.trans (congrArg some (by kernel_rfl))
  f172 := Tryz.func130.trans (congrArg some (by kernel_rfl))
  f205 := Tryz.func282.trans (congrArg some (by kernel_rfl))
  f243 := Tryz.func76.trans (congrArg some (by kernel_rfl))
  f244 := Tryz.func181.trans (congrArg some (by kernel_rfl))
  f245 := Tryz.func182.trans (congrArg some (by kernel_rfl))
  f246 := Tryz.func131.trans (congrArg some (by kernel_rfl))
  f247 := Tryz.func229.trans (congrArg some (by kernel_rfl))
  f279 := Tryz.func230.trans (congrArg some (by kernel_rfl))
  f280 := Tryz.func231.trans (congrArg some (by kernel_rfl))
  f281 := Tryz.func232.trans (congrArg some (by kernel_rfl))
  f282 := Tryz.func233.trans (congrArg some (by kernel_rfl))
  f283 := Tryz.func183.trans (congrArg some (by kernel_rfl))
  f284 := Tryz.func184.trans (congrArg some (by kernel_rfl))
  f285 := Tryz.func185.trans (congrArg some (by kernel_rfl))
  f286 := Tryz.func186.trans (congrArg some (by kernel_rfl))
  f287 := Tryz.func280.trans (congrArg some (by kernel_rfl))
  f316 := Tryz.func281.trans (congrArg some (by kernel_rfl))
  f317 := Tryz.func234.trans (congrArg some (by kernel_rfl))
  f318 := Tryz.func236.trans (congrArg some (by kernel_rfl))
  f319 := Tryz.func237.trans (congrArg some (by kernel_rfl))
  f320 := Tryz.func238.trans (congrArg some (by kernel_rfl))
  f321 := Tryz.func314.trans (congrArg some (by kernel_rfl))
  f322 := Tryz.func315.trans (congrArg some (by kernel_rfl))
  f337 := Tryz.func283.trans (congrArg some (by kernel_rfl))
  f338 := Tryz.func284.trans (congrArg some (by kernel_rfl))
  t0 := Tryz.underlying0
  a0 := Tryz.isAgg0
  z0 := Tryz.sizeOf0
  v0 := Tryz.zeroValue0
  t2 := Tryz.underlying2
  a2 := Tryz.isAgg2
  z2 := Tryz.sizeOf2
  v2 := Tryz.zeroValue2
  t3 := Tryz.underlying3
  a3 := Tryz.isAgg3
  z3 := Tryz.sizeOf3
  v3 := Tryz.zeroValue3
  t4 := Tryz.underlying4
  a4 := Tryz.isAgg4
  z4 := Tryz.sizeOf4
  v4 := Tryz.zeroValue4
  t5 := Tryz.underlying5
  a5 := Tryz.isAgg5
  z5 := Tryz.sizeOf5
  v5 := Tryz.zeroValue5
  t9 := Tryz.underlying9
  a9 := Tryz.isAgg9
  z9 := Tryz.sizeOf9
  v9 := Tryz.zeroValue9
  t20 := Tryz.underlying20
  a20 := Tryz.isAgg20
  z20 := Tryz.sizeOf20
  v20 := Tryz.zeroValue20
  t21 := Tryz.underlying21
  a21 := Tryz.isAgg21
  z21 := Tryz.sizeOf21
  v21 := Tryz.zeroValue21
  t37 := Tryz.underlying31
  a37 := Tryz.isAgg31
  z37 := Tryz.sizeOf31
  v37 := Tryz.zeroValue31
  t46 := Tryz.underlying224
  a46 := Tryz.isAgg224
  z46 := Tryz.sizeOf224
  v46 := Tryz.zeroValue224
  t51 := Tryz.underlying340
  a51 := Tryz.isAgg340
  z51 := Tryz.sizeOf340
  v51 := Tryz.zeroValue340
  t53 := Tryz.underlying282
  a53 := Tryz.isAgg282
  z53 := Tryz.sizeOf282
  v53 := Tryz.zeroValue282
  t75 := Tryz.underlying62
  a75 := Tryz.isAgg62
  z75 := Tryz.sizeOf62
  v75 := Tryz.zeroValue62
  t76 := Tryz.underlying63
  a76 := Tryz.isAgg63
  z76 := Tryz.sizeOf63
  v76 := Tryz.zeroValue63
  t85 := Tryz.underlying333
  a85 := Tryz.isAgg333
  z85 := Tryz.sizeOf333
  v85 := Tryz.zeroValue333
  t127 := Tryz.underlying104
  a127 := Tryz.isAgg104
  z127 := Tryz.sizeOf104
  v127 := Tryz.zeroValue104
  t143 := Tryz.underlying406
  a143 := Tryz.isAgg406
  z143 := Tryz.sizeOf406
  v143 := Tryz.zeroValue406
  t145 := Tryz.underlying408
  a145 := Tryz.isAgg408
  z145 := Tryz.sizeOf408
  v145 := Tryz.zeroValue408
  t167 := Tryz.underlying332
  a167 := Tryz.isAgg332
  z167 := Tryz.sizeOf332
  v167 := Tryz.zeroValue332
  t168 := Tryz.underlying335
  a168 := Tryz.isAgg335
  z168 := Tryz.sizeOf335
  v168 := Tryz.zeroValue335
  t171 := Tryz.underlying281
  a171 := Tryz.isAgg281
  z171 := Tryz.sizeOf281
  v171 := Tryz.zeroValue281
  t173 := Tryz.underlying285
  a173 := Tryz.isAgg285
  z173 := Tryz.sizeOf285
  v173 := Tryz.zeroValue285
  t175 := Tryz.underlying371
  a175 := Tryz.isAgg371
  z175 := Tryz.sizeOf371
  v175 := Tryz.zeroValue371
  t210 := Tryz.underlying375
  a210 := Tryz.isAgg375
  z210 := Tryz.sizeOf375
  v210 := Tryz.zeroValue375
  t212 := Tryz.underlying339
  a212 := Tryz.isAgg339
  z212 := Tryz.sizeOf339
  v212 := Tryz.zeroValue339
  t213 := Tryz.underlying341
  a213 := Tryz.isAgg341
  z213 := Tryz.sizeOf341
  t232 := Tryz.underlying409
  a232 := Tryz.isAgg409
  z232 := Tryz.sizeOf409
  v232 := Tryz.zeroValue409
  t233 := Tryz.underlying410
  a233 := Tryz.isAgg410
  z233 := Tryz.sizeOf410
  v233 := Tryz.zeroValue410
  g15 := by kernel_rfl
  g16 := by kernel_rfl
  g17 := by kernel_rfl
  g18 := by kernel_rfl
  g19 := by kernel_rfl }
open Go.RowKit in

theorem Tryz.strconv_Atoi (s : ByteArray) (n : Int) (hl : s.size ≤ 18) (h : Lib.atoi s.data.toList = some n) (w : World) :
    Calls Tryz.prog 130 #[.string s] w fun e w' => e = .returned (.tuple #[.int .i64 n, .nilIface]) ∧ ∃ t, w' = Lib.bytesWorld w 5 t := Any.strconv_Atoi Tryz.lays172 s n hl h w
def Tryz.laysM171_ren : Go.Shelf.Ren := ⟨fun | 171 => 36 | 243 => 76 | 246 => 131 | 283 => 183 | 284 => 184 | 285 => 185 | 286 => 186 | 129 => 235 | 317 => 234 | 318 => 236 | 319 => 237 | 320 => 238 | 337 => 283 | 338 => 284 | n => n, fun | 3 => 3 | 9 => 9 | 2 => 2 | 4 => 4 | 171 => 281 | 0 => 0 | 53 => 282 | 37 => 31 | 5 => 5 | 173 => 285 | 212 => 339 | 51 => 340 | 20 => 20 | 213 => 341 | 46 => 224 | 232 => 409 | 233 => 410 | n => n, fun | 17 => 0 | 18 => 6 | 19 => 7 | n => n⟩
theorem Tryz.laysM171 : Go.Proofs.LaysM.n171 Tryz.prog Tryz.laysM171_ren := {
  mixed := by kernel_rfl
  f129 := Tryz.func235.trans (congrArg some (by kernel_rfl))
  f171 := Tryz.func36.trans (congrArg some (by kernel_rfl))
  f243 := Tryz.func76.trans (congrArg some (by kernel_rfl))
  f246 := Tryz.func131.trans (congrArg some (by kernel_rfl))
  f283 := Tryz.func183.trans (congrArg some (by kernel_rfl))
  f284 := Tryz.func184.trans (congrArg some (by kernel_rfl))
  f285 := Tryz.func185.trans (congrArg some (by kernel_rfl))
  f286 := Tryz.func186.trans (congrArg some (by kernel_rfl))
  f317 := Tryz.func234.trans (congrArg some (by kernel_rfl))
  f318 := Tryz.func236.trans (congrArg some (by kernel_rfl))
  f319 := Tryz.func237.trans (congrArg some (by kernel_rfl))
  f320 := Tryz.func238.trans (congrArg some (by kernel_rfl))
  f337 := Tryz.func283.trans (congrArg some (by kernel_rfl))
  f338 := Tryz.func284.trans (congrArg some (by kernel_rfl))
  t0 := Tryz.underlying0
  a0 := Tryz.isAgg0
  z0 := Tryz.sizeOf0
  v0 := Tryz.zeroValue0
  t2 := Tryz.underlying2
  a2 := Tryz.isAgg2
  z2 := Tryz.sizeOf2
  v2 := Tryz.zeroValue2
  t3 := Tryz.underlying3
  a3 := Tryz.isAgg3
  z3 := Tryz.sizeOf3
  v3 := Tryz.zeroValue3
  t4 := Tryz.underlying4
  a4 := Tryz.isAgg4
  z4 := Tryz.sizeOf4
  v4 := Tryz.zeroValue4
  t5 := Tryz.underlying5
  a5 := Tryz.isAgg5
  z5 := Tryz.sizeOf5
  v5 := Tryz.zeroValue5
  t9 := Tryz.underlying9
  a9 := Tryz.isAgg9
  z9 := Tryz.sizeOf9
  v9 := Tryz.zeroValue9
  t20 := Tryz.underlying20
  a20 := Tryz.isAgg20
  z20 := Tryz.sizeOf20
  v20 := Tryz.zeroValue20
  t37 := Tryz.underlying31
  a37 := Tryz.isAgg31
  z37 := Tryz.sizeOf31
  v37 := Tryz.zeroValue31
  t46 := Tryz.underlying224
  a46 := Tryz.isAgg224
  z46 := Tryz.sizeOf224
  v46 := Tryz.zeroValue224
  t51 := Tryz.underlying340
  a51 := Tryz.isAgg340
  z51 := Tryz.sizeOf340
  v51 := Tryz.zeroValue340
  t53 := Tryz.underlying282
  a53 := Tryz.isAgg282
  z53 := Tryz.sizeOf282
  v53 := Tryz.zeroValue282
  t171 := Tryz.underlying281
  a171 := Tryz.isAgg281
  z171 := Tryz.sizeOf281
  v171 := Tryz.zeroValue281
  t173 := Tryz.underlying285
  a173 := Tryz.isAgg285
  z173 := Tryz.sizeOf285
  v173 := Tryz.zeroValue285
  t212 := Tryz.underlying339
  a212 := Tryz.isAgg339
  z212 := Tryz.sizeOf339
  v212 := Tryz.zeroValue339
  t213 := Tryz.underlying341
  a213 := Tryz.isAgg341
  z213 := Tryz.sizeOf341
  t232 := Tryz.underlying409
  a232 := Tryz.isAgg409
  z232 := Tryz.sizeOf409
  v232 := Tryz.zeroValue409
  t233 := Tryz.underlying410
  a233 := Tryz.isAgg410
  z233 := Tryz.sizeOf410
  v233 := Tryz.zeroValue410
  g17 := by kernel_rfl
  g18 := by kernel_rfl
  g19 := by kernel_rfl
  i0 := by kernel_rfl
  i2 := by kernel_rfl
  i3 := by kernel_rfl
  i4 := by kernel_rfl
  i5 := by kernel_rfl
  i9 := by kernel_rfl
  i20 := by kernel_rfl
  i37 := by kernel_rfl
  i46 := by kernel_rfl
  i51 := by kernel_rfl
  i53 := by kernel_rfl
  i171 := by kernel_rfl
  i173 := by kernel_rfl
  i212 := by kernel_rfl
  i232 := by kernel_rfl
  i233 := by kernel_rfl
  m17 := by kernel_rfl
  m18 := by kernel_rfl
  m19 := by kernel_rfl }
open Go.RowKit Go.Sort Go.Lib in

theorem Tryz.strconv_Itoa (n : Int) (h0 : -9223372036854775808 ≤ n) (h1 : n ≤ 9223372036854775807) (w : World) (htab : Lib.TabIs Tryz.prog w "internal/strconv.uint64pow10" .u64 Lib.pow10Tab) :
    Calls Tryz.prog 36 #[.int .i64 n] w fun e w' => e = .returned (.string ⟨(Lib.itoa n).toArray⟩) ∧ ∃ k os, w' = grow (w.drewN k) os := Any.strconv_Itoa Tryz.laysM171 n h0 h1 w htab
def Tryz.lays101_ren : Go.Shelf.Ren := ⟨fun | 101 => 129 | 208 => 180 | 206 => 228 | n => n, fun | 9 => 9 | 4 => 4 | 3 => 3 | n => n, fun | n => n⟩
theorem Tryz.lays101 : Go.Proofs.Lays.n101 Tryz.prog Tryz.lays101_ren := {
  mixed := by kernel_rfl
  f101 := Tryz.func129.trans (congrArg some (by kernel_rfl))
  f206 := Tryz.func228.trans (congrArg some (by kernel_rfl))
  f208 := Tryz.func180.trans (congrArg some (by kernel_rfl))
  t3 := Tryz.underlying3
  a3 := Tryz.isAgg3
  z3 := Tryz.sizeOf3
  v3 := Tryz.zeroValue3
  t4 := Tryz.underlying4
  a4 := Tryz.isAgg4
  z4 := Tryz.sizeOf4
  v4 := Tryz.zeroValue4
  t9 := Tryz.underlying9
  a9 := Tryz.isAgg9
  z9 := Tryz.sizeOf9
  v9 := Tryz.zeroValue9 }
open Go.RowKit Go.Lib in

theorem Tryz.strings_TrimPrefix (s p : ByteArray) (w : World) :
    Calls Tryz.prog 129 #[.string s, .string p] w fun e w' => e = .returned (.string ⟨(Lib.trimPrefix s.data.toList p.data.toList).toArray⟩) ∧ w' = w := Any.strings_TrimPrefix Tryz.lays101 s p w
def Tryz.lays146_ren : Go.Shelf.Ren := ⟨fun | 146 => 67 | 221 => 128 | 268 => 177 | 138 => 178 | 143 => 179 | 195 => 224 | 197 => 225 | 218 => 226 | 219 => 227 | 260 => 275 | 217 => 276 | 225 => 277 | 224 => 278 | 267 => 279 | 266 => 312 | 314 => 313 | n => n, fun | 9 => 9 | 31 => 22 | 3 => 3 | 4 => 4 | 0 => 0 | 105 => 328 | 21 => 21 | 5 => 5 | 46 => 224 | 119 => 399 | 139 => 402 | 138 => 401 | 146 => 403 | 51 => 340 | n => n, fun | 1 => 1 | 3 => 4 | 4 => 5 | n => n⟩
theorem Tryz.lays146 : Go.Proofs.Lays.n146 Tryz.prog Tryz.lays146_ren := {
  mixed := by kernel_rfl
  f138 := Tryz.func178.trans (congrArg some (by kernel_rfl))
  f143 := Tryz.func179.trans (congrArg some (by kernel_rfl))
  f146 := Tryz.func67.trans (congrArg some (by kernel_rfl))
  f195 := Tryz.func224.trans (congrArg some (by kernel_rfl))
  f197 := Tryz.func225.trans (congrArg some (by kernel_rfl))
  f217 := Tryz.func276.trans (congrArg some (by kernel_rfl))
  f218 := Tryz.func226.trans (congrArg some (by kernel_rfl))
  f219 := Tryz.func227.trans (congrArg some (by kernel_rfl))
  f221 := Tryz.func128.trans (congrArg some (by kernel_rfl))
  f224 := Tryz.func278.trans (congrArg some (by kernel_rfl))
  f225 := Tryz.func277.trans (congrArg some (by kernel_rfl))
  f260 := Tryz.func275.trans (congrArg some (by kernel_rfl))
  f266 := Tryz.func312.trans (congrArg some (by kernel_rfl))
  f267 := Tryz.func279.trans (congrArg some (by kernel_rfl))
  f268 := Tryz.func177.trans (congrArg some (by kernel_rfl))
  f314 := Tryz.func313.trans (congrArg some (by kernel_rfl))
  t0 := Tryz.underlying0
  a0 := Tryz.isAgg0
  z0 := Tryz.sizeOf0
  v0 := Tryz.zeroValue0
  t3 := Tryz.underlying3
  a3 := Tryz.isAgg3
  z3 := Tryz.sizeOf3
  v3 := Tryz.zeroValue3
  t4 := Tryz.underlying4
  a4 := Tryz.isAgg4
  z4 := Tryz.sizeOf4
  v4 := Tryz.zeroValue4
  t5 := Tryz.underlying5
  a5 := Tryz.isAgg5
  z5 := Tryz.sizeOf5
  v5 := Tryz.zeroValue5
  t9 := Tryz.underlying9
  a9 := Tryz.isAgg9
  z9 := Tryz.sizeOf9
  v9 := Tryz.zeroValue9
  t21 := Tryz.underlying21
  a21 := Tryz.isAgg21
  z21 := Tryz.sizeOf21
  v21 := Tryz.zeroValue21
  t31 := Tryz.underlying22
  a31 := Tryz.isAgg22
  z31 := Tryz.sizeOf22
  v31 := Tryz.zeroValue22
  t46 := Tryz.underlying224
  a46 := Tryz.isAgg224
  z46 := Tryz.sizeOf224
  v46 := Tryz.zeroValue224
  t51 := Tryz.underlying340
  a51 := Tryz.isAgg340
  z51 := Tryz.sizeOf340
  v51 := Tryz.zeroValue340
  t105 := Tryz.underlying328
  a105 := Tryz.isAgg328
  z105 := Tryz.sizeOf328
  v105 := Tryz.zeroValue328
  t119 := Tryz.underlying399
  a119 := Tryz.isAgg399
  z119 := Tryz.sizeOf399
  t138 := Tryz.underlying401
  a138 := Tryz.isAgg401
  z138 := Tryz.sizeOf401
  v138 := Tryz.zeroValue401
  t139 := Tryz.underlying402
  a139 := Tryz.isAgg402
  z139 := Tryz.sizeOf402
  v139 := Tryz.zeroValue402
  t146 := Tryz.underlying403
  a146 := Tryz.isAgg403
  z146 := Tryz.sizeOf403
  v146 := Tryz.zeroValue403
  g1 := by kernel_rfl
  g3 := by kernel_rfl
  g4 := by kernel_rfl }
open Go.RowKit Go.Lib in

theorem Tryz.strings_Split (s sep : ByteArray) (m : Int) (w : World) (hs : s.size < 4294967281) (hm : w.cell? ⟨1, 0, none⟩ = some (.int .i64 m)) (h1 : 1 ≤ sep.size) :
    Calls Tryz.prog 67 #[.string s, .string sep] w fun e w' =>
      e = .returned (.slice (some ⟨w.heap.size, 0, none⟩) (Lib.countB s sep + 1) (Lib.countB s sep + 1)) ∧ w' = w.alloc (.cells ((Lib.splitB sep 0 (Lib.countB s sep) s).map Value.string).toArray 9) := Any.strings_Split Tryz.lays146 (by kernel_rfl) s sep m w hs hm h1
end Go.Proofs

namespace Go.Proofs
open Go.Shelf Go.RowKit
theorem Tryz.lays166' : Go.Proofs.Lays.n166 Tryz.prog Tryz.lays156_ren := {
  mixed := Tryz.lays156.mixed
  f166 := Tryz.lays156.f166
  f240 := Tryz.lays156.f240
  f276 := Tryz.lays156.f276
  t0 := Tryz.lays156.t0
  a0 := Tryz.lays156.a0
  z0 := Tryz.lays156.z0
  v0 := Tryz.lays156.v0
  t3 := Tryz.lays156.t3
  a3 := Tryz.lays156.a3
  z3 := Tryz.lays156.z3
  v3 := Tryz.lays156.v3
  t4 := Tryz.lays156.t4
  a4 := Tryz.lays156.a4
  z4 := Tryz.lays156.z4
  v4 := Tryz.lays156.v4
  t9 := Tryz.lays156.t9
  a9 := Tryz.lays156.a9
  z9 := Tryz.lays156.z9
  v9 := Tryz.lays156.v9
  t20 := Tryz.lays156.t20
  a20 := Tryz.lays156.a20
  z20 := Tryz.lays156.z20
  v20 := Tryz.lays156.v20
  t37 := Tryz.lays156.t37
  a37 := Tryz.lays156.a37
  z37 := Tryz.lays156.z37
  v37 := Tryz.lays156.v37
  t70 := Tryz.lays156.t70
  a70 := Tryz.lays156.a70
  z70 := Tryz.lays156.z70
  v70 := Tryz.lays156.v70
  t72 := Tryz.lays156.t72
  a72 := Tryz.lays156.a72
  z72 := Tryz.lays156.z72
  v72 := Tryz.lays156.v72
  t75 := Tryz.lays156.t75
  a75 := Tryz.lays156.a75
  z75 := Tryz.lays156.z75
  v75 := Tryz.lays156.v75
  t164 := Tryz.lays156.t164
  a164 := Tryz.lays156.a164
  z164 := Tryz.lays156.z164
  v164 := Tryz.lays156.v164 }

theorem Tryz.Builder_WriteString_f (B b : Nat) (bs : List Value) (s : ByteArray) (w : World) (h : Lib.IsBuilderF 59 5 B b bs w) (hlen : bs.length + s.size ≤ 140737488355328) (hBw : B ≤ w.heap.size) :
    Calls Tryz.prog 15 #[.pointer (some ⟨b, 0, none⟩), .string s] w fun e w' => e = .returned (.tuple #[.int .i64 s.size, .nilIface]) ∧ (Lib.BuilderAtF 59 5 B b (.pointer (some ⟨b, 0, none⟩)) (bs ++ Lib.strCells s) w' ∧ Below B w w') :=
  Any.Builder_WriteString_f Tryz.lays166' Tryz.Builder_Extra_156 B b bs s w h hlen hBw
end Go.Proofs

namespace Go.Bv
open Go.RowKit Go.Sort

theorem grow_below (w : World) (os : Array Obj) (k : Nat) : Below w.heap.size w (grow (w.drewN k) os) :=
  ⟨by simp [grow, World.drewN], by simp [grow, World.drewN], by simp [grow, World.drewN], by simp [grow, World.drewN], fun i hi => by simp [grow, World.drewN, Array.getElem?_append_left hi]⟩

theorem RelH.glo_cells {g : Gh} {H : List (Nat × Blk)} {w : World} (h : RelH g H w) {n : Nat} {e : List D} (hn : gtab n = some e) {f : D → Value} (hf : ∀ x c, x ∈ e → RelD g.M x c → c = f x) : ∃ t fr, w.heap[n]? = some (.cells (e.map f).toArray t fr) := by
  obtain ⟨arr, t, fr, h1, h2⟩ := h.wg n e hn
  refine ⟨t, fr, ?_⟩
  rw [h1]
  have : arr = (e.map f).toArray := by
    apply Array.ext
    · simp [h2]
    · intro i hi1 hi2
      have hi : i < e.length := by omega
      obtain ⟨c, hc, hr⟩ := g.glo.1 n e hn i e[i] (List.getElem?_eq_getElem hi)
      have hcell := h.mem n i c hc
      rw [cell_cells h1, Array.getElem?_eq_getElem hi1] at hcell
      injection hcell with hcell
      rw [hcell, hf e[i] c (List.getElem_mem hi) hr]
      simp
  rw [this]

theorem VSpec.of_alloc {P : Program} {f : FuncId} {args : List V} {H : List Blk} {r : V} {b : Blk}
    (h : ∀ (g : Gh) (w : World) (cargs : Array Value), RelH g (enumB 0 H) w → Dom g H.length → AllRel g args cargs → Calls P f cargs w (fun e w' => ∃ c o sv, w' = w.alloc o ∧ e = .returned c ∧ RelV (g.bind H.length w.heap.size sv) r c ∧ BlkRel (g.bind H.length w.heap.size sv) w' H.length b)) :
    VSpec P f args H r (H ++ [b]) := by
  refine ⟨by simp, fun g w cargs hrel hdom hall => (h g w cargs hrel hdom hall).mono ?_⟩
  rintro e w' ⟨c, o, sv, rfl, rfl, hr, hb⟩
  have hinv : Inv (entOf g H w) g { tm := [], hp := enumB 0 H, nx := H.length, us := [], N := 0 } { tmps := #[], defers := [] } w := {
    wg := hrel.wg
    mem := hrel.mem
    blk := hrel.blk
    inj := hrel.inj
    tm := fun t => by show RelV g .junk _; exact .junk _
    size := rfl
    dom := fun id hid => .inl (hdom id hid)
    fr := { leM := fun _ _ _ h => h, leB := fun _ _ => rfl, leS := fun _ _ => rfl, size := Nat.le_refl _, os := rfl, output := rfl, tape := rfl, kept := fun _ _ _ => rfl, own := fun k hk => .inl hk, mnew := fun _ _ _ h => .inl h }
    marks := ⟨[], rfl, List.nodup_nil, fun r hr => by cases hr⟩ }
  have hf : VS.fresh { tm := [], hp := enumB 0 H, nx := H.length, us := [], N := 0 } H.length := by simp [VS.fresh]
  have hi := hinv.alloc hf (Nat.le_refl _) o b sv hb
  have hget : ∀ i, Bv.hget (enumB 0 (H ++ [b])) i = Bv.hget ((H.length, b) :: enumB 0 H) i := fun i => by
    rw [hget_enum0, hget_cons, hget_enum0]
    by_cases e : H.length = i
    · subst e; simp
    · rw [if_neg e]
      rcases Nat.lt_or_ge i H.length with hlt | hge
      · rw [List.getElem?_append_left hlt]
      · rw [List.getElem?_eq_none (by simp; omega), List.getElem?_eq_none (by omega)]
  have hi' := hi.same (s' := { tm := [], hp := enumB 0 (H ++ [b]), nx := H.length, us := [H.length], N := 0 }) ⟨fun _ => rfl, fun i => (hget i).symm, rfl, rfl, fun _ => Iff.rfl⟩
  refine ⟨c, rfl, _, hr, hi'.toRelH, hi'.fr, fun id hid => ?_⟩
  rcases hi'.dom id hid with h1 | h1
  · have : id < H.length := h1; simp; omega
  · have : id ∈ [H.length] := h1; simp at this; simp; omega

theorem sl_strs {g : Gh} {w : World} {c : Value} {xs : List (List UInt8)} (h : SlRel g w 1 c (strsD xs)) :
    ∃ a cap, c = .slice a xs.length cap ∧ xs.length ≤ cap ∧ (xs ≠ [] → ∃ b o, a = some ⟨b, o, none⟩ ∧ b < w.heap.size ∧ ∀ (j : Nat) (x : List UInt8), xs[j]? = some x → w.cell? ⟨b, o + j, none⟩ = some (.string ⟨x.toArray⟩)) := by
  by_cases hne : xs = []
  · subst hne
    obtain ⟨a, cap, hc, hle, _⟩ := h
    exact ⟨a, cap, by simpa [strsD] using hc, by simp, fun e => absurd rfl e⟩
  · have hne' : strsD xs ≠ [] := by simpa [strsD] using hne
    obtain ⟨b, o, cap, news, hc, hle, hn, hcell, _, hl, hr⟩ := h.news hne'
    have hlen : (strsD xs).length = xs.length := by simp [strsD]
    rw [hlen] at hc hle hn
    have key : ∀ (j : Nat) (x : List UInt8), xs[j]? = some x → w.cell? ⟨b, o + j, none⟩ = some (.string ⟨x.toArray⟩) := fun j x hx => by
      have hj := (List.getElem?_eq_some_iff.1 hx).1
      have hnj : news[j]? = some news[j] := List.getElem?_eq_getElem (by omega)
      have h1 := hcell j news[j] hnj
      have h2 : (strsD xs)[j]? = some [.str x] := by simp [strsD, hx]
      have h3 := hr j 0 [.str x] (.str x) news[j] h2 rfl (by rw [Nat.mul_one, Nat.add_zero]; exact hnj)
      have : news[j] = .string ⟨x.toArray⟩ := by generalize news[j] = u at h3; cases h3; rfl
      rw [this] at h1
      have hadd : (⟨b, o, none⟩ : Addr).add j = ⟨b, o + j, none⟩ := by unfold Addr.add; split <;> simp_all
      rw [hadd] at h1; exact h1
    refine ⟨_, cap, hc, hle, fun _ => ⟨b, o, rfl, ?_, key⟩⟩
    have : 0 < xs.length := List.length_pos_iff.2 hne
    exact cell_lt (key 0 xs[0] (List.getElem?_eq_getElem this))
theorem strsOf_eq : ∀ (es : List (List D)) (xs : List (List UInt8)), strsOf es = some xs → es = strsD xs
  | [], xs, h => by simp only [strsOf, Option.some.injEq] at h; subst h; rfl
  | [.str x] :: r, xs, h => by
    simp only [strsOf] at h
    obtain ⟨ys, h1, rfl⟩ := Option.map_eq_some_iff.1 h
    simp [strsD, strsOf_eq r ys h1]
theorem relV_slice {g : Gh} {H : List Blk} {w : World} {v : V} {c : Value} {es : List (List D)} {rd : List Nat} (hrel : RelH g (enumB 0 H) w) (h : RelV g v c) (hs : slOf (fun i => H[i]?) 1 v = some (es, rd)) : SlRel g w 1 c es :=
  sl_rel h hs (by decide) (fun id _ b hb => hrel.blk id b (by rw [hget_enum0]; exact hb)) hrel.mem
end Go.Bv

namespace Go.Proofs
open Go Go.Bv Go.RowKit

def nos : LibNos := { itoa := 36, join := 37, split := 67, trim := 129, atoi := 130, write := 7 }
theorem mixed : Tryz.prog.follows .mixedOrders = true := by kernel_rfl
theorem pow_no : Tryz.prog.globalNamed "internal/strconv.uint64pow10" = some 0 := by kernel_rfl

theorem tabIs {g : Gh} {H : List (Nat × Blk)} {w : World} (h : RelH g H w) : Lib.TabIs Tryz.prog w "internal/strconv.uint64pow10" .u64 Lib.pow10Tab := by
  obtain ⟨t, fr, h1⟩ := h.glo_cells (n := 0) rfl (f := fun x => match x with | .int k n => .int k n | _ => .nilIface) (fun x c hx hr => by
    cases hr with
    | int k n => rfl
    | _ => simp at hx)
  unfold Lib.TabIs World.var?
  rw [pow_no]
  simp only [Option.bind_some, h1]
  rfl
theorem itoa_spec (n : Int) (h0 : -9223372036854775808 ≤ n) (h1 : n ≤ 9223372036854775807) (H : List Blk) : VSpec Tryz.prog 36 [.d (.int .i64 n)] H (.d (.str (itoaL n))) H := by
  refine VSpec.of_below fun g w cargs hrel hall => ?_
  obtain ⟨c, rfl, hc⟩ := hall.one
  rw [rel_int hc]
  refine (Tryz.strconv_Itoa n h0 h1 w (tabIs hrel)).mono ?_
  rintro e w' ⟨rfl, k, os, rfl⟩
  refine ⟨_, rfl, ?_, grow_below w os k⟩
  rw [itoaL_eq n h0 h1]
  exact .d (.str _)
theorem trim_spec (s : List UInt8) (c : UInt8) (H : List Blk) : VSpec Tryz.prog 129 [.d (.str s), .d (.str [c])] H (.d (.str (trimL [c] s))) H := by
  refine VSpec.of_below fun g w cargs hrel hall => ?_
  obtain ⟨c1, c2, rfl, hc1, hc2⟩ := hall.two
  rw [rel_str hc1, rel_str hc2]
  refine (Tryz.strings_TrimPrefix ⟨s.toArray⟩ ⟨[c].toArray⟩ w).mono ?_
  rintro e w' ⟨rfl, rfl⟩
  refine ⟨_, rfl, ?_, Below.refl _ _⟩
  rw [trimL_one]
  exact .d (.str _)
theorem bytesWorld_below (w : World) (e : TypeId) (t : ByteArray) : Below w.heap.size w (Lib.bytesWorld w e t) :=
  ⟨rfl, rfl, rfl, by rw [Lib.bytesWorld_size]; omega, fun k hk => Lib.bytesWorld_at_old w e t k hk⟩
theorem atoi_spec (l : List UInt8) (n : Int) (hl : l.length ≤ 18) (h : atoiL l = some n) (H : List Blk) : VSpec Tryz.prog 130 [.d (.str l)] H (.tup [.d (.int .i64 n), .d .nili]) H := by
  refine VSpec.of_below fun g w cargs hrel hall => ?_
  obtain ⟨c, rfl, hc⟩ := hall.one
  rw [rel_str hc]
  refine (Tryz.strconv_Atoi ⟨l.toArray⟩ n (by simpa [ByteArray.size] using hl) (by simpa using atoiL_lib h) w).mono ?_
  rintro e w' ⟨rfl, t, rfl⟩
  refine ⟨_, rfl, .tup _ _ rfl (fun i v c hv hc => ?_), bytesWorld_below w 5 t⟩
  match i, hv, hc with
  | 0, hv, hc => simp at hv hc; subst hv; subst hc; exact .d (.int _ _)
  | 1, hv, hc => simp at hv hc; subst hv; subst hc; exact .d .nili
theorem join_spec (v : V) (sep : List UInt8) (H : List Blk) (xs : List (List UInt8)) (rd : List Nat) (hs : slOf (fun i => H[i]?) 1 v = some (strsD xs, rd)) (hN : xs.length ≤ 140737488355328) (hlen : (joinL sep xs).length ≤ 140737488355328) :
    VSpec Tryz.prog 37 [v, .d (.str sep)] H (.d (.str (joinL sep xs))) H := by
  refine VSpec.of_below fun g w cargs hrel hall => ?_
  obtain ⟨c1, c2, rfl, hc1, hc2⟩ := hall.two
  rw [rel_str hc2]
  obtain ⟨a, cap, rfl, hcap, hcells⟩ := sl_strs (relV_slice hrel hc1 hs)
  by_cases hne : xs = []
  · subst hne
    refine (Tryz.strings_Join_none a cap ⟨sep.toArray⟩ w).mono ?_
    rintro e w' ⟨rfl, rfl⟩
    exact ⟨_, rfl, .d (.str []), Below.refl _ _⟩
  · obtain ⟨b, o, rfl, hb, hcell⟩ := hcells hne
    have hmap : (xs.map fun x => (⟨x.toArray⟩ : ByteArray)).map (·.data.toList) = xs := by rw [List.map_map]; exact (List.map_congr_left (fun x _ => by simp)).trans (List.map_id xs)
    have hlen' : (xs.map fun x => (⟨x.toArray⟩ : ByteArray)).length = xs.length := by simp
    rw [joinL_eq] at hlen ⊢
    have hcall := Tryz.strings_Join b o cap (xs.map fun x => ⟨x.toArray⟩) ⟨sep.toArray⟩ w (fun j x hx => (by rw [List.getElem?_map] at hx; obtain ⟨y, hy, rfl⟩ := Option.map_eq_some_iff.1 hx; exact hcell j y hy)) hb (by simpa using hN) (by simpa using hcap) (by rw [hmap]; simpa using hlen)
    rw [hlen', hmap] at hcall
    refine hcall.mono ?_
    rintro e w' ⟨rfl, hbel⟩
    exact ⟨_, rfl, .d (.str _), hbel⟩
theorem split_spec (s : List UInt8) (c : UInt8) (H : List Blk) (hs : s.length ≤ 4294967280) : VSpec Tryz.prog 67 [.d (.str s), .d (.str [c])] H (.sref H.length (splitL c s []).length) (H ++ [.row 1 0 false (strsD (splitL c s []))]) := by
  refine VSpec.of_alloc fun g w cargs hrel hdom hall => ?_
  obtain ⟨c1, c2, rfl, hc1, hc2⟩ := hall.two
  rw [rel_str hc1, rel_str hc2]
  obtain ⟨m, hm⟩ := g.glo.2 1 rfl
  refine (Tryz.strings_Split ⟨s.toArray⟩ ⟨[c].toArray⟩ m w (by show s.toArray.size < _; simp; omega) (hrel.mem _ _ _ hm) (Nat.le_refl _)).mono ?_
  rintro e w' ⟨rfl, rfl⟩
  have hcount : Lib.countB ⟨s.toArray⟩ ⟨[c].toArray⟩ + 1 = (splitL c s []).length := by rw [splitL_len]
  have hpieces : (Lib.splitB ⟨[c].toArray⟩ 0 (Lib.countB ⟨s.toArray⟩ ⟨[c].toArray⟩) ⟨s.toArray⟩).map (·.data.toList) = splitL c s [] := by
    rw [Lib.splitB_data, splitL_eq c _ s (Nat.lt_succ_self _)]
    simp [Lib.split, Lib.countB]
  generalize Lib.splitB ⟨[c].toArray⟩ 0 (Lib.countB ⟨s.toArray⟩ ⟨[c].toArray⟩) ⟨s.toArray⟩ = ps at hpieces
  generalize splitL c s [] = L at hcount hpieces
  have hpl : ps.length = L.length := by rw [← hpieces]; simp
  refine ⟨_, _, some (.slice (some ⟨w.heap.size, 0, none⟩) L.length L.length), rfl, rfl, ?_, ?_⟩
  · rw [hcount]
    exact .sref (Gh.bind_sv _ _ _ _) (Nat.le_refl _) (fun _ => ⟨_, Gh.bind_β _ _ _ _, rfl⟩)
  · refine ⟨fun e => (by cases e), fun _ => .inr ⟨w.heap.size, _, _, L.length, Gh.bind_β _ _ _ _, ?_, heap_alloc_new w _, ?_, ?_, fun hf => by omega, ?_, ?_, ?_⟩⟩
    · rw [Gh.bind_sv]; simp [strsD]
    · simp [hpl]
    · simp [strsD]
    · intro e he; simp only [strsD, List.mem_map] at he; obtain ⟨x, _, rfl⟩ := he; rfl
    · intro i j e x v he hx hv
      simp only [strsD, List.getElem?_map] at he
      obtain ⟨y, hy, rfl⟩ := Option.map_eq_some_iff.1 he
      have hj : j = 0 := by have := (List.getElem?_eq_some_iff.1 hx).1; simp at this; omega
      subst hj
      simp only [List.getElem?_cons_zero, Option.some.injEq] at hx
      subst hx
      simp only [Nat.mul_one, Nat.add_zero, List.getElem?_toArray, List.getElem?_map] at hv
      obtain ⟨p, hp, rfl⟩ := Option.map_eq_some_iff.1 hv
      have : y = p.data.toList := by
        have h1 : L[i]? = some p.data.toList := by rw [← hpieces, List.getElem?_map, hp]; rfl
        rw [hy] at h1; injection h1
      subst this
      show RelD g.M _ _
      exact .str p.data.toList
    · intro o ho
      obtain ⟨c, hc⟩ := Option.isSome_iff_exists.1 ho
      have := cell_lt (hrel.mem _ _ _ hc)
      omega
end Go.Proofs

namespace Go.Bv

inductive SR (α : Type) where
  | fail
  | ok (a : α)
  | one (c : Prop) (a : α)
  | br (b : Bool) (x y : SR α)
def SR.Has {α : Type} : SR α → α → Prop
  | .fail, _ => False
  | .ok a', a => a' = a
  | .one c a', a => c ∧ a' = a
  | .br b x y, a => (b = true ∧ x.Has a) ∨ (b = false ∧ y.Has a)
def SR.P {α : Type} : SR α → (α → Prop) → Prop
  | .fail, _ => False
  | .ok a, K => K a
  | .one c a, K => c ∧ K a
  | .br b x y, K => bif b then x.P K else y.P K
theorem SR.P_has {α : Type} : ∀ (x : SR α) {K : α → Prop}, x.P K → ∃ a, x.Has a ∧ K a
  | .fail, K, h => h.elim
  | .ok a, K, h => ⟨a, rfl, h⟩
  | .one c a, K, h => ⟨a, ⟨h.1, rfl⟩, h.2⟩
  | .br b x y, K, h => by
    cases b with
    | true => obtain ⟨a, h1, h2⟩ := x.P_has (K := K) h; exact ⟨a, .inl ⟨rfl, h1⟩, h2⟩
    | false => obtain ⟨a, h1, h2⟩ := y.P_has (K := K) h; exact ⟨a, .inr ⟨rfl, h1⟩, h2⟩
def SR.map {α β : Type} (f : α → β) : SR α → SR β
  | .fail => .fail
  | .ok a => .ok (f a)
  | .one c a => .one c (f a)
  | .br b x y => .br b (x.map f) (y.map f)
theorem SR.map_has {α β : Type} {f : α → β} : ∀ (x : SR α) {b : β}, (x.map f).Has b → ∃ a, x.Has a ∧ b = f a
  | .fail, b, h => h.elim
  | .ok a, b, h => ⟨a, rfl, h.symm⟩
  | .one c a, b, h => ⟨a, ⟨h.1, rfl⟩, h.2.symm⟩
  | .br c x y, b, h => by
    rcases h with ⟨h1, h2⟩ | ⟨h1, h2⟩
    · obtain ⟨a, h3, h4⟩ := x.map_has h2; exact ⟨a, .inl ⟨h1, h3⟩, h4⟩
    · obtain ⟨a, h3, h4⟩ := y.map_has h2; exact ⟨a, .inr ⟨h1, h3⟩, h4⟩
def SR.und {α : Type} (c : Prop) : SR α → SR α
  | .fail => .fail
  | .ok a => .one c a
  | .one d a => .one (c ∧ d) a
  | .br b x y => .br b (x.und c) (y.und c)
def SR.bind {α β : Type} (f : α → SR β) : SR α → SR β
  | .fail => .fail
  | .ok a => f a
  | .one c a => (f a).und c
  | .br b x y => .br b (x.bind f) (y.bind f)
theorem SR.und_has {α : Type} {c : Prop} : ∀ (x : SR α) {a : α}, (x.und c).Has a → c ∧ x.Has a
  | .fail, a, h => h.elim
  | .ok a, b, h => h
  | .one d a, b, h => ⟨h.1.1, h.1.2, h.2⟩
  | .br b x y, a, h => by
    rcases h with ⟨h1, h2⟩ | ⟨h1, h2⟩
    · exact ⟨(x.und_has h2).1, .inl ⟨h1, (x.und_has h2).2⟩⟩
    · exact ⟨(y.und_has h2).1, .inr ⟨h1, (y.und_has h2).2⟩⟩
theorem SR.bind_has {α β : Type} {f : α → SR β} : ∀ (x : SR α) {b : β}, (x.bind f).Has b → ∃ a, x.Has a ∧ (f a).Has b
  | .fail, b, h => h.elim
  | .ok a, b, h => ⟨a, rfl, h⟩
  | .one c a, b, h => ⟨a, ⟨((f a).und_has h).1, rfl⟩, ((f a).und_has h).2⟩
  | .br c x y, b, h => by
    rcases h with ⟨h1, h2⟩ | ⟨h1, h2⟩
    · obtain ⟨a, h3, h4⟩ := x.bind_has h2; exact ⟨a, .inl ⟨h1, h3⟩, h4⟩
    · obtain ⟨a, h3, h4⟩ := y.bind_has h2; exact ⟨a, .inr ⟨h1, h3⟩, h4⟩
def SR.of {α : Type} : Option α → SR α
  | some a => .ok a
  | none => .fail
theorem SR.of_has {α : Type} {x : Option α} {a : α} (h : (SR.of x).Has a) : x = some a := by
  cases x with
  | none => exact h.elim
  | some b => exact congrArg some h
def SR.ck {α : Type} (b : Bool) (x : SR α) : SR α := bif b then x else .fail
theorem SR.ck_has {α : Type} {b : Bool} {x : SR α} {a : α} (h : (SR.ck b x).Has a) : b = true ∧ x.Has a := by
  cases b with
  | true => exact ⟨rfl, h⟩
  | false => exact h.elim

inductive CK where
  | int (k : IntKind) | str | bool | slice | other
def D.i : D → Int
  | .int _ n => n
  | _ => 0
def D.s : D → List UInt8
  | .str s => s
  | _ => []
def D.b : D → Bool
  | .bool b => b
  | _ => false
def D.n : D → Bool
  | .slice n _ => n
  | _ => false
def D.es : D → List (List D)
  | .slice _ es => es
  | _ => []
def viewD : CK → D → D
  | .int k, x => .int k x.i
  | .str, x => .str x.s
  | .bool, x => .bool x.b
  | .slice, x => .slice x.n x.es
  | .other, x => x
def ckOf (P : Program) (t : TypeId) : CK :=
  match P.underlying t with
  | some (.int k) => .int k
  | some .string => .str
  | some .bool => .bool
  | some (.slice _) => .slice
  | _ => .other
def ckFlat (P : Program) : Nat → TypeId → List CK
  | 0, _ => []
  | n + 1, t => match P.underlying t with
    | some (.struct fs) => fs.toList.flatMap fun f => ckFlat P n f.type
    | some (.array m e) => (List.replicate m 0).flatMap fun _ => ckFlat P n e
    | _ => [ckOf P t]
def viewL : List CK → List D → Nat → List V
  | [], _, _ => []
  | k :: r, e, o => .d (viewD k (e.getD o .nilp)) :: viewL r e (o + 1)
def viewOK : List CK → List D → Nat → Prop
  | [], _, _ => True
  | k :: r, e, o => e[o]? = some (viewD k (e.getD o .nilp)) ∧ viewOK r e (o + 1)
theorem takeD_cons {e : List D} : ∀ {o n : Nat} {x : D}, e[o]? = some x → takeD e o (n + 1) = .d x :: takeD e (o + 1) n := by
  induction e with
  | nil => intro o n x h; simp at h
  | cons y r ih =>
    intro o n x h
    cases o with
    | zero =>
      simp only [List.getElem?_cons_zero, Option.some.injEq] at h
      subst h
      simp only [takeD]
      cases n with
      | zero => simp [takeD]
      | succ n => simp [takeD]
    | succ o =>
      simp only [List.getElem?_cons_succ] at h
      simp only [takeD, ih h]
      cases n with
      | zero => simp [takeD]
      | succ n => simp [takeD]
theorem viewOK_take : ∀ (ks : List CK) (e : List D) (o : Nat), viewOK ks e o → takeD e o ks.length = viewL ks e o ∧ (ks ≠ [] → o + ks.length ≤ e.length)
  | [], e, o, _ => ⟨by cases e <;> simp [takeD, viewL], fun h => absurd rfl h⟩
  | k :: r, e, o, h => by
    obtain ⟨h1, h2⟩ := viewOK_take r e (o + 1) h.2
    refine ⟨by simp only [List.length_cons, viewL]; rw [takeD_cons h.1, h1], fun _ => ?_⟩
    have := (List.getElem?_eq_some_iff.1 h.1).1
    cases r with
    | nil => simp; omega
    | cons k' r => have := h2 (by simp); simp only [List.length_cons] at this ⊢; omega
def loadS (P : Program) (t : TypeId) (e : List D) (off : Nat) : SR V :=
  match aggOf P t with
  | none => .fail
  | some false => .one (e[off]? = some (viewD (ckOf P t) (e.getD off .nilp))) (.d (viewD (ckOf P t) (e.getD off .nilp)))
  | some true => .ck (Nat.beq (ckFlat P 12 t).length (szOf P t) && !(Nat.beq (szOf P t) 0)) (.one (viewOK (ckFlat P 12 t) e off) (.agg (viewL (ckFlat P 12 t) e off)))
theorem loadS_has {P : Program} {t : TypeId} {e : List D} {off : Nat} {v : V} (h : (loadS P t e off).Has v) : ∃ ag, aggOf P t = some ag ∧ loadD ag (szOf P t) e off = some v := by
  unfold loadS at h
  split at h
  · exact h.elim
  · rename_i hag
    refine ⟨false, hag, ?_⟩
    obtain ⟨h1, rfl⟩ := h
    simp only [loadD, cond_false, getD'_eq, h1, Option.map_some]
  · rename_i hag
    obtain ⟨h1, h2, rfl⟩ := SR.ck_has h
    simp only [Bool.and_eq_true, Bool.not_eq_true'] at h1
    have e1 := Nat.eq_of_beq_eq_true h1.1
    have e2 : szOf P t ≠ 0 := fun e => by rw [e] at h1; simp at h1
    obtain ⟨h3, h4⟩ := viewOK_take _ _ _ h2
    refine ⟨true, hag, ?_⟩
    have h5 := h4 (fun e => by rw [e] at e1; exact e2 e1.symm)
    rw [e1] at h3 h5
    simp only [loadD, cond_true]
    rw [if_pos ⟨e2, h5⟩, h3]

def intBinS (op : BinOp) (k : IntKind) (a b : Int) : SR D :=
  match op with
  | .quo => .one (b ≠ 0) (.int k (k.wrap (a.tdiv b)))
  | .rem => .one (b ≠ 0) (.int k (a.tmod b))
  | .shl => .one (0 ≤ b) (.int k (k.wrap (a * 2 ^ (min b.toNat k.bits))))
  | .shr => .one (0 ≤ b) (.int k (a / 2 ^ (min b.toNat k.bits)))
  | op => .of (intBinE op k a b)
theorem intBinS_has {op : BinOp} {k : IntKind} {a b : Int} {d : D} (h : (intBinS op k a b).Has d) : intBinE op k a b = some d := by
  unfold intBinS at h
  split at h
  · obtain ⟨h1, rfl⟩ := h; simp [intBinE, h1]
  · obtain ⟨h1, rfl⟩ := h; simp [intBinE, h1]
  · obtain ⟨h1, rfl⟩ := h; simp [intBinE, h1]
  · obtain ⟨h1, rfl⟩ := h; simp [intBinE, h1]
  · exact SR.of_has h
def strBinS (op : BinOp) (a b : List UInt8) : SR D :=
  match op with
  | .add => .one (a.length + b.length ≤ 9223372036854775807) (.str (a ++ b))
  | op => .of (strBinE op a b)
theorem strBinS_has {op : BinOp} {a b : List UInt8} {d : D} (h : (strBinS op a b).Has d) : strBinE op a b = some d := by
  unfold strBinS at h
  split at h
  · obtain ⟨h1, rfl⟩ := h; simp only [strBinE, if_pos h1]
  · exact SR.of_has h

def binS (P : Program) (op : BinOp) (t : TypeId) (x y : Operand) (hg : Nat → Option Blk) (a b : V) : SR (V × List Nat) :=
  match a, b with
  | .d (.int k m), .d (.int k' n) =>
    match op with
    | .shl | .shr => (intBinS op k m n).map fun d => (.d d, [])
    | _ => if k = k' then (intBinS op k m n).map fun d => (.d d, []) else .fail
  | .d (.str m), .d (.str n) => (strBinS op m n).map fun d => (.d d, [])
  | _, _ => .of (binE P op t x y hg a b)
theorem binS_has {P : Program} {op : BinOp} {t : TypeId} {x y : Operand} {hg : Nat → Option Blk} {a b : V} {p : V × List Nat} (h : (binS P op t x y hg a b).Has p) : binE P op t x y hg a b = some p := by
  unfold binS at h
  split at h
  · rename_i k m k' n
    split at h
    · obtain ⟨d, h1, rfl⟩ := SR.map_has _ h
      simp only [binE, intBinS_has h1, Option.map_some]
    · obtain ⟨d, h1, rfl⟩ := SR.map_has _ h
      simp only [binE, intBinS_has h1, Option.map_some]
    · rename_i hn1 hn2
      split at h
      · rename_i hk
        obtain ⟨d, h1, rfl⟩ := SR.map_has _ h
        have := intBinS_has h1
        cases op <;> first | exact absurd rfl hn1 | exact absurd rfl hn2 | simp only [binE, if_pos hk, this, Option.map_some]
      · exact h.elim
  · obtain ⟨d, h1, rfl⟩ := SR.map_has _ h
    simp only [binE, strBinS_has h1, Option.map_some]
  · exact SR.of_has h
end Go.Bv

namespace Go.Bv

def idxS (P : Program) (t : TypeId) (v : V) (n : Int) : SR V :=
  match elemOf' P t with
  | some e =>
    .ck (!(Nat.beq (szOf P e) 0)) (match v with
    | .d (.slice _ es) => .one (0 ≤ n ∧ n < es.length ∧ (es.getD n.toNat []).length = szOf P e) (.eptr (es.getD n.toNat []) 0)
    | .sref id len => .one (0 ≤ n ∧ n < len) (.rptr id (szOf P e) n.toNat 0)
    | .ssub id sz off len => .ck (Nat.beq sz (szOf P e)) (.one (0 ≤ n ∧ n < len) (.rptr id (szOf P e) (off + n.toNat) 0))
    | .bsl id sz off len cap => .ck (Nat.beq sz (szOf P e)) (.one (0 ≤ n ∧ n < len) (.ptr id ((off + n.toNat) * szOf P e)))
    | _ => .fail)
  | none => .fail
def sliceS (P : Program) (t : TypeId) (v : V) (lo : Int → Option Int) (hi : Int → Option Int) : SR V :=
  match v with
  | .d (.str s) => match lo 0, hi s.length with
    | some l, some h => .ck (isStr P t) (.one (0 ≤ l ∧ l ≤ h ∧ h ≤ s.length) (.d (.str ((s.take h.toNat).drop l.toNat))))
    | _, _ => .fail
  | .d (.slice nil es) => match elemOf' P t, lo 0, hi es.length with
    | some e, some l, some h => .ck (!(Nat.beq (szOf P e) 0)) (.one (0 ≤ l ∧ l ≤ h ∧ h ≤ es.length ∧ es.all (fun y => y.length == szOf P e) = true) (.d (.slice nil ((es.take h.toNat).drop l.toNat))))
    | _, _, _ => .fail
  | .sref id len => match elemOf' P t, lo 0, hi len with
    | some e, some l, some h => .ck (!(Nat.beq (szOf P e) 0)) (.one (0 ≤ l ∧ l ≤ h ∧ h ≤ len) (.ssub id (szOf P e) l.toNat (h.toNat - l.toNat)))
    | _, _, _ => .fail
  | .ssub id sz off len => match elemOf' P t, lo 0, hi len with
    | some e, some l, some h => .ck (Nat.beq sz (szOf P e) && !(Nat.beq (szOf P e) 0)) (.one (0 ≤ l ∧ l ≤ h ∧ h ≤ len) (.ssub id (szOf P e) (off + l.toNat) (h.toNat - l.toNat)))
    | _, _, _ => .fail
  | .bsl id sz off len cap => match elemOf' P t, lo 0, hi len with
    | some e, some l, some h => .ck (Nat.beq sz (szOf P e) && !(Nat.beq (szOf P e) 0)) (.one (0 ≤ l ∧ l ≤ h ∧ h ≤ len) (.bsl id (szOf P e) (off + l.toNat) (h.toNat - l.toNat) (cap - l.toNat)))
    | _, _, _ => .fail
  | _ => .fail

def qS (P : Program) (ρ : Operand → V) (hg : Nat → Option Blk) (op : Op) : SR (V × List Nat) :=
  match op with
  | .pick c x y => match ρ c with
    | .d (.bool b) => .br b (.ok (ρ x, [])) (.ok (ρ y, []))
    | _ => .fail
  | .load t x => match ρ x with
    | .eptr e off => (loadS P t e off).map fun v => (v, [])
    | .rptr id sz i off => match hg id with
      | some (.row sz' _ _ es) => .ck (Nat.beq sz' sz) ((SR.bind (fun _ => loadS P t (es.getD i []) off) (.one (i < es.length) ())).map fun v => (v, [id]))
      | _ => .fail
    | _ => .of (qE P ρ hg (.load t x))
  | .indexAddr t x i => match ρ i with
    | .d (.int _ n) => match arrOf P t with
      | some (m, e) => .ck (!(Nat.beq (szOf P e) 0)) (match addOff (ρ x) (n.toNat * szOf P e) with | some v => .one (0 ≤ n ∧ n < m) (v, []) | none => .fail)
      | none => (idxS P t (ρ x) n).map fun v => (v, [])
    | _ => .fail
  | .index t x i => match ρ x, ρ i with
    | .d (.str l), .d (.int _ n) => .ck (isStr P t) (.one (0 ≤ n ∧ n < l.length) (.d (.int .u8 ((l.getD n.toNat 0).toNat : Int)), []))
    | _, _ => .fail
  | .slice t x lo hi none => (sliceS P t (ρ x) (bndV ρ lo) (bndV ρ hi)).map fun v => (v, [])
  | .binOp op t x y _ => binS P op t x y hg (ρ x) (ρ y)
  | op => .of (qE P ρ hg op)

theorem nbeq_false {a b : Nat} (h : (!(Nat.beq a b)) = true) : a ≠ b := fun e => by subst e; simp at h

theorem qS_has {P : Program} {ρ : Operand → V} {hg : Nat → Option Blk} {op : Op} {p : V × List Nat} (h : (qS P ρ hg op).Has p) : qE P ρ hg op = some p := by
  unfold qS at h
  split at h
  · rename_i c x y
    split at h
    · rename_i b hb
      rcases h with ⟨rfl, rfl⟩ | ⟨rfl, rfl⟩
      · simp only [qE, hb, cond_true]
      · simp only [qE, hb, cond_false]
    · exact h.elim
  · rename_i t x
    split at h
    · rename_i e off hx
      obtain ⟨v, hv, rfl⟩ := SR.map_has _ h
      obtain ⟨ag, h1, h2⟩ := loadS_has hv
      simp only [qE, h1, hx, h2, Option.map_some]
    · rename_i id sz i off hx
      split at h
      · rename_i sz' fz nl es hb
        obtain ⟨h1, h2⟩ := SR.ck_has h
        have h1 := Nat.eq_of_beq_eq_true h1
        obtain ⟨v, hv, rfl⟩ := SR.map_has _ h2
        obtain ⟨_, h3, h4⟩ := SR.bind_has _ hv
        obtain ⟨ag, h5, h6⟩ := loadS_has h4
        simp only [qE, h5, hx, hb]
        rw [if_pos ⟨h1, h3.1⟩, h6]; rfl
      · exact h.elim
    · exact SR.of_has h
  · rename_i t x i
    split at h
    · rename_i k n hi
      split at h
      · rename_i m e ha
        obtain ⟨h1, h2⟩ := SR.ck_has h
        split at h2
        · rename_i v hv
          obtain ⟨h3, rfl⟩ := h2
          simp only [qE, hi, ha]
          rw [if_pos ⟨h3.1, h3.2, nbeq_false h1⟩, hv]; rfl
        · exact h2.elim
      · rename_i ha
        obtain ⟨v, hv, rfl⟩ := SR.map_has _ h
        unfold idxS at hv
        split at hv
        · rename_i e he
          obtain ⟨h1, h2⟩ := SR.ck_has hv
          simp only [qE, hi, ha, he]
          rw [if_pos (nbeq_false h1)]
          split at h2
          · rename_i nl es hx; obtain ⟨h3, rfl⟩ := h2; simp only [hx]; rw [if_pos h3]
          · rename_i id len hx; obtain ⟨h3, rfl⟩ := h2; simp only [hx]; rw [if_pos h3]
          · rename_i id sz off len hx
            obtain ⟨h4, h5⟩ := SR.ck_has h2
            obtain ⟨h3, rfl⟩ := h5
            simp only [hx]; rw [if_pos ⟨Nat.eq_of_beq_eq_true h4, h3.1, h3.2⟩]
          · rename_i id sz off len cap hx
            obtain ⟨h4, h5⟩ := SR.ck_has h2
            obtain ⟨h3, rfl⟩ := h5
            simp only [hx]; rw [if_pos ⟨Nat.eq_of_beq_eq_true h4, h3.1, h3.2⟩]
          · exact h2.elim
        · exact hv.elim
    · exact h.elim
  · rename_i t x i
    split at h
    · rename_i l k n hx hi
      obtain ⟨h1, h2, rfl⟩ := SR.ck_has h
      simp only [qE, hx, hi]
      rw [if_pos ⟨h1, h2.1, h2.2⟩]
    · exact h.elim
  · rename_i t x lo hi
    obtain ⟨v, hv, rfl⟩ := SR.map_has _ h
    unfold sliceS at hv
    split at hv
    · rename_i s hx
      split at hv
      · rename_i l h' hl hh
        obtain ⟨h1, h2, rfl⟩ := SR.ck_has hv
        simp only [qE, hx, hl, hh]
        rw [if_pos ⟨h1, h2.1, h2.2.1, h2.2.2⟩]
      · exact hv.elim
    · rename_i nl es hx
      split at hv
      · rename_i e l h' he hl hh
        obtain ⟨h1, h2, rfl⟩ := SR.ck_has hv
        simp only [qE, hx, he, hl, hh]
        rw [if_pos ⟨nbeq_false h1, h2.1, h2.2.1, h2.2.2.1, h2.2.2.2⟩]
      · exact hv.elim
    · rename_i id len hx
      split at hv
      · rename_i e l h' he hl hh
        obtain ⟨h1, h2, rfl⟩ := SR.ck_has hv
        simp only [qE, hx, he, hl, hh]
        rw [if_pos ⟨nbeq_false h1, h2.1, h2.2.1, h2.2.2⟩]
      · exact hv.elim
    · rename_i id sz off len hx
      split at hv
      · rename_i e l h' he hl hh
        obtain ⟨h1, h2, rfl⟩ := SR.ck_has hv
        simp only [Bool.and_eq_true] at h1
        simp only [qE, hx, he, hl, hh]
        rw [if_pos ⟨Nat.eq_of_beq_eq_true h1.1, nbeq_false h1.2, h2.1, h2.2.1, h2.2.2⟩]
      · exact hv.elim
    · rename_i id sz off len cap hx
      split at hv
      · rename_i e l h' he hl hh
        obtain ⟨h1, h2, rfl⟩ := SR.ck_has hv
        simp only [Bool.and_eq_true] at h1
        simp only [qE, hx, he, hl, hh]
        rw [if_pos ⟨Nat.eq_of_beq_eq_true h1.1, nbeq_false h1.2, h2.1, h2.2.1, h2.2.2⟩]
      · exact hv.elim
    · exact hv.elim
  · exact binS_has h
  · exact SR.of_has h

def slS (hg : Nat → Option Blk) (sz : Nat) : V → SR (List (List D) × List Nat)
  | .d (.slice _ es) => .one (es.all (fun e => e.length == sz) = true) (es, [])
  | .sref id n => match hg id with
    | some (.row sz' _ _ es) => .ck (Nat.beq sz' sz) (.one (n = es.length) (es, [id]))
    | _ => .fail
  | .ssub id sz' off len => match hg id with
    | some (.row sz'' _ _ es) => .ck (Nat.beq sz' sz && Nat.beq sz'' sz) (.one (off + len ≤ es.length) ((es.drop off).take len, [id]))
    | _ => .fail
  | v => .of (slOf hg sz v)
theorem slS_has {hg : Nat → Option Blk} {sz : Nat} {v : V} {p : List (List D) × List Nat} (h : (slS hg sz v).Has p) : slOf hg sz v = some p := by
  unfold slS at h
  split at h
  · obtain ⟨h1, rfl⟩ := h; simp only [slOf]; rw [if_pos h1]
  · split at h
    · rename_i hb
      obtain ⟨h1, h2, rfl⟩ := SR.ck_has h
      simp only [slOf, hb]; rw [if_pos ⟨Nat.eq_of_beq_eq_true h1, h2⟩]
    · exact h.elim
  · split at h
    · rename_i hb
      obtain ⟨h1, h2, rfl⟩ := SR.ck_has h
      simp only [Bool.and_eq_true] at h1
      simp only [slOf, hb]; rw [if_pos ⟨Nat.eq_of_beq_eq_true h1.1, Nat.eq_of_beq_eq_true h1.2, h2⟩]
    · exact h.elim
  · exact SR.of_has h
def isZero : Nat → Bool
  | 0 => true
  | _ + 1 => false
def frS (hg : Nat → Option Blk) : V → SR (D × List Nat)
  | .d x => .ok (x, [])
  | .sref id n => match hg id with
    | some (.row _ fz nil es) => .ck (!isZero fz) (.one (es.length < fz ∧ n = es.length) (.slice nil es, [id]))
    | _ => .fail
  | .ssub id sz' off len => match hg id with
    | some (.row sz fz nil es) => .ck (!isZero fz && Nat.beq sz' sz) (.one (es.length < fz ∧ off + len ≤ es.length) (.slice nil ((es.drop off).take len), [id]))
    | _ => .fail
  | .iface t v => (frS hg v).map fun p => (.iface t p.1, p.2)
  | v => .of (frD hg v)
theorem frS_has {hg : Nat → Option Blk} : ∀ (v : V) {p : D × List Nat}, (frS hg v).Has p → frD hg v = some p := by
  intro v
  induction v using frS.induct hg with
  | case1 x => intro p h; exact congrArg some h
  | case2 id n sz fz nl es hb =>
    intro p h
    simp only [frS, hb] at h
    obtain ⟨h1, h2, rfl⟩ := SR.ck_has h
    simp only [frD, hb]; rw [if_pos h2]
  | case3 id n hb => intro p h; unfold frS at h; split at h <;> first | exact h.elim | (rename_i hb'; exact absurd hb' (hb _ _ _ _))
  | case4 id sz' off len sz fz nl es hb =>
    intro p h
    simp only [frS, hb] at h
    obtain ⟨h1, h2, rfl⟩ := SR.ck_has h
    simp only [Bool.and_eq_true] at h1
    simp only [frD, hb]; rw [if_pos ⟨h2.1, Nat.eq_of_beq_eq_true h1.2, h2.2⟩]
  | case5 id sz' off len hb => intro p h; unfold frS at h; split at h <;> first | exact h.elim | (rename_i hb'; exact absurd hb' (hb _ _ _ _))
  | case6 t v ih =>
    intro p h
    simp only [frS] at h
    obtain ⟨q, h1, rfl⟩ := SR.map_has _ h
    simp only [frD, ih h1]
  | case7 v h1 h2 h3 h4 =>
    intro p h
    have : frS hg v = .of (frD hg v) := by
      cases v <;> first | exact absurd rfl (h1 _) | exact absurd rfl (h2 _ _) | exact absurd rfl (h3 _ _ _ _) | exact absurd rfl (h4 _ _) | rfl
    rw [this] at h
    exact SR.of_has h
def frsS (hg : Nat → Option Blk) : List V → SR (List D × List Nat)
  | [] => .ok ([], [])
  | v :: r => (frS hg v).bind fun p => (frsS hg r).map fun q => (p.1 :: q.1, napp p.2 q.2)
theorem frsS_has {hg : Nat → Option Blk} : ∀ (vs : List V) {p : List D × List Nat}, (frsS hg vs).Has p → frDs hg vs = some p
  | [], p, h => congrArg some h
  | v :: r, p, h => by
    obtain ⟨q, h1, h2⟩ := SR.bind_has _ h
    obtain ⟨q', h3, rfl⟩ := SR.map_has _ h2
    simp only [frDs, frS_has v h1, frsS_has r h3]
end Go.Bv

namespace Go.Bv

def storeS (hg : Nat → Option Blk) (id sz i off : Nat) (vs : List V) : SR Eff :=
  match hg id with
  | some (.row sz' fz nil es) =>
    .ck (Nat.beq sz' sz && Nat.ble (off + vs.length) sz) ((frsS hg vs).bind fun p =>
      bif Nat.beq off 0 && Nat.beq vs.length sz then
        .one (i < es.length ∧ fz ≤ i ∧ (es.getD i []).length = sz) { val := .junk, wr := [(id, .row sz fz nil (es.set i p.1))], rd := id :: p.2 }
      else
        .one (i < es.length ∧ fz ≤ i) { val := .junk, wr := [(id, .row sz fz nil (es.set i (setD (es.getD i []) off p.1)))], rd := id :: p.2 })
  | _ => .fail
def copyS (P : Program) (hg : Nat → Option Blk) (t : TypeId) (x y : V) : SR Eff :=
  match appTy P t with
  | some (_, sz, _) =>
    (slS hg sz y).bind fun p => match winS sz x with
      | some (id, off, len) => match hg id with
        | some (.row sz' fz nil es) => .ck (Nat.beq sz' sz)
            (.one (off + len ≤ es.length ∧ (fz ≤ off ∨ min p.1.length len = 0)) { val := .d (.int .i64 (min p.1.length len : Nat)), wr := [(id, .row sz fz nil (es.take off ++ p.1.take (min p.1.length len) ++ es.drop (off + min p.1.length len)))], rd := id :: p.2 })
        | _ => .fail
      | none => .fail
  | none => .fail
def appRowS (hg : Nat → Option Blk) (sz bytes base : Nat) (s : V) (es' : List (List D)) (rd' : List Nat) : SR Eff :=
  match rowS sz s with
  | some (old, n) => match hg old with
    | some (.row sz' fz nil es) => .ck (Nat.beq sz' sz) (.one (n ≤ es.length ∧ fz ≤ n ∧ (n + es'.length) * bytes ≤ 140737488355328 ∧ n + es'.length ≤ 9223372036854775807)
        { val := .sref base (n + es'.length), wr := [(old, .dead)], nw := [(base, .row sz fz false (es.take n ++ es'))], rd := old :: rd' })
    | _ => .fail
  | none => .fail
def appFullS (hg : Nat → Option Blk) (sz bytes base : Nat) (s : V) (es' : List (List D)) (rd' : List Nat) : SR Eff :=
  (slS hg sz s).bind fun p => .one ((p.1.length + es'.length) * bytes ≤ 140737488355328 ∧ p.1.length + es'.length ≤ 9223372036854775807)
    { val := .sref base (p.1.length + es'.length), nw := [(base, .row sz 0 false (p.1 ++ es'))], rd := napp p.2 rd' }
def appS (P : Program) (hg : Nat → Option Blk) (base : Nat) (t : TypeId) (s x : V) : SR Eff :=
  match appTy P t with
  | some (e, sz, bytes) =>
    (slS hg sz x).bind fun p =>
      .br p.1.isEmpty ((slS hg sz s).map fun q => { val := s, rd := napp q.2 p.2 })
        (match s with
        | .d (.slice nil _) => SR.bind (fun _ => appFullS hg sz bytes base s p.1 p.2) (.one (nil = true) ())
        | .emp0 _ => appFullS hg sz bytes base s p.1 p.2
        | .bsl _ _ _ len cap => .ck (len == cap) (appFullS hg sz bytes base s p.1 p.2)
        | s => appRowS hg sz bytes base s p.1 p.2)
  | none => .fail

def isM : Op → Bool
  | .box .. | .alloc .. | .buildSlice .. | .makeMap .. | .lookup .. | .insert .. | .mapUpdate .. | .mapEntry .. | .entryStore .. | .range .. => true
  | .call { callee := .builtin .clear, .. } => true
  | _ => false
def mS (P : Program) (ρ : Operand → V) (hg : Nat → Option Blk) (base : Nat) (op : Op) : SR Eff :=
  match op with
  | .store t x y => match ρ x, cellsV (ρ y) with
    | .rptr id sz i off, some vs => .ck (Nat.beq (szOf P t) vs.length && !(Nat.beq vs.length 0)) (storeS hg id sz i off vs)
    | _, _ => .of (mE P ρ hg base (.store t x y))
  | .makeSlice t l c => match appTy P t, ρ l, ρ c with
    | some (e, sz, bytes), .d (.int _ n), .d (.int _ m) => match zeroOf P e with
      | some z => match cellsV (constV z) with
        | some cs => match toDs cs with
          | some ds => .one (0 ≤ n ∧ n ≤ m ∧ (bytes : Int) * m ≤ 281474976710656 ∧ m ≤ 9223372036854775807) { val := .sref base n.toNat, nw := [(base, .row sz 0 false (List.replicate n.toNat ds))] }
          | none => .fail
        | none => .fail
      | none => .fail
    | _, _, _ => .fail
  | .call { callee := .builtin .copy, args := args, argTypes := ts } => match args.toList, ts.toList with
    | [x, y], [t, t'] => copyS P hg t (ρ x) (ρ y)
    | _, _ => .fail
  | .call { callee := .builtin .append, args := args, argTypes := ts } => match args.toList, ts.toList with
    | [s, x], [t, t'] => bif Nat.beq t t' then appS P hg base t (ρ s) (ρ x) else .of (mE P ρ hg base (.call { callee := .builtin .append, args := args, argTypes := ts }))
    | _, _ => .fail
  | .next it true => match ρ it with
    | .iter id => match hg id with
      | some (.siter l pos) => .br (decide (pos < l.length))
          (.ok { val := .tup [.d (.bool true), .d (.int .i64 pos), .d (.int .i32 (Utf8.decode ⟨l.toArray⟩ pos).1)], wr := [(id, .siter l (pos + (Utf8.decode ⟨l.toArray⟩ pos).2))], rd := [id] })
          (.ok { val := .tup [.d (.bool false)], rd := [id] })
      | _ => .fail
    | _ => .fail
  | op => bif isM op then .of (mE P ρ hg base op) else (qS P ρ hg op).map fun p => { val := p.1, rd := p.2 }

theorem setD_all : ∀ (e vs : List D), vs.length = e.length → setD e 0 vs = vs
  | [], [], _ => rfl
  | c :: e, v :: vs, h => by simp only [setD]; rw [setD_all e vs (by simpa using h)]
  | [], v :: vs, h => by simp at h
  | c :: e, [], h => by simp at h

theorem storeS_has {P : Program} {ρ : Operand → V} {hg : Nat → Option Blk} {base t id sz i off : Nat} {x y : Operand} {vs : List V} {e : Eff} (hx : ρ x = .rptr id sz i off) (hv : cellsV (ρ y) = some vs) (hsz : szOf P t = vs.length ∧ vs.length ≠ 0)
    (h : (storeS hg id sz i off vs).Has e) : mE P ρ hg base (.store t x y) = some e := by
  unfold storeS at h
  split at h
  · rename_i sz' fz nl es hb
    obtain ⟨h1, h2⟩ := SR.ck_has h
    simp only [Bool.and_eq_true] at h1
    have e1 := Nat.eq_of_beq_eq_true h1.1
    have e2 := Nat.le_of_ble_eq_true h1.2
    obtain ⟨p, h3, h4⟩ := SR.bind_has _ h2
    have h5 := frsS_has vs h3
    have key : ∀ es', i < es.length → fz ≤ i → es' = es.set i (setD (es.getD i []) off p.1) → mE P ρ hg base (.store t x y) = some { val := .junk, wr := [(id, .row sz fz nl es')], rd := id :: p.2 } := fun es' h6 h7 h8 => by
      subst h8
      have hes : es[i]? = some (es.getD i []) := by rw [List.getD_eq_getElem?_getD, List.getElem?_eq_getElem h6]; rfl
      simp only [mE, hv, hx, hb, h5]
      rw [if_pos hsz, hes]
      simp only
      rw [if_pos ⟨e1, h7, e2⟩, setE_eq]
    cases hc : (Nat.beq off 0 && Nat.beq vs.length sz) with
    | true =>
      rw [hc] at h4
      simp only [cond_true] at h4
      obtain ⟨⟨h6, h7, h8⟩, rfl⟩ := h4
      simp only [Bool.and_eq_true] at hc
      have e3 := Nat.eq_of_beq_eq_true hc.1
      have e4 := Nat.eq_of_beq_eq_true hc.2
      subst e3
      refine key _ h6 h7 ?_
      rw [setD_all _ _ (by rw [(frDs_get _ _ _ h5).1, e4, h8])]
    | false =>
      rw [hc] at h4
      simp only [cond_false] at h4
      obtain ⟨⟨h6, h7⟩, rfl⟩ := h4
      exact key _ h6 h7 rfl
  · exact h.elim

theorem appFullS_has {hg : Nat → Option Blk} {sz bytes base : Nat} {s : V} {es' : List (List D)} {rd' : List Nat} {e : Eff} (h : (appFullS hg sz bytes base s es' rd').Has e) :
    ∃ es rd, slOf hg sz s = some (es, rd) ∧ ((es.length + es'.length) * bytes ≤ 140737488355328 ∧ es.length + es'.length ≤ 9223372036854775807) ∧
      e = { val := .sref base (es.length + es'.length), nw := [(base, .row sz 0 false (es ++ es'))], rd := napp rd rd' } := by
  obtain ⟨p, h1, h2, rfl⟩ := SR.bind_has _ h
  exact ⟨p.1, p.2, slS_has h1, h2, rfl⟩
theorem appS_has {P : Program} {ρ : Operand → V} {hg : Nat → Option Blk} {base t t' : Nat} {s x : Operand} {args : Array Operand} {ts : Array TypeId} {e : Eff} (ha : args.toList = [s, x]) (ht : ts.toList = [t, t']) (htt : t = t')
    (h : (appS P hg base t (ρ s) (ρ x)).Has e) : mE P ρ hg base (.call { callee := .builtin .append, args := args, argTypes := ts }) = some e := by
  simp only [mE, ha, ht]
  rw [if_pos htt]
  unfold appS at h
  split at h
  · rename_i el sz bytes hap
    obtain ⟨p, h1, h2⟩ := SR.bind_has _ h
    obtain ⟨es', rd'⟩ := p
    rw [hap]; simp only [slS_has h1]
    rcases h2 with ⟨hemp, h2⟩ | ⟨hemp, h2⟩
    · obtain ⟨q, h3, rfl⟩ := SR.map_has _ h2
      simp only at hemp
      simp only [hemp, if_pos, slS_has h3]
    · simp only at hemp
      rw [hemp]
      simp only [Bool.false_eq_true, if_false]
      have full : fullS (ρ s) = true → (appFullS hg sz bytes base (ρ s) es' rd').Has e → (if fullS (ρ s) = true then match slOf hg sz (ρ s) with
          | some (es, rd) => if (es.length + es'.length) * bytes ≤ 140737488355328 ∧ es.length + es'.length ≤ 9223372036854775807 then some { val := .sref base (es.length + es'.length), nw := [(base, .row sz 0 false (es ++ es'))], rd := napp rd rd' } else none
          | none => none
        else match rowS sz (ρ s) with
          | some (old, n) => match hg old with
            | some (.row sz' fz nil es) => if sz' = sz ∧ n ≤ es.length ∧ fz ≤ n ∧ (n + es'.length) * bytes ≤ 140737488355328 ∧ n + es'.length ≤ 9223372036854775807 then
                some { val := .sref base (n + es'.length), wr := [(old, .dead)], nw := [(base, .row sz fz false (es.take n ++ es'))], rd := old :: rd' } else none
            | _ => none
          | none => none : Option Eff) = some e := fun hf hh => by
        obtain ⟨es, rd, h3, h4, rfl⟩ := appFullS_has hh
        rw [if_pos hf, h3]; simp only; rw [if_pos h4]
      have rowc : fullS (ρ s) = false → (appRowS hg sz bytes base (ρ s) es' rd').Has e → (if fullS (ρ s) = true then match slOf hg sz (ρ s) with
          | some (es, rd) => if (es.length + es'.length) * bytes ≤ 140737488355328 ∧ es.length + es'.length ≤ 9223372036854775807 then some { val := .sref base (es.length + es'.length), nw := [(base, .row sz 0 false (es ++ es'))], rd := napp rd rd' } else none
          | none => none
        else match rowS sz (ρ s) with
          | some (old, n) => match hg old with
            | some (.row sz' fz nil es) => if sz' = sz ∧ n ≤ es.length ∧ fz ≤ n ∧ (n + es'.length) * bytes ≤ 140737488355328 ∧ n + es'.length ≤ 9223372036854775807 then
                some { val := .sref base (n + es'.length), wr := [(old, .dead)], nw := [(base, .row sz fz false (es.take n ++ es'))], rd := old :: rd' } else none
            | _ => none
          | none => none : Option Eff) = some e := fun hf hh => by
        rw [hf]
        simp only [Bool.false_eq_true, if_false]
        unfold appRowS at hh
        split at hh
        · rename_i old n hr
          split at hh
          · rename_i sz' fz nl es hb
            obtain ⟨h3, h4, rfl⟩ := SR.ck_has hh
            try simp only [hr, hb]
            rw [if_pos ⟨Nat.eq_of_beq_eq_true h3, h4⟩]
          · exact hh.elim
        · exact hh.elim
      split at h2
      · rename_i nl es hs
        obtain ⟨_, h3, h4⟩ := SR.bind_has _ h2
        obtain ⟨rfl, _⟩ := h3
        refine full (by rw [hs]; rfl) h4
      · rename_i nl hs
        exact full (by rw [hs]; rfl) h2
      · rename_i id sz2 off len cap hs
        obtain ⟨h3, h4⟩ := SR.ck_has h2
        exact full (by rw [hs]; exact h3) h4
      · rename_i hn1 hn2 hn3
        refine rowc ?_ h2
        generalize ρ s = v at hn1 hn2 hn3
        cases v with
        | d x => cases x <;> first | exact absurd rfl (hn1 _ _) | rfl
        | emp0 nl => exact absurd rfl (hn2 _)
        | bsl => exact absurd rfl (hn3 _ _ _ _ _)
        | _ => rfl
  · exact h.elim
theorem copyS_has {P : Program} {ρ : Operand → V} {hg : Nat → Option Blk} {base t t' : Nat} {x y : Operand} {args : Array Operand} {ts : Array TypeId} {e : Eff} (ha : args.toList = [x, y]) (ht : ts.toList = [t, t'])
    (h : (copyS P hg t (ρ x) (ρ y)).Has e) : mE P ρ hg base (.call { callee := .builtin .copy, args := args, argTypes := ts }) = some e := by
  simp only [mE, ha, ht]
  unfold copyS at h
  split at h
  · rename_i el sz bytes hap
    obtain ⟨p, h1, h2⟩ := SR.bind_has _ h
    obtain ⟨es', rd'⟩ := p
    rw [hap]; simp only [slS_has h1]
    split at h2
    · rename_i id off len hw
      split at h2
      · rename_i sz' fz nl es hb
        obtain ⟨h3, h4, rfl⟩ := SR.ck_has h2
        try simp only [hw, hb]
        rw [if_pos ⟨Nat.eq_of_beq_eq_true h3, h4⟩]
      · exact h2.elim
    · exact h2.elim
  · exact h.elim

theorem mS_has {P : Program} {ρ : Operand → V} {hg : Nat → Option Blk} {base : Nat} {op : Op} {e : Eff} (h : (mS P ρ hg base op).Has e) : mE P ρ hg base op = some e := by
  unfold mS at h
  split at h
  · rename_i t x y
    split at h
    · rename_i id sz i off vs hx hv
      obtain ⟨h1, h2⟩ := SR.ck_has h
      simp only [Bool.and_eq_true] at h1
      exact storeS_has hx hv ⟨Nat.eq_of_beq_eq_true h1.1, nbeq_false h1.2⟩ h2
    · exact SR.of_has h
  · rename_i t l c
    split at h
    · rename_i el sz bytes k n k' m hap hl hc
      split at h
      · rename_i z hz
        split at h
        · rename_i cs hcs
          split at h
          · rename_i ds hds
            obtain ⟨h1, rfl⟩ := h
            simp only [mE, hap, hl, hc, hz, hcs, hds]
            rw [if_pos h1, repE_eq]
          · exact h.elim
        · exact h.elim
      · exact h.elim
    · exact h.elim
  · rename_i args ts
    split at h
    · rename_i x y t t' ha ht; exact copyS_has ha ht h
    · exact h.elim
  · rename_i args ts
    split at h
    · rename_i s x t t' ha ht
      cases hb : Nat.beq t t' with
      | true => rw [hb] at h; exact appS_has ha ht (Nat.eq_of_beq_eq_true hb) h
      | false => rw [hb] at h; exact SR.of_has h
    · exact h.elim
  · rename_i it
    split at h
    · rename_i id hi
      split at h
      · rename_i l pos hb
        rcases h with ⟨h1, rfl⟩ | ⟨h1, rfl⟩
        · have := of_decide_eq_true h1
          simp only [mE, hi, hb]; rw [if_pos this]
        · have := of_decide_eq_false h1
          simp only [mE, hi, hb]; rw [if_neg this]
      · exact h.elim
    · exact h.elim
  · rename_i h1 h2 h3 h4 h5
    cases hm : isM op with
    | true => rw [hm] at h; exact SR.of_has h
    | false =>
      rw [hm] at h
      obtain ⟨p, h6, rfl⟩ := SR.map_has _ h
      have h7 := qS_has h6
      have h8 : mE P ρ hg base op = (qE P ρ hg op).map fun p => { val := p.1, rd := p.2 } := by
        unfold mE
        split <;> first | rfl | exact absurd rfl (h1 _ _ _) | exact absurd rfl (h2 _ _ _) | exact absurd rfl (h3 _ _) | exact absurd rfl (h4 _ _) | exact absurd rfl (h5 _) | (simp [isM] at hm)
      rw [h8, h7]; rfl

def stepS0 (P : Program) (tm : List (Nat × V)) (hp : List (Nat × Blk)) (base : Nat) (op : Op) : SR Eff :=
  match mS P (evalV tm) (hget hp) base op with
  | .fail => match rowArg op with
    | some y => match frzV 1000 hp (evalV tm y) with
      | some (F, rd) => (mS P (evalV tm) (hget (hsets hp F)) base op).map fun e => { val := e.val, wr := happ F e.wr, nw := e.nw, rd := napp rd e.rd }
      | none => .fail
    | none => .fail
  | x => x
theorem stepS0_ok {P : Program} {ops : Array Oper} {o : Oper} {T : VS} {base : Nat} {e : Eff} (hd : ∀ d, o.dst = some d → d < T.N) (hnd : ∀ c, o.op ≠ .defer c) (h : (stepS0 P T.tm T.hp base o.op).Has e) : StepOK P ops o e T := by
  unfold stepS0 at h
  split at h
  · split at h
    · rename_i y hy
      split at h
      · rename_i F rd hF
        obtain ⟨e', h1, rfl⟩ := SR.map_has _ h
        exact StepOK.frz ((frz_ok 1000).1 _ _ _ _ hF) (mE_ok (T := { T with hp := hsets T.hp F }) hd hnd (mS_has h1))
      · exact h.elim
    · exact h.elim
  · exact mE_ok hd hnd (mS_has h)

def stepBS (P : Program) (ρ : Operand → V) (hg : Nat → Option Blk) (base : Nat) : Op → SR Eff
  | .convert s t x => match ρ x with
    | .d (.str l) => match elemOf' P t with
      | some e => .ck (isStr P s && isU8 P e) (.ok { val := .sref base l.length, nw := [(base, .brow l)] })
      | none => .fail
    | .sref id n => match hg id with
      | some (.brow l) => match elemOf' P s with
        | some e => .ck (isU8 P e && isStr P t) (.one (n = l.length) { val := .d (.str l), rd := [id] })
        | none => .fail
      | _ => .fail
    | _ => .fail
  | .load t x => match ρ x with
    | .rptr id 1 i 0 => match hg id with
      | some (.brow l) => match aggOf P t with
        | some false => .one (i < l.length) { val := .d (.int .u8 ((l.getD i 0).toNat : Int)), rd := [id] }
        | _ => .fail
      | _ => .fail
    | _ => .fail
  | .store t x y => match ρ x with
    | .rptr id 1 i 0 => match hg id with
      | some (.brow l) => match ρ y with
        | .d (.int .u8 n) => .ck (Nat.beq (szOf P t) 1) (.one (i < l.length ∧ 0 ≤ n ∧ n < 256) { val := .junk, wr := [(id, .brow (l.set i (UInt8.ofNat n.toNat)))], rd := [id] })
        | _ => .fail
      | _ => .fail
    | _ => .fail
  | _ => .fail
theorem stepBS_has {P : Program} {ρ : Operand → V} {hg : Nat → Option Blk} {base : Nat} {op : Op} {e : Eff} (h : (stepBS P ρ hg base op).Has e) : stepB P ρ hg base op = some e := by
  unfold stepBS at h
  split at h
  · split at h
    · rename_i l hx
      split at h
      · rename_i e' he
        obtain ⟨h1, rfl⟩ := SR.ck_has h
        simp only [Bool.and_eq_true] at h1
        simp only [stepB, hx, he]; rw [if_pos h1]
      · exact h.elim
    · rename_i id n hx
      split at h
      · rename_i l hb
        split at h
        · rename_i e' he
          obtain ⟨h1, h2, rfl⟩ := SR.ck_has h
          simp only [Bool.and_eq_true] at h1
          simp only [stepB, hx, hb, he]; rw [if_pos ⟨h1.1, h1.2, h2⟩]
        · exact h.elim
      · exact h.elim
    · exact h.elim
  · split at h
    · rename_i id i hx
      split at h
      · rename_i l hb
        split at h
        · rename_i ht
          obtain ⟨h2, rfl⟩ := h
          simp only [stepB, hx, hb, ht, List.getElem?_eq_getElem h2, List.getD_eq_getElem?_getD, Option.getD_some]
        · exact h.elim
      · exact h.elim
    · exact h.elim
  · split at h
    · rename_i id i hx
      split at h
      · rename_i l hb
        split at h
        · rename_i n hy
          obtain ⟨h1, h2, rfl⟩ := SR.ck_has h
          have h1 := Nat.eq_of_beq_eq_true h1
          simp only [stepB, hx, hy, hb]; rw [if_pos ⟨h2.1, h1, h2.2⟩]
        · exact h.elim
      · exact h.elim
    · exact h.elim
  · exact h.elim
def stepS (P : Program) (tm : List (Nat × V)) (hp : List (Nat × Blk)) (base : Nat) (op : Op) : SR Eff :=
  match stepBS P (evalV tm) (hget hp) base op with
  | .fail => stepS0 P tm hp base op
  | x => x
theorem stepS_ok {P : Program} {ops : Array Oper} {o : Oper} {T : VS} {base : Nat} {e : Eff} (hd : ∀ d, o.dst = some d → d < T.N) (hnd : ∀ c, o.op ≠ .defer c) (h : (stepS P T.tm T.hp base o.op).Has e) : StepOK P ops o e T := by
  unfold stepS at h
  split at h
  · exact stepS0_ok hd hnd h
  · exact stepB_ok hd hnd (stepBS_has h)
end Go.Bv

namespace Go.Bv

abbrev KC := V → List Blk → List Nat → Prop
abbrev FSpec := List V → List Blk → KC → Prop
def FOK2 (P : Program) (f : FuncId) (sp : FSpec) : Prop := ∀ args H K, sp args H K → ∃ r H' ch, VSpec P f args H r H' ∧ K r H' ch
abbrev SX := FuncId → Option FSpec
def XOK (P : Program) (X : SX) : Prop := ∀ f sp, X f = some sp → FOK2 P f sp

section
variable (P : Program) (X : SX) (inl : FuncId → FSpec)

def keptB (hp : List (Nat × Blk)) (R : List Nat) (H' : List Blk) (ch : List Nat) : Nat → List Nat → Prop
  | _, [] => True
  | j, id :: r => bif memN j ch then keptB hp R H' ch (j + 1) r
    else bif okB R ((hget hp id).getD .dead) then (H'[j]? = some (mapB (idx R) ((hget hp id).getD .dead)) ∧ keptB hp R H' ch (j + 1) r) else False
def backS (draw : Bool) (hp : List (Nat × Blk)) (base : Nat) (R : List Nat) (r : V) (H' : List Blk) (ch : List Nat) (K : Eff → Prop) : Prop :=
  bif Nat.ble (H'.length - R.length) 16 && Nat.ble R.length H'.length && nodupB R && allIn hp R && (rangeFrom base (H'.length - R.length)).all (fun i => !memN i R) then
    (bif draw then keptB hp R H' ch 0 R ∧ K (callEff R base (fun j => memN j ch) r H') else K (callEff R base (fun _ => true) r H'))
  else False
def callS (draw : Bool) (hp : List (Nat × Blk)) (base : Nat) (f : FuncId) (vs : List V) (K : Eff → Prop) : Prop :=
  (match X f with | some sp => sp | none => inl f) (mapL (idx (reach hp 100000 (refsL vs) [])) vs) (subH hp (reach hp 100000 (refsL vs) []) (reach hp 100000 (refsL vs) []))
    (fun r H' ch => backS draw hp base (reach hp 100000 (refsL vs) []) r H' ch K)
def opS (draw : Bool) (o : Oper) (base : Nat) (s : VS) (K : Eff → Prop) : Prop :=
  match o.op with
  | .call { callee := .value fx, args := args, argTypes := _ } =>
    match evalV s.tm fx with
    | .fn (.func f) first cap => bif callable P f then callS X inl draw s.hp base f (first ++ args.toList.map (evalV s.tm) ++ cap) K else False
    | _ => False
  | .defer _ => False
  | op => (stepS P s.tm s.hp base op).P K

def repT : List (Nat × V) → Nat → V → List (Nat × V)
  | [], _, _ => []
  | (k, v) :: r, t, x => bif k == t then (k, x) :: r else (k, v) :: repT r t x
def setB (s : VS) (t : Nat) (b : Bool) : VS := { s with tm := repT s.tm t (.d (.bool b)) }
def dueP (ops : Array Oper) (o : Oper) (s : VS) (yes no : VS → Prop) : Prop :=
  match o.guard with
  | none => yes s
  | some (j, want) => match guardTmp ops j with
    | some t => match lk s.tm t with
      | .d (.bool b) => bif want then (bif b then yes (setB s t true) else no (setB s t false)) else (bif b then no (setB s t true) else yes (setB s t false))
      | .tup [] => no s
      | _ => False
    | none => False
def opsP (draw : Bool) (ops : Array Oper) : List Oper → Nat → VS → List Rec → List Nat → (VS → List Rec → List Nat → Prop) → Prop
  | [], i, s, acc, W, K => bif ltAll (s.nx + 16 * i) s.us then K s acc W else False
  | o :: r, i, s, acc, W, K =>
    bif dstOK o s.N then
      dueP ops o s
        (fun s => opS P X inl draw o (s.nx + 16 * i) s fun e => bif freshAll s.nx s.us e.nw then opsP draw ops r (i + 1) (s.app o e) (bif draw then ⟨i, o, .run e, s⟩ :: acc else acc) (napp (pfst e.wr) W) K else False)
        (fun s => opsP draw ops r (i + 1) (s.put o.dst (.tup [])) (bif draw then ⟨i, o, .skip, s⟩ :: acc else acc) W K)
    else False
def regP (draw : Bool) (ops : Array Oper) (s : VS) (W : List Nat) (K : VS → List Nat → Prop) : Prop :=
  opsP P X inl draw ops ops.toList 0 s [] W fun s' recs W' => bif !draw || chk2 P ops recs.reverse then K (s'.close ops.size).comp W' else False

def VWn (na : Nat) (rv : Option Nat) (c : Code) (s : VS) (Q : Exit → VS → Prop) : Prop :=
  ∀ (E : Ent) (g : Gh) (a : Act) (w : World) (n : Nat) (ro : Option Nat), E.na = na → RoOK E rv ro → na ≤ s.nx → Inv E g s a w →
    c.wpIn (rF ro) n P (fun e a' w' => ∃ g' s', Q e s' ∧ na ≤ s'.nx ∧ Inv E g' s' a' w') a w
abbrev LoopT := VS → List Nat → (Exit → VS → List Nat → Prop) → Prop
def Is (e : Exit) (s : VS) (e' : Exit) (s' : VS) : Prop := e' = e ∧ s' = s
def LoopOK (na : Nat) (rv : Option Nat) (b : Code) (T : LoopT) : Prop := ∀ s W Q, T s W Q → ∃ e s' W', VWn P na rv (.loop b) s (Is e s') ∧ Q e s' W'

def unroll (body : VS → List Nat → (Exit → VS → List Nat → Prop) → Prop) : Nat → VS → List Nat → (Exit → VS → List Nat → Prop) → Prop
  | 0, _, _, _ => False
  | k + 1, s, W, Q => body s W fun e s' W' => match e with | .normal => unroll body k s' W' Q | e => Q e s' W'
def setC (s : VS) (c : Operand) (b : Bool) : VS := match c with | .tmp t => setB s t b | _ => s
def codeP (na : Nat) (rv : Option Nat) (L : Nat → Option LoopT) : Code → Nat → VS → List Nat → (Exit → VS → List Nat → Prop) → Prop
  | .skip, _, s, W, Q => Q .normal s W
  | .label _, _, s, W, Q => Q .normal s W
  | .exit id, _, s, W, Q => Q (.exit id) s W
  | .goto l, _, s, W, Q => Q (.goto l) s W
  | .ret, _, s, W, Q => Q .ret s W
  | .region _ ops draw, _, s, W, Q => regP P X inl draw ops s W fun s' W' => Q .normal s' W'
  | .seq a b, p, s, W, Q => codeP na rv L a (2 * p) s W fun e s' W' => match e with | .normal => codeP na rv L b (2 * p + 1) s' W' Q | e => Q e s' W'
  | .cond c a b, p, s, W, Q => match evalV s.tm c with
    | .d (.bool v) => bif v then codeP na rv L a (2 * p) (setC s c true) W Q else codeP na rv L b (2 * p + 1) (setC s c false) W Q
    | _ => False
  | .block id b, p, s, W, Q => codeP na rv L b (2 * p) s W fun e s' W' => match e with | .exit id' => bif Nat.beq id' id then Q .normal s' W' else Q (.exit id') s' W' | e => Q e s' W'
  | .loop b, p, s, W, Q => match L p with
    | some T => LoopOK P na rv b T ∧ T s W Q
    | none => unroll (fun s W Q => codeP na rv L b (2 * p) s W Q) 64 s W Q
  | _, _, _, _, _ => False
def ltF (n : Nat) : List Nat → List Nat
  | [] => []
  | i :: r => bif Nat.blt i n then (bif memN i r then ltF n r else i :: ltF n r) else ltF n r
def bodyP (L : Nat → Option LoopT) (f : FuncId) : FSpec := fun args H K =>
  match P.funcs[f]? with
  | some fn => match fn.body with
    | some c => bif Nat.ble args.length fn.ntmps then
        codeP P X inl H.length none L c 1 { tm := enumV 0 args, hp := enumB 0 H, nx := H.length, us := [], N := fn.ntmps } [] fun e s' W => match e with
          | .ret | .normal => match resE P fn s' with
            | some r => match canon H.length r s'.hp with
              | some p => K p.1 p.2 (ltF H.length W)
              | none => False
            | none => False
          | _ => False
      else False
    | none => False
  | none => False
end
def inlN (P : Program) (X : SX) (LL : FuncId → Nat → Option LoopT) : Nat → FuncId → FSpec
  | 0, _ => fun _ _ _ => False
  | n + 1, f => bodyP P X (inlN P X LL n) (LL f) f

variable {P : Program} {X : SX} {inl : FuncId → FSpec}
theorem keptB_spec {hp : List (Nat × Blk)} {R0 : List Nat} {H' : List Blk} {ch : List Nat} : ∀ (R : List Nat) (j0 : Nat), keptB hp R0 H' ch j0 R → ∀ (j id : Nat), R[j]? = some id → memN (j0 + j) ch = false →
    H'[j0 + j]? = some (mapB (idx R0) ((hget hp id).getD .dead)) ∧ okB R0 ((hget hp id).getD .dead) = true := by
  intro R
  induction R with
  | nil => intro j0 _ j id h; simp at h
  | cons i r ih =>
    intro j0 h j id hj hm
    simp only [keptB] at h
    cases j with
    | zero =>
      simp only [List.getElem?_cons_zero, Option.some.injEq] at hj
      subst hj
      simp only [Nat.add_zero] at hm ⊢
      rw [hm] at h
      simp only [cond_false] at h
      cases hok : okB R0 ((hget hp i).getD .dead) with
      | false => rw [hok] at h; exact h.elim
      | true => rw [hok] at h; exact ⟨h.1, rfl⟩
    | succ j =>
      have hj' : r[j]? = some id := by simpa using hj
      have e : j0 + 1 + j = j0 + (j + 1) := by omega
      have h' : keptB hp R0 H' ch (j0 + 1) r := by
        cases hm0 : memN j0 ch with
        | true => rw [hm0] at h; exact h
        | false =>
          rw [hm0] at h
          simp only [cond_false] at h
          cases hok : okB R0 ((hget hp i).getD .dead) with
          | false => rw [hok] at h; exact h.elim
          | true => rw [hok] at h; exact h.2
      have := ih (j0 + 1) h' j id hj' (by rw [e]; exact hm)
      rw [e] at this; exact this

theorem opS_ok {ops : Array Oper} {o : Oper} (hX : XOK P X) (hI : ∀ f, FOK2 P f (inl f)) {draw : Bool} {base : Nat} {s : VS} {K : Eff → Prop} (hd : ∀ d, o.dst = some d → d < s.N) (h : opS P X inl draw o base s K) : ∃ e, StepOK P ops o e s ∧ K e := by
  unfold opS at h
  split at h
  · rename_i fx args ts ho
    split at h
    · rename_i f first cap hf
      cases hc : callable P f with
      | false => rw [hc] at h; exact h.elim
      | true =>
        rw [hc] at h
        simp only [cond_true] at h
        unfold callS at h
        generalize hR : reach s.hp 100000 (refsL (first ++ args.toList.map (evalV s.tm) ++ cap)) [] = R at h
        have hsp : FOK2 P f (match X f with | some sp => sp | none => inl f) := by
          cases hx : X f with
          | none => exact hI f
          | some sp => exact hX f sp hx
        obtain ⟨r, H', ch, hv, hb⟩ := hsp _ _ _ h
        unfold backS at hb
        cases hcc : (Nat.ble (H'.length - R.length) 16 && Nat.ble R.length H'.length && nodupB R && allIn s.hp R && (rangeFrom base (H'.length - R.length)).all (fun i => !memN i R)) with
        | false => rw [hcc] at hb; exact hb.elim
        | true =>
          rw [hcc] at hb
          simp only [cond_true] at hb
          simp only [Bool.and_eq_true, List.all_eq_true, Bool.not_eq_true'] at hcc
          obtain ⟨⟨⟨⟨h1, h2⟩, h3⟩, h4⟩, h5⟩ := hcc
          have hno : ∀ i, i < H'.length - R.length → base + i ∉ R := fun i hi hm => by
            have := h5 (base + i) (List.mem_of_getElem? (i := i) (by rw [rangeFrom_get, if_pos hi]))
            rw [(memN_spec _ _).2 hm] at this; cases this
          cases draw with
          | false =>
            simp only [cond_false] at hb
            exact ⟨_, step_call (callAt ho rfl hf hc) hd (nodupB_spec R h3) (allIn_spec s.hp R h4) hv (fun j id hj hch => by cases hch) hno, hb⟩
          | true =>
            simp only [cond_true] at hb
            refine ⟨_, step_call (callAt ho rfl hf hc) hd (nodupB_spec R h3) (allIn_spec s.hp R h4) hv (fun j id hj hch => ?_) hno, hb.2⟩
            have := keptB_spec R 0 hb.1 j id hj (by simpa using hch)
            rw [Nat.zero_add] at this
            rw [subH_get, hj]
            exact this
    · exact h.elim
  · exact h.elim
  · rename_i hno1 hno2
    obtain ⟨e, h1, h2⟩ := SR.P_has _ h
    exact ⟨e, stepS_ok hd (fun c e => hno2 c e) h1, h2⟩

def OpsOK (P : Program) (draw : Bool) (ops : Array Oper) (l : List Oper) (i : Nat) (s : VS) (acc : List Rec) (sn : VS) (out : List Rec) : Prop :=
  (∀ j, j ∈ sn.us → j < sn.nx + 16 * (i + l.length)) ∧ (draw = true → (∃ new, out.reverse = acc.reverse ++ new ∧ ∀ (k : Nat) (r : Rec), new[k]? = some r → r.i = i + k) ∧ out.length = acc.length + l.length) ∧
    ∀ (A : Nat → VS → Prop) (accI : List Itm) (K : VS → Prop), (draw = true → accI = acc.map (·.itm A)) → (draw = true → ∀ r, r ∈ out → AltOK P ops A r) → (draw = true → Pairs ops (out.reverse.map (·.itm A))) → (draw = false → ∀ j, ∀ T, ¬ A j T) → K (sn.close (i + l.length)) → VO P ops draw l i s accI K

theorem repT_same (t : Nat) (x : V) : ∀ tm : List (Nat × V), lk tm t = x → repT tm t x = tm
  | [], _ => rfl
  | (k, v) :: r, h => by
    rw [lk_cons] at h
    by_cases e : k = t
    · subst e
      rw [if_pos rfl] at h
      subst h
      simp [repT]
    · rw [if_neg e] at h
      simp only [repT, beq_ne e, cond_false]
      rw [repT_same t x r h]
theorem setB_same {s : VS} {t : Nat} {b : Bool} (h : lk s.tm t = .d (.bool b)) : setB s t b = s := by
  unfold setB; rw [repT_same t _ _ h]
theorem setC_same {s : VS} {c : Operand} {b : Bool} (h : evalV s.tm c = .d (.bool b)) : setC s c b = s := by
  cases c with
  | tmp t => exact setB_same h
  | _ => rfl
theorem dueP_ok {ops : Array Oper} {o : Oper} {s : VS} {yes no : VS → Prop} (h : dueP ops o s yes no) : (Due ops o s ∧ yes s) ∨ (NotDue ops o s ∧ no s) := by
  unfold dueP at h
  split at h
  · rename_i hg; exact .inl ⟨fun j want e => (by rw [hg] at e; cases e), h⟩
  · rename_i j want hg
    split at h
    · rename_i t ht
      split at h
      · rename_i b hb
        have key : (b = want ∧ yes s) ∨ (b = !want ∧ no s) := by
          cases want <;> cases b <;> first | exact .inl ⟨rfl, by simpa [setB_same hb] using h⟩ | exact .inr ⟨rfl, by simpa [setB_same hb] using h⟩
        rcases key with ⟨rfl, hy⟩ | ⟨rfl, hn⟩
        · exact .inl ⟨fun j' want' e => (by rw [hg] at e; cases e; exact ⟨t, ht, hb⟩), hy⟩
        · exact .inr ⟨⟨j, want, t, hg, ht, .inl hb⟩, hn⟩
      · rename_i hb
        exact .inr ⟨⟨j, want, t, hg, ht, .inr hb⟩, h⟩
      · exact h.elim
    · exact h.elim

theorem opsP_ok (hX : XOK P X) (hI : ∀ f, FOK2 P f (inl f)) {draw : Bool} {ops : Array Oper} : ∀ (l : List Oper) (i : Nat) (s : VS) (acc : List Rec) (W : List Nat) (K : VS → List Rec → List Nat → Prop), opsP P X inl draw ops l i s acc W K →
    ∃ sn out W', OpsOK P draw ops l i s acc sn out ∧ K sn out W' := by
  intro l
  induction l with
  | nil =>
    intro i s acc W K h
    simp only [opsP] at h
    cases hl : ltAll (s.nx + 16 * i) s.us with
    | false => rw [hl] at h; exact h.elim
    | true =>
      rw [hl] at h
      have hlt := ltAll_spec _ hl
      refine ⟨s, acc, W, ⟨by simpa using hlt, fun _ => ⟨⟨[], by simp, fun k r h => by simp at h⟩, by simp⟩, fun A accI K h1 h2 h3 _ h4 => .done (fun hdr => ?_) hlt (by simpa using h4)⟩, h⟩
      have := h3 hdr
      rw [h1 hdr, ← List.map_reverse]; exact this
  | cons o l ih =>
    intro i s acc W K h
    simp only [opsP] at h
    cases hdst : dstOK o s.N with
    | false => rw [hdst] at h; exact h.elim
    | true =>
      rw [hdst] at h
      simp only [cond_true] at h
      have e1 : i + 1 + l.length = i + (o :: l).length := by simp only [List.length_cons]; omega
      rcases dueP_ok h with ⟨hdue, h⟩ | ⟨hdue, h⟩
      · obtain ⟨e, hstep, h⟩ := opS_ok (ops := ops) hX hI (dstOK_spec hdst) h
        cases hfr : freshAll s.nx s.us e.nw with
        | false => rw [hfr] at h; exact h.elim
        | true =>
          rw [hfr] at h
          simp only [cond_true] at h
          obtain ⟨sn, out, W', ⟨h1, h2, h3⟩, hK⟩ := ih _ _ _ _ _ h
          rw [e1] at h1
          refine ⟨sn, out, W', ⟨h1, fun hdr => ?_, fun A accI K h4 h5 h6 h7 h8 => ?_⟩, hK⟩
          · obtain ⟨⟨new, hn1, hn2⟩, hn3⟩ := h2 hdr
            rw [hdr] at hn1 hn3
            simp only [cond_true, List.reverse_cons, List.append_assoc, List.singleton_append] at hn1
            simp only [cond_true, List.length_cons] at hn3
            refine ⟨⟨_, hn1, fun k r hk => ?_⟩, by simp only [List.length_cons]; omega⟩
            cases k with
            | zero => simp only [List.getElem?_cons_zero, Option.some.injEq] at hk; subst hk; rfl
            | succ k => have := hn2 k r (by simpa using hk); omega
          · refine .step e (A i) hdue (fun j hj => freshAll_spec e.nw hfr j hj) hstep (fun T hT => ?_) ?_
            · cases draw with
              | false => exact absurd hT (h7 rfl i T)
              | true =>
                obtain ⟨⟨new, hn1, hn2⟩, hn3⟩ := h2 rfl
                have hmem : (⟨i, o, .run e, s⟩ : Rec) ∈ out := by
                  rw [← List.mem_reverse, hn1]
                  simp
                exact h5 rfl _ hmem T hT e rfl
            · refine h3 A _ K (fun hdr => ?_) h5 h6 h7 (by rw [e1]; exact h8)
              rw [hdr]
              simp only [cond_true, List.map_cons]
              rw [h4 hdr]; rfl
      · obtain ⟨sn, out, W', ⟨h1, h2, h3⟩, hK⟩ := ih _ _ _ _ _ h
        rw [e1] at h1
        refine ⟨sn, out, W', ⟨h1, fun hdr => ?_, fun A accI K h4 h5 h6 h7 h8 => ?_⟩, hK⟩
        · obtain ⟨⟨new, hn1, hn2⟩, hn3⟩ := h2 hdr
          rw [hdr] at hn1 hn3
          simp only [cond_true, List.reverse_cons, List.append_assoc, List.singleton_append] at hn1
          simp only [cond_true, List.length_cons] at hn3
          refine ⟨⟨_, hn1, fun k r hk => ?_⟩, by simp only [List.length_cons]; omega⟩
          cases k with
          | zero => simp only [List.getElem?_cons_zero, Option.some.injEq] at hk; subst hk; rfl
          | succ k => have := hn2 k r (by simpa using hk); omega
        · refine .skip hdue (dstOK_spec hdst) ?_
          refine h3 A _ K (fun hdr => ?_) h5 h6 h7 (by rw [e1]; exact h8)
          rw [hdr]
          simp only [cond_true, List.map_cons]
          rw [h4 hdr]; rfl

theorem regP_ok (hX : XOK P X) (hI : ∀ f, FOK2 P f (inl f)) (hm : P.follows .mixedOrders = true) {draw : Bool} {ops : Array Oper} {rv : Option Nat} {id : Nat} {s : VS} {W : List Nat} {K : VS → List Nat → Prop} (h : regP P X inl draw ops s W K) :
    ∃ s' W', VW P rv (.region id ops draw) s (Is .normal s') ∧ K s' W' := by
  unfold regP at h
  obtain ⟨sn, recs, W', ⟨h1, h2, h3⟩, hK⟩ := opsP_ok hX hI _ _ _ _ _ _ h
  cases hc : (!draw || chk2 P ops recs.reverse) with
  | false => rw [hc] at hK; exact hK.elim
  | true =>
    rw [hc] at hK
    simp only [cond_true] at hK
    have hsz : (0 : Nat) + ops.toList.length = ops.size := by simp
    refine ⟨_, W', VW.comp (VW.region (K := fun s'' => s'' = sn.close ops.size) hm ?_ (fun s'' hs => ⟨rfl, hs⟩)), hK⟩
    cases draw with
    | false => exact h3 (fun _ _ => False) [] _ (fun e => (by cases e)) (fun e => (by cases e)) (fun e => (by cases e)) (fun _ _ _ h => h) (by rw [hsz])
    | true =>
      simp only [Bool.not_true, Bool.false_or] at hc
      obtain ⟨⟨new, hn1, hn2⟩, hn3⟩ := h2 rfl
      simp only [List.reverse_nil, List.nil_append] at hn1
      obtain ⟨A, hA1, hA2⟩ := pairs_of_chk2 (L := recs.reverse) (fun k r hk => by rw [hn1] at hk; have := hn2 k r hk; omega) (by simp at hn3 ⊢; exact hn3) hc
      exact h3 A [] _ (fun _ => rfl) (fun _ r hr => hA1 r (by simpa using hr)) (fun _ => hA2) (fun e => (by cases e)) (by rw [hsz])

section
variable {na : Nat} {rv : Option Nat} {s : VS} {Q Q' : Exit → VS → Prop}
theorem VWn.of_VW {c : Code} (h : VW P rv c s Q) (hnx : ∀ e s', Q e s' → True) : VWn P na rv c s Q :=
  fun E g a w n ro hna hro h1 h2 => by subst hna; exact h E g a w n ro hro h1 h2
theorem VWn.mono {c : Code} (h : VWn P na rv c s Q) (hq : ∀ e s', Q e s' → Q' e s') : VWn P na rv c s Q' :=
  fun E g a w n ro hna hro h1 h2 => wpIn_mono (h E g a w n ro hna hro h1 h2) fun e a' w' ⟨g', s', q, h3, h4⟩ => ⟨g', s', hq _ _ q, h3, h4⟩
theorem VWn.skip (h : Q .normal s) : VWn P na rv .skip s Q := fun E g a w n ro hna hro h1 h2 => wpIn_skip ⟨g, s, h, h1, h2⟩
theorem VWn.label {l : Nat} (h : Q .normal s) : VWn P na rv (.label l) s Q := fun E g a w n ro hna hro h1 h2 => wpIn_label ⟨g, s, h, h1, h2⟩
theorem VWn.exit {id : Nat} (h : Q (.exit id) s) : VWn P na rv (.exit id) s Q := fun E g a w n ro hna hro h1 h2 => wpIn_exit ⟨g, s, h, h1, h2⟩
theorem VWn.goto {id : Nat} (h : Q (.goto id) s) : VWn P na rv (.goto id) s Q := fun E g a w n ro hna hro h1 h2 => wpIn_goto ⟨g, s, h, h1, h2⟩
theorem VWn.ret (h : Q .ret s) : VWn P na rv .ret s Q := fun E g a w n ro hna hro h1 h2 => wpIn_ret ⟨g, s, h, h1, h2⟩
theorem VWn.seq {x y : Code} (h : VWn P na rv x s (thenK (fun s' => VWn P na rv y s' Q) Q)) : VWn P na rv (.seq x y) s Q := fun E g a w n ro hna hro h1 h2 => by
  refine wpIn_seq (wpIn_mono (h E g a w n ro hna hro h1 h2) fun e a' w' ⟨g', s', q, h3, h4⟩ => ?_)
  cases e with
  | normal => exact q E g' a' w' n ro hna hro h3 h4
  | exit id => exact ⟨g', s', q, h3, h4⟩
  | goto l => exact ⟨g', s', q, h3, h4⟩
  | ret => exact ⟨g', s', q, h3, h4⟩
  | panic c => exact ⟨g', s', q, h3, h4⟩
  | outgrown => exact ⟨g', s', q, h3, h4⟩
theorem VWn.block {id : Nat} {c : Code} (h : VWn P na rv c s (inBlk id Q)) : VWn P na rv (.block id c) s Q := fun E g a w n ro hna hro h1 h2 => by
  refine wpIn_block (wpIn_mono (h E g a w n ro hna hro h1 h2) fun e a' w' ⟨g', s', q, h3, h4⟩ => ?_)
  cases e with
  | exit id' =>
    simp only [Exit.inBlock]
    simp only [inBlk] at q
    split at q
    · rename_i e; rw [if_pos e]; exact ⟨g', s', q, h3, h4⟩
    · rename_i e; rw [if_neg e]; exact ⟨g', s', q, h3, h4⟩
  | normal => exact ⟨g', s', q, h3, h4⟩
  | goto l => exact ⟨g', s', q, h3, h4⟩
  | ret => exact ⟨g', s', q, h3, h4⟩
  | panic c => exact ⟨g', s', q, h3, h4⟩
  | outgrown => exact ⟨g', s', q, h3, h4⟩
theorem VWn.cond {c : Operand} {x y : Code} {b : Bool} (hc : evalV s.tm c = .d (.bool b)) (ht : b = true → VWn P na rv x s Q) (hf : b = false → VWn P na rv y s Q) : VWn P na rv (.cond c x y) s Q := fun E g a w n ro hna hro h1 h2 => by
  have hv := h2.toRelS.eval c
  rw [hc] at hv
  exact wpIn_cond_split (rel_bool hv) (fun h => ht h E g a w n ro hna hro h1 h2) (fun h => hf h E g a w n ro hna hro h1 h2)
end

section
variable {na : Nat} {rv : Option Nat} {s : VS} {Q : Exit → VS → Prop}
def VLn (P : Program) (na : Nat) (rv : Option Nat) (c : Code) (s : VS) (Q : Exit → VS → Prop) : Prop :=
  ∀ (E : Ent) (g : Gh) (a : Act) (w : World) (n : Nat) (ro : Option Nat), E.na = na → RoOK E rv ro → na ≤ s.nx → Inv E g s a w →
    ∀ (b : Frame) (k : List Item) (cs : List Frame), b.roundOf = (rF ro).round → (rF ro).fn b.fn → (rF ro).room (cs.length + 1 + n) →
      ∃ e a' w', (∃ g' s', Q e s' ∧ na ≤ s'.nx ∧ Inv E g' s' a' w') ∧ ArrivesIn (Machine.fenced P (rF ro)) P (lone (b.atR a (.code c :: .inLoop c :: k)) cs w) b k cs e a' w'
theorem VLn.step {c : Code} (h : VWn P na rv c s (thenK (fun s' => VLn P na rv c s' Q) Q)) : VLn P na rv c s Q := by
  intro E g a w n ro hna hro h1 h2 b k cs hb hfn hroom
  obtain ⟨e, a1, w1, ⟨g', s', q, h5, h6⟩, harr⟩ := h E g a w n ro hna hro h1 h2 b (.inLoop c :: k) cs hb hfn hroom
  cases e with
  | normal =>
    obtain ⟨e2, a2, w2, hq2, harr2⟩ := q E g' a1 w1 n ro hna hro h5 h6 b k cs hb hfn hroom
    exact ⟨e2, a2, w2, hq2, .of_steps (StepsIn.trans harr (.one (fenced_calm hfn hroom rfl) stepR_inLoop)) harr2⟩
  | exit id => exact ⟨_, a1, w1, ⟨g', s', q, h5, h6⟩, .pass (x := .inLoop c) rfl (fun _ _ => .inl (by simp)) harr⟩
  | goto l => exact ⟨_, a1, w1, ⟨g', s', q, h5, h6⟩, .pass (x := .inLoop c) rfl (fun _ _ => .inl (by simp)) harr⟩
  | ret => exact ⟨_, a1, w1, ⟨g', s', q, h5, h6⟩, .pass (x := .inLoop c) rfl (fun _ _ => .inl (by simp)) harr⟩
  | panic ch => exact ⟨_, a1, w1, ⟨g', s', q, h5, h6⟩, .pass (x := .inLoop c) rfl (fun _ _ => .inl (by simp)) harr⟩
  | outgrown => exact ⟨_, a1, w1, ⟨g', s', q, h5, h6⟩, .pass (x := .inLoop c) rfl (fun _ _ => .inl (by simp)) harr⟩
theorem VWn.of_VLn {c : Code} (h : VLn P na rv c s Q) : VWn P na rv (.loop c) s Q := by
  intro E g a w n ro hna hro h1 h2 b k cs hb hfn hroom
  obtain ⟨e, a', w', hq, harr⟩ := h E g a w n ro hna hro h1 h2 b k cs hb hfn hroom
  exact ⟨e, a', w', hq, .of_steps (.one (fenced_calm hfn hroom rfl) stepR_loop) harr⟩
end

theorem VSpec.of_body' {f : FuncId} {fn : Func} {c : Code} {args : List V} {H : List Blk} {r : V} {H' : List Blk} (hf : P.funcs[f]? = some fn) (hb : fn.body = some c)
    (hn : args.length ≤ fn.ntmps) (hH : H.length ≤ H'.length)
    (h : VWn P H.length none c { tm := enumV 0 args, hp := enumB 0 H, nx := H.length, us := [], N := fn.ntmps } (fun e s' => (e = .ret ∨ e = .normal) ∧ Ret P fn H.length s' r H')) :
    VSpec P f args H r H' := by
  refine ⟨hH, fun g w cargs hrel hdom hargs => ?_⟩
  refine (callsIn_wide (n := 0)).1 ?_
  refine callsIn_of_wp_marks hf hb trivial ?_ rfl
  have hinv : Inv (entOf g H w) g { tm := enumV 0 args, hp := enumB 0 H, nx := H.length, us := [], N := fn.ntmps } { tmps := cargs ++ Array.replicate (fn.ntmps - cargs.size) undef, defers := [] } w := {
    wg := hrel.wg
    mem := hrel.mem
    blk := hrel.blk
    inj := hrel.inj
    tm := fun t => by
      rw [lk_enum]
      simp only [Nat.zero_le, if_true, Nat.sub_zero]
      rw [List.getD_eq_getElem?_getD]
      cases hv : args[t]? with
      | none => exact .junk _
      | some v =>
        have ht := (List.getElem?_eq_some_iff.1 hv).1
        have htc : t < cargs.size := by rw [hargs.1]; exact ht
        have : (cargs ++ Array.replicate (fn.ntmps - cargs.size) undef).getD t undef = cargs[t] := by
          rw [Array.getD_eq_getD_getElem?, Array.getElem?_append_left htc, Array.getElem?_eq_getElem htc]; rfl
        rw [this]
        exact hargs.2 t v cargs[t] hv (Array.getElem?_eq_getElem htc)
    size := by have := hargs.1; simp; omega
    dom := fun id hid => .inl (hdom id hid)
    fr := { leM := fun _ _ _ h => h, leB := fun _ _ => rfl, leS := fun _ _ => rfl, size := Nat.le_refl _, os := rfl, output := rfl, tape := rfl, kept := fun _ _ _ => rfl, own := fun k hk => .inl hk, mnew := fun _ _ _ h => .inl h }
    marks := ⟨[], rfl, List.nodup_nil, fun r hr => by cases hr⟩ }
  refine wpIn_mono (h (entOf g H w) g _ w 0 none rfl rfl (Nat.le_refl _) hinv) ?_
  rintro e a' w' ⟨g', s', ⟨he, hret⟩, hna, hi⟩
  obtain ⟨ms, hms, hnd, hall⟩ := hi.marks
  have hi0 : Inv (entOf g H w) g' s' { tmps := a'.tmps, defers := [] } w' := { hi with marks := ⟨[], rfl, List.nodup_nil, fun r hr => by cases hr⟩ }
  have hL : LeavesInM Fence.wide 0 P fn a'.tmps (fun e w' => ∃ c, e = .returned c ∧ Ends g H w r H' c w') a'.defers .returning w' := by
    rw [hms]
    refine leaves_marks (fun w2 hi2 => ?_) ms w' hi0 hnd hall
    obtain ⟨c, g2, h1, h2, h3, h4, h5⟩ := hret (entOf g H w) g' { tmps := a'.tmps, defers := [] } w2 rfl hna hi2
    exact ⟨c, h1, c, rfl, g2, h2, h3, h4, h5⟩
  rcases he with rfl | rfl
  · exact hL
  · exact hL

theorem codeP_ok (hX : XOK P X) (hI : ∀ f, FOK2 P f (inl f)) (hm : P.follows .mixedOrders = true) {na : Nat} {rv : Option Nat} {L : Nat → Option LoopT} : ∀ (c : Code) (p : Nat) (s : VS) (W : List Nat) (Q : Exit → VS → List Nat → Prop),
    codeP P X inl na rv L c p s W Q → ∃ e s' W', VWn P na rv c s (Is e s') ∧ Q e s' W' := by
  intro c
  induction c with
  | skip => intro p s W Q h; exact ⟨_, _, W, VWn.skip ⟨rfl, rfl⟩, h⟩
  | label l => intro p s W Q h; exact ⟨_, _, W, VWn.label ⟨rfl, rfl⟩, h⟩
  | exit id => intro p s W Q h; exact ⟨_, _, W, VWn.exit ⟨rfl, rfl⟩, h⟩
  | goto l => intro p s W Q h; exact ⟨_, _, W, VWn.goto ⟨rfl, rfl⟩, h⟩
  | ret => intro p s W Q h; exact ⟨_, _, W, VWn.ret ⟨rfl, rfl⟩, h⟩
  | region id ops draw =>
    intro p s W Q h
    obtain ⟨s', W', h1, h2⟩ := regP_ok (rv := rv) (id := id) hX hI hm h
    exact ⟨_, s', W', VWn.of_VW h1 (fun _ _ _ => trivial), h2⟩
  | seq a b iha ihb =>
    intro p s W Q h
    obtain ⟨e, s1, W1, h1, h2⟩ := iha _ _ _ _ h
    cases e with
    | normal =>
      obtain ⟨e2, s2, W2, h3, h4⟩ := ihb _ _ _ _ h2
      refine ⟨e2, s2, W2, VWn.seq (h1.mono fun e' s'' ⟨h5, h6⟩ => ?_), h4⟩
      subst h5; subst h6; exact h3
    | exit id => exact ⟨_, s1, W1, VWn.seq (h1.mono fun e' s'' ⟨h5, h6⟩ => (by subst h5; subst h6; exact ⟨rfl, rfl⟩)), h2⟩
    | goto l => exact ⟨_, s1, W1, VWn.seq (h1.mono fun e' s'' ⟨h5, h6⟩ => (by subst h5; subst h6; exact ⟨rfl, rfl⟩)), h2⟩
    | ret => exact ⟨_, s1, W1, VWn.seq (h1.mono fun e' s'' ⟨h5, h6⟩ => (by subst h5; subst h6; exact ⟨rfl, rfl⟩)), h2⟩
    | panic ch => exact ⟨_, s1, W1, VWn.seq (h1.mono fun e' s'' ⟨h5, h6⟩ => (by subst h5; subst h6; exact ⟨rfl, rfl⟩)), h2⟩
    | outgrown => exact ⟨_, s1, W1, VWn.seq (h1.mono fun e' s'' ⟨h5, h6⟩ => (by subst h5; subst h6; exact ⟨rfl, rfl⟩)), h2⟩
  | cond c a b iha ihb =>
    intro p s W Q h
    simp only [codeP] at h
    split at h
    · rename_i v hv
      cases v with
      | true =>
        simp only [cond_true, setC_same hv] at h
        obtain ⟨e, s1, W1, h1, h2⟩ := iha _ _ _ _ h
        exact ⟨e, s1, W1, VWn.cond hv (fun _ => h1) (fun e => by cases e), h2⟩
      | false =>
        simp only [cond_false, setC_same hv] at h
        obtain ⟨e, s1, W1, h1, h2⟩ := ihb _ _ _ _ h
        exact ⟨e, s1, W1, VWn.cond hv (fun e => by cases e) (fun _ => h1), h2⟩
    · exact h.elim
  | block id b ihb =>
    intro p s W Q h
    obtain ⟨e, s1, W1, h1, h2⟩ := ihb _ _ _ _ h
    cases e with
    | exit id' =>
      simp only at h2
      cases hid : Nat.beq id' id with
      | true =>
        rw [hid] at h2
        refine ⟨_, s1, W1, VWn.block (h1.mono fun e' s'' ⟨h5, h6⟩ => ?_), h2⟩
        subst h5; subst h6
        show (if id' = id then _ else _)
        rw [if_pos (Nat.eq_of_beq_eq_true hid)]; exact ⟨rfl, rfl⟩
      | false =>
        rw [hid] at h2
        refine ⟨_, s1, W1, VWn.block (h1.mono fun e' s'' ⟨h5, h6⟩ => ?_), h2⟩
        subst h5; subst h6
        show (if id' = id then _ else _)
        rw [if_neg (fun e => by subst e; simp at hid)]; exact ⟨rfl, rfl⟩
    | normal => exact ⟨_, s1, W1, VWn.block (h1.mono fun e' s'' ⟨h5, h6⟩ => (by subst h5; subst h6; exact ⟨rfl, rfl⟩)), h2⟩
    | goto l => exact ⟨_, s1, W1, VWn.block (h1.mono fun e' s'' ⟨h5, h6⟩ => (by subst h5; subst h6; exact ⟨rfl, rfl⟩)), h2⟩
    | ret => exact ⟨_, s1, W1, VWn.block (h1.mono fun e' s'' ⟨h5, h6⟩ => (by subst h5; subst h6; exact ⟨rfl, rfl⟩)), h2⟩
    | panic ch => exact ⟨_, s1, W1, VWn.block (h1.mono fun e' s'' ⟨h5, h6⟩ => (by subst h5; subst h6; exact ⟨rfl, rfl⟩)), h2⟩
    | outgrown => exact ⟨_, s1, W1, VWn.block (h1.mono fun e' s'' ⟨h5, h6⟩ => (by subst h5; subst h6; exact ⟨rfl, rfl⟩)), h2⟩
  | loop b ihb =>
    intro p s W Q h
    simp only [codeP] at h
    split at h
    · exact h.1 s W Q h.2
    · have key : ∀ (k : Nat) (s : VS) (W : List Nat) (Q : Exit → VS → List Nat → Prop), unroll (fun s W Q => codeP P X inl na rv L b (2 * p) s W Q) k s W Q → ∃ e s' W', VLn P na rv b s (Is e s') ∧ Q e s' W' := by
        intro k
        induction k with
        | zero => intro s W Q h; exact h.elim
        | succ k ih =>
          intro s W Q h
          obtain ⟨e, s1, W1, h1, h2⟩ := ihb _ _ _ _ h
          cases e with
          | normal =>
            obtain ⟨e2, s2, W2, h3, h4⟩ := ih _ _ _ h2
            exact ⟨e2, s2, W2, VLn.step (h1.mono fun e' s'' ⟨h5, h6⟩ => (by subst h5; subst h6; exact h3)), h4⟩
          | exit id => exact ⟨_, s1, W1, VLn.step (h1.mono fun e' s'' ⟨h5, h6⟩ => (by subst h5; subst h6; exact ⟨rfl, rfl⟩)), h2⟩
          | goto l => exact ⟨_, s1, W1, VLn.step (h1.mono fun e' s'' ⟨h5, h6⟩ => (by subst h5; subst h6; exact ⟨rfl, rfl⟩)), h2⟩
          | ret => exact ⟨_, s1, W1, VLn.step (h1.mono fun e' s'' ⟨h5, h6⟩ => (by subst h5; subst h6; exact ⟨rfl, rfl⟩)), h2⟩
          | panic ch => exact ⟨_, s1, W1, VLn.step (h1.mono fun e' s'' ⟨h5, h6⟩ => (by subst h5; subst h6; exact ⟨rfl, rfl⟩)), h2⟩
          | outgrown => exact ⟨_, s1, W1, VLn.step (h1.mono fun e' s'' ⟨h5, h6⟩ => (by subst h5; subst h6; exact ⟨rfl, rfl⟩)), h2⟩
      obtain ⟨e, s', W', h1, h2⟩ := key _ _ _ _ h
      exact ⟨e, s', W', VWn.of_VLn h1, h2⟩
  | _ => intro p s W Q h; exact h.elim

theorem bodyP_ok (hX : XOK P X) (hI : ∀ f, FOK2 P f (inl f)) (hm : P.follows .mixedOrders = true) {L : Nat → Option LoopT} {f : FuncId} : FOK2 P f (bodyP P X inl L f) := by
  intro args H K h
  unfold bodyP at h
  split at h
  · rename_i fn hf
    split at h
    · rename_i c hc
      cases hn : Nat.ble args.length fn.ntmps with
      | false => rw [hn] at h; exact h.elim
      | true =>
        rw [hn] at h
        simp only [cond_true] at h
        have hn' := Nat.le_of_ble_eq_true hn
        obtain ⟨e, s', W', hok, hq⟩ := codeP_ok hX hI hm c _ _ _ _ h
        have fin : (e = .ret ∨ e = .normal) → (match resE P fn s' with
              | some r => match canon H.length r s'.hp with
                | some p => K p.1 p.2 (ltF H.length W')
                | none => False
              | none => False) → ∃ r H' ch, VSpec P f args H r H' ∧ K r H' ch := fun he hm' => by
            split at hm'
            · rename_i r0 hr0
              split at hm'
              · rename_i p hp
                obtain ⟨r, H'⟩ := p
                refine ⟨r, H', _, ?_, hm'⟩
                refine VSpec.of_body' hf hc hn' (canon_len hp) (hok.mono fun e' s'' ⟨h1, h2⟩ => ?_)
                subst h1; subst h2
                refine ⟨he, fun E g a w hna hnx hi => ?_⟩
                obtain ⟨c', h3, h4⟩ := resE_ok hi hr0
                obtain ⟨_, g', h5, h6, h7, h8⟩ := canon_ok hi h4 hna hp
                exact ⟨c', g', h3, h5, h6, h7, h8⟩
              · exact hm'.elim
            · exact hm'.elim
        cases e with
        | ret => exact fin (.inl rfl) hq
        | normal => exact fin (.inr rfl) hq
        | _ => exact hq.elim
    · exact h.elim
  · exact h.elim
theorem inlN_ok (hX : XOK P X) (hm : P.follows .mixedOrders = true) {LL : FuncId → Nat → Option LoopT} : ∀ n f, FOK2 P f (inlN P X LL n f) := by
  intro n
  induction n with
  | zero => intro f args H K h; exact h.elim
  | succ n ih => intro f; exact bodyP_ok hX ih hm
end Go.Bv

namespace Go.Bv
variable {P : Program}

def subCode : Code → List Bool → Code
  | c, [] => c
  | .seq a b, d :: r => bif d then subCode b r else subCode a r
  | .cond _ a b, d :: r => bif d then subCode b r else subCode a r
  | .block _ b, _ :: r => subCode b r
  | .loop b, _ :: r => subCode b r
  | c, _ => c

def loopB (P : Program) (f : FuncId) (d : List Bool) : Code :=
  match P.funcs[f]? with
  | some fn => match fn.body with
    | some c => match subCode c d with
      | .loop b => b
      | c => c
    | none => .skip
  | none => .skip

def keepO (tm : List (Nat × V)) : List Nat → List (Nat × V)
  | [] => []
  | t :: r => (t, lk tm t) :: keepO tm r
def canonN (na : Nat) (keep : List Nat) (s : VS) : Option VS :=
  (fun ν => bif nodupB ν then some { tm := mapT (idx ν) (keepO s.tm keep), hp := enumB 0 (mapBs ν s.hp ν), nx := ν.length, us := [], N := s.N } else none)
    (napp (rangeFrom 0 na) (geAll na (reach s.hp 100000 (napp (rangeFrom 0 na) (refsT (keepO s.tm keep))) [])))
theorem lk_keepO (tm : List (Nat × V)) (t : Nat) : ∀ keep : List Nat, lk (keepO tm keep) t = lk tm t ∨ lk (keepO tm keep) t = .junk
  | [] => .inr rfl
  | k :: r => by
    simp only [keepO, lk_cons]
    by_cases h : k = t
    · subst h; rw [if_pos rfl]; exact .inl rfl
    · rw [if_neg h]; exact lk_keepO tm t r
theorem canonN_ok {E : Ent} {g : Gh} {s s' : VS} {a : Act} {w : World} (hi : Inv E g s a w) {na : Nat} {keep : List Nat} (hna : E.na = na) (hc : canonN na keep s = some s') :
    ∃ g', na ≤ s'.nx ∧ Inv E g' s' a w := by
  subst hna
  unfold canonN at hc
  generalize hl2 : geAll E.na (reach s.hp 100000 (napp (rangeFrom 0 E.na) (refsT (keepO s.tm keep))) []) = l2 at hc
  dsimp only at hc
  cases hn : nodupB (napp (rangeFrom 0 E.na) l2) with
  | false => rw [hn] at hc; cases hc
  | true =>
    rw [hn] at hc
    simp only [cond_true, Option.some.injEq] at hc
    subst hc
    rw [napp_eq] at hn ⊢
    generalize hν : rangeFrom 0 E.na ++ l2 = ν at hn ⊢
    have hnd := nodupB_spec ν hn
    obtain ⟨hren, hrel, hdom⟩ := sub_world hi hnd
    have hat : ∀ i, i < E.na → ν[i]? = some i := fun i hlt => by
      rw [← hν, List.getElem?_append_left (by rw [rangeFrom_len]; exact hlt), rangeFrom_get, if_pos hlt, Nat.zero_add]
    have hlen : E.na ≤ ν.length := by rw [← hν, List.length_append, rangeFrom_len]; omega
    rw [mapBs_eq]
    refine ⟨subG g ν, hlen, {
      wg := hrel.wg
      mem := hrel.mem
      blk := hrel.blk
      inj := hrel.inj
      tm := fun t => ?_
      size := hi.size
      dom := fun id hid => .inl (by have := hdom id hid; rw [subH_len] at this; exact this)
      fr := {
        leM := hi.fr.leM
        leB := fun i hlt => by
          show (ν[i]?).bind g.β = _
          rw [hat i hlt]; exact hi.fr.leB i hlt
        leS := fun i hlt => by
          show (ν[i]?).bind g.sv = _
          rw [hat i hlt]; exact hi.fr.leS i hlt
        size := hi.fr.size
        os := hi.fr.os
        output := hi.fr.output
        tape := hi.fr.tape
        kept := hi.fr.kept
        own := fun k ⟨j, b, h1, h2, h3⟩ => by
          have h1' : hget (enumB 0 (subH s.hp ν ν)) j = some b := h1
          rw [hget_enum0, subH_get] at h1'
          obtain ⟨id, hid, rfl⟩ := Option.map_eq_some_iff.1 h1'
          rw [mapB_holds] at h2
          have h3' : (ν[j]?).bind g.β = some k := h3
          rw [hid] at h3'
          cases hg : hget s.hp id with
          | none => rw [hg] at h2; cases h2
          | some b0 => rw [hg] at h2; exact hi.fr.own k ⟨id, b0, hg, h2, h3'⟩
        mnew := hi.fr.mnew }
      marks := hi.marks }⟩
    show RelV (subG g ν) (lk (mapT (idx ν) (keepO s.tm keep)) t) _
    rw [lk_mapT]
    rcases lk_keepO s.tm t keep with e | e
    · rw [e]; exact (hi.tm t).ren hren
    · rw [e]; simp only [mapV]; exact .junk _

section
variable {na : Nat} {rv : Option Nat} {s : VS} {Q : Exit → VS → Prop}
theorem VLn.canon {c : Code} {keep : List Nat} {s' : VS} (hc : canonN na keep s = some s') (h : VLn P na rv c s' Q) : VLn P na rv c s Q := fun E g a w n ro hna hro h1 h2 => by
  obtain ⟨g', h3, h4⟩ := canonN_ok h2 hna hc
  exact h E g' a w n ro hna hro h3 h4

def RoundEnd (na : Nat) (keep : List Nat) {ι : Type} (S : ι → VS) (next : ι → Prop) (done : Exit → VS → Prop) : Exit → VS → Prop
  | .normal, s1 => ∃ j, canonN na keep s1 = some (S j) ∧ next j
  | e, s1 => done e s1

theorem loop_of {b : Code} {ι : Type} (keep : List Nat) (S : ι → VS) (I : ι → Prop) (μ : ι → Nat) (R : ι → Exit → VS → Prop)
    (round : ∀ i, I i → ∃ e s1, VWn P na rv b (S i) (Is e s1) ∧ RoundEnd na keep S (fun j => I j ∧ μ j < μ i ∧ ∀ e s', R j e s' → R i e s') (R i) e s1) :
    ∀ i, I i → ∃ e s', VLn P na rv b (S i) (Is e s') ∧ R i e s' := by
  suffices h : ∀ m i, μ i = m → I i → ∃ e s', VLn P na rv b (S i) (Is e s') ∧ R i e s' from fun i hi => h _ i rfl hi
  intro m
  induction m using Nat.strongRecOn with
  | _ m ih =>
    intro i hm hI
    obtain ⟨e, s1, h1, h2⟩ := round i hI
    cases e with
    | normal =>
      obtain ⟨j, h3, h4, h5, h6⟩ := h2
      obtain ⟨e', s', h7, h8⟩ := ih (μ j) (hm ▸ h5) j rfl h4
      refine ⟨e', s', VLn.step (h1.mono fun e2 s2 ⟨h9, h10⟩ => ?_), h6 _ _ h8⟩
      subst h9; subst h10
      exact VLn.canon h3 h7
    | exit id => exact ⟨_, s1, VLn.step (h1.mono fun e2 s2 ⟨h9, h10⟩ => (by subst h9; subst h10; exact ⟨rfl, rfl⟩)), h2⟩
    | goto l => exact ⟨_, s1, VLn.step (h1.mono fun e2 s2 ⟨h9, h10⟩ => (by subst h9; subst h10; exact ⟨rfl, rfl⟩)), h2⟩
    | ret => exact ⟨_, s1, VLn.step (h1.mono fun e2 s2 ⟨h9, h10⟩ => (by subst h9; subst h10; exact ⟨rfl, rfl⟩)), h2⟩
    | panic ch => exact ⟨_, s1, VLn.step (h1.mono fun e2 s2 ⟨h9, h10⟩ => (by subst h9; subst h10; exact ⟨rfl, rfl⟩)), h2⟩
    | outgrown => exact ⟨_, s1, VLn.step (h1.mono fun e2 s2 ⟨h9, h10⟩ => (by subst h9; subst h10; exact ⟨rfl, rfl⟩)), h2⟩

theorem LoopOK.mk {b : Code} {ι : Type} {T : LoopT} (keep : List Nat) (S : ι → VS) (I : ι → Prop) (μ : ι → Nat) (R : ι → Exit → VS → Prop)
    (round : ∀ i, I i → ∃ e s1, VWn P na rv b (S i) (Is e s1) ∧ RoundEnd na keep S (fun j => I j ∧ μ j < μ i ∧ ∀ e s', R j e s' → R i e s') (R i) e s1)
    (entry : ∀ s W Q, T s W Q → ∃ i, canonN na keep s = some (S i) ∧ I i ∧ ∀ e s', R i e s' → ∃ W', Q e s' W') : LoopOK P na rv b T := by
  intro s W Q hT
  obtain ⟨i, h1, h2, h3⟩ := entry s W Q hT
  obtain ⟨e, s', h4, h5⟩ := loop_of keep S I μ R round i h2
  obtain ⟨W', h6⟩ := h3 e s' h5
  exact ⟨e, s', W', VWn.of_VLn (VLn.canon h1 h4), h6⟩
end

theorem VWn.canon {na : Nat} {rv : Option Nat} {s s1 s2 : VS} {c : Code} {e : Exit} {keep : List Nat} (h : VWn P na rv c s (Is e s1)) (hc : canonN na keep s1 = some s2) : VWn P na rv c s (Is e s2) :=
  fun E g a w n ro hna hro h1 h2 => wpIn_mono (h E g a w n ro hna hro h1 h2) fun e' a' w' ⟨g', s', ⟨q1, q2⟩, h3, h4⟩ => by
    subst q2
    obtain ⟨g2, h5, h6⟩ := canonN_ok h4 hna hc
    exact ⟨g2, s2, ⟨q1, rfl⟩, h5, h6⟩
def roundQ (na : Nat) (keep keepE : List Nat) (Kn : Option VS → Prop) (Ke : Exit → Option VS → Prop) : Exit → VS → List Nat → Prop
  | .normal, s1, _ => Kn (canonN na keep s1)
  | e, s1, _ => Ke e (canonN na keepE s1)
def roundP (P : Program) (X : SX) (inl : FuncId → FSpec) (na : Nat) (L : Nat → Option LoopT) (b : Code) (keep keepE : List Nat) (s : VS) (Kn : Option VS → Prop) (Ke : Exit → Option VS → Prop) : Prop :=
  codeP P X inl na none L b 1 s [] (roundQ na keep keepE Kn Ke)
theorem LoopOK.walk {X : SX} {inl : FuncId → FSpec} {na : Nat} {L : Nat → Option LoopT} {b : Code} {ι : Type} {T : LoopT} (hX : XOK P X) (hI : ∀ f, FOK2 P f (inl f)) (hm : P.follows .mixedOrders = true)
    (keep keepE : List Nat) (S : ι → VS) (I : ι → Prop) (μ : ι → Nat) (R : ι → Exit → VS → Prop)
    (round : ∀ i, I i → roundP P X inl na L b keep keepE (S i) (fun o => ∃ j, o = some (S j) ∧ I j ∧ μ j < μ i ∧ ∀ e s', R j e s' → R i e s') (fun e o => ∃ s2, o = some s2 ∧ R i e s2))
    (entry : ∀ s W Q, T s W Q → ∃ i, canonN na keep s = some (S i) ∧ I i ∧ ∀ e s', R i e s' → ∃ W', Q e s' W') : LoopOK P na none b T := by
  refine LoopOK.mk keep S I μ R (fun i hi => ?_) entry
  obtain ⟨e, s1, W1, h1, h2⟩ := codeP_ok hX hI hm b 1 (S i) [] _ (round i hi)
  cases e with
  | normal =>
    obtain ⟨j, h3, h4⟩ := h2
    exact ⟨_, s1, h1, j, h3, h4⟩
  | exit id => obtain ⟨s2, h3, h4⟩ := h2; exact ⟨_, s2, h1.canon h3, h4⟩
  | goto l => obtain ⟨s2, h3, h4⟩ := h2; exact ⟨_, s2, h1.canon h3, h4⟩
  | ret => obtain ⟨s2, h3, h4⟩ := h2; exact ⟨_, s2, h1.canon h3, h4⟩
  | panic ch => obtain ⟨s2, h3, h4⟩ := h2; exact ⟨_, s2, h1.canon h3, h4⟩
  | outgrown => obtain ⟨s2, h3, h4⟩ := h2; exact ⟨_, s2, h1.canon h3, h4⟩

def stN (N : Nat) (tm : List (Nat × V)) (H : List Blk) : VS := { tm := tm, hp := enumB 0 H, nx := H.length, us := [], N := N }
end Go.Bv

namespace Go.Bv

def strsV (es : List (List D)) : List (List UInt8) := es.map fun e => (e.getD 0 .nilp).s
theorem strsV_D (xs : List (List UInt8)) : strsV (strsD xs) = xs := by
  simp only [strsV, strsD, List.map_map]
  exact (List.map_congr_left (fun x _ => by simp [D.s])).trans (List.map_id xs)
theorem strsD_nil : strsD [] = [] := rfl
theorem strsD_cons (x : List UInt8) (r : List (List UInt8)) : strsD (x :: r) = [.str x] :: strsD r := rfl
theorem strsD_app (a b : List (List UInt8)) : strsD (a ++ b) = strsD a ++ strsD b := by simp [strsD]
theorem strsD_len (a : List (List UInt8)) : (strsD a).length = a.length := by simp [strsD]
def itoaS : FSpec := fun args H K => match args with
  | [.d (.int .i64 n)] => (-9223372036854775808 ≤ n ∧ n ≤ 9223372036854775807) ∧ K (.d (.str (itoaL n))) H []
  | _ => False
def joinS : FSpec := fun args H K => match args with
  | [v, .d (.str sep)] => (slS (fun i => H[i]?) 1 v).P fun p => (p.1 = strsD (strsV p.1) ∧ p.1.length ≤ 140737488355328 ∧ (joinL sep (strsV p.1)).length ≤ 140737488355328) ∧ K (.d (.str (joinL sep (strsV p.1)))) H []
  | _ => False
def splitS : FSpec := fun args H K => match args with
  | [.d (.str s), .d (.str [c])] => s.length ≤ 4294967280 ∧ K (.sref H.length (splitL c s []).length) (H ++ [.row 1 0 false (strsD (splitL c s []))]) []
  | _ => False
def trimS : FSpec := fun args H K => match args with
  | [.d (.str s), .d (.str [c])] => K (.d (.str (trimL [c] s))) H []
  | _ => False
def atoiS : FSpec := fun args H K => match args with
  | [.d (.str l)] => (l.length ≤ 18 ∧ atoiL l = some ((atoiL l).getD 0)) ∧ K (.tup [.d (.int .i64 ((atoiL l).getD 0)), .d .nili]) H []
  | _ => False
end Go.Bv
namespace Go.Proofs
open Go Go.Bv
theorem itoaS_ok : FOK2 Tryz.prog 36 itoaS := by
  intro args H K h
  unfold itoaS at h
  split at h
  · exact ⟨_, _, _, itoa_spec _ h.1.1 h.1.2 H, h.2⟩
  · exact h.elim
theorem joinS_ok : FOK2 Tryz.prog 37 joinS := by
  intro args H K h
  unfold joinS at h
  split at h
  · rename_i v sep
    obtain ⟨p, h1, ⟨h2, h3, h4⟩, h5⟩ := SR.P_has _ h
    obtain ⟨es, rd⟩ := p
    have h6 := slS_has h1
    simp only at h2 h3 h4 h5
    rw [h2] at h6
    have h3' : (strsV es).length ≤ 140737488355328 := by rw [h2, strsD_len] at h3; exact h3
    exact ⟨_, _, _, join_spec v sep H _ rd h6 h3' h4, h5⟩
  · exact h.elim
theorem splitS_ok : FOK2 Tryz.prog 67 splitS := by
  intro args H K h
  unfold splitS at h
  split at h
  · exact ⟨_, _, _, split_spec _ _ H h.1, h.2⟩
  · exact h.elim
theorem trimS_ok : FOK2 Tryz.prog 129 trimS := by
  intro args H K h
  unfold trimS at h
  split at h
  · exact ⟨_, _, _, trim_spec _ _ H, h⟩
  · exact h.elim
theorem atoiS_ok : FOK2 Tryz.prog 130 atoiS := by
  intro args H K h
  unfold atoiS at h
  split at h
  · exact ⟨_, _, _, atoi_spec _ _ h.1.1 h.1.2 H, h.2⟩
  · exact h.elim

def xLib : SX := fun f => bif Nat.beq f 36 then some itoaS else bif Nat.beq f 37 then some joinS else bif Nat.beq f 67 then some splitS else bif Nat.beq f 129 then some trimS else bif Nat.beq f 130 then some atoiS else none
theorem sx_cons {P : Program} {n : FuncId} {sp : FSpec} {X : SX} (h1 : FOK2 P n sp) (h2 : XOK P X) : XOK P (fun f => bif Nat.beq f n then some sp else X f) := by
  intro f sp' h
  dsimp only at h
  cases hb : Nat.beq f n with
  | true =>
    rw [hb] at h
    simp only [cond_true, Option.some.injEq] at h
    subst h
    have e := Nat.eq_of_beq_eq_true hb
    subst e
    exact h1
  | false => rw [hb] at h; exact h2 f sp' h
theorem xLib_ok : XOK Tryz.prog xLib :=
  sx_cons itoaS_ok (sx_cons joinS_ok (sx_cons splitS_ok (sx_cons trimS_ok (sx_cons atoiS_ok (fun f sp h => by cases h)))))
def l0 : FuncId → Nat → Option LoopT := fun _ _ => none
end Go.Proofs

namespace Go.Bv
theorem wrap_in (n : Int) (h0 : -9223372036854775808 ≤ n) (h1 : n ≤ 9223372036854775807) : IntKind.i64.wrap n = n := by
  simp [IntKind.wrap, IntKind.signed, IntKind.bits] <;> omega
def prB (b : UInt8) : Bool := decide (32 ≤ b.toNat ∧ b.toNat ≤ 126)
theorem writableL_eq (s : List UInt8) : writableL s = (s.all prB && decide (s.length ≤ 60)) := rfl
theorem drop_cons {α : Type} {l : List α} {i : Nat} (h : i < l.length) (d : α) : l.drop i = l.getD i d :: l.drop (i + 1) := by
  rw [List.drop_eq_getElem_cons h, List.getD_eq_getElem?_getD, List.getElem?_eq_getElem h]; rfl
end Go.Bv
namespace Go.Proofs
open Go Go.Bv
def iLib : FuncId → FSpec := inlN Tryz.prog xLib l0 4
theorem iLib_ok : ∀ f, FOK2 Tryz.prog f (iLib f) := inlN_ok xLib_ok mixed 4

def wS (bs : List UInt8) (i : Nat) : VS := stN 18 [(0, .d (.str bs)), (4, .d (.str bs)), (5, .d (.int .i64 bs.length)), (6, .d (.int .i64 i))] []
def wE (bs : List UInt8) (v : V) : VS := stN 18 [(0, .d (.str bs)), (2, v)] []
theorem writable_round (bs : List UInt8) (i : Nat) (Kn : Option Go.Bv.VS → Prop) (Ke : Go.Exit → Option Go.Bv.VS → Prop) : (bif Decidable.decide ((↑i : Int) < (↑(List.length bs) : Int)) then ((0 : Int) ≤ (↑i : Int) ∧ (↑i : Int) < (↑(List.length bs) : Int)) ∧ bif Decidable.decide ((32 : Int) ≤ (↑(UInt8.toNat (List.getD bs (Int.toNat (↑i : Int)) (0 : UInt8))) : Int)) then bif !Decidable.decide ((↑(UInt8.toNat (List.getD bs (Int.toNat (↑i : Int)) (0 : UInt8))) : Int) ≤ (126 : Int)) then Ke Go.Exit.ret (Option.some { tm := [((0 : Nat), Go.Bv.V.d (Go.Bv.D.str bs)), ((2 : Nat), Go.Bv.V.d (Go.Bv.D.bool Bool.false))], hp := [], nx := (0 : Nat), us := [], N := (18 : Nat) }) else Kn (Option.some { tm := [((0 : Nat), Go.Bv.V.d (Go.Bv.D.str bs)), ((4 : Nat), Go.Bv.V.d (Go.Bv.D.str bs)), ((5 : Nat), Go.Bv.V.d (Go.Bv.D.int Go.IntKind.i64 (↑(List.length bs) : Int))), ((6 : Nat), Go.Bv.V.d (Go.Bv.D.int Go.IntKind.i64 (Go.IntKind.wrap Go.IntKind.i64 ((↑i : Int) + (1 : Int)))))], hp := [], nx := (0 : Nat), us := [], N := (18 : Nat) }) else Ke Go.Exit.ret (Option.some { tm := [((0 : Nat), Go.Bv.V.d (Go.Bv.D.str bs)), ((2 : Nat), Go.Bv.V.d (Go.Bv.D.bool Bool.false))], hp := [], nx := (0 : Nat), us := [], N := (18 : Nat) }) else Ke (Go.Exit.exit (0 : Nat)) (Option.some { tm := [((0 : Nat), Go.Bv.V.d (Go.Bv.D.str bs)), ((2 : Nat), Go.Bv.V.junk)], hp := [], nx := (0 : Nat), us := [], N := (18 : Nat) })) = (roundP Tryz.prog xLib iLib 0 (fun _ => none) (loopB Tryz.prog 14 [true, false, true, false]) [0, 4, 5, 6] [0, 2] (wS bs i) Kn Ke) := by kernel_rfl
def wT : LoopT := fun s W Q => ∃ bs, canonN 0 [0, 4, 5, 6] s = some (wS bs 0) ∧ bs.length ≤ 4294967280 ∧ bif bs.all prB then Q (.exit 0) (wE bs .junk) [] else Q .ret (wE bs (.d (.bool false))) []
def wR (p : List UInt8 × Nat) (e : Exit) (s : VS) : Prop := bif (p.1.drop p.2).all prB then e = .exit 0 ∧ s = wE p.1 .junk else e = .ret ∧ s = wE p.1 (.d (.bool false))
theorem wT_ok : LoopOK Tryz.prog 0 none (loopB Tryz.prog 14 [true, false, true, false]) wT := by
  refine LoopOK.walk xLib_ok iLib_ok mixed [0, 4, 5, 6] [0, 2] (L := fun _ => none) (fun p : List UInt8 × Nat => wS p.1 p.2) (fun p => p.2 ≤ p.1.length ∧ p.1.length ≤ 4294967280) (fun p => p.1.length - p.2) wR ?_ ?_
  · intro p hp
    obtain ⟨bs, i⟩ := p
    have hi : i ≤ bs.length := hp.1
    have hB : bs.length ≤ 4294967280 := hp.2
    clear hp
    show roundP Tryz.prog xLib iLib 0 (fun _ => none) (loopB Tryz.prog 14 [true, false, true, false]) [0, 4, 5, 6] [0, 2] (wS bs i) _ _
    rw [← writable_round]
    simp only [Bool.cond_decide, Bool.cond_not, Int.toNat_natCast]
    split
    · rename_i hlt
      have hlt' : i < bs.length := by omega
      have hd : bs.drop i = bs.getD i 0 :: bs.drop (i + 1) := drop_cons hlt' 0
      refine ⟨⟨by omega, hlt⟩, ?_⟩
      split
      · split
        · refine ⟨(bs, i + 1), ?_, ⟨by simp only; omega, hB⟩, by simp only; omega, fun e s' h => ?_⟩
          · rw [wrap_in _ (by omega) (by omega)]; simp only [wS, Int.natCast_add, Int.cast_ofNat_Int]; rfl
          · have hp : prB (bs.getD i 0) = true := by simp only [prB, decide_eq_true_eq]; omega
            simp only [wR, hd, List.all_cons, hp, Bool.true_and]; exact h
        · refine ⟨_, rfl, ?_⟩
          have hp : prB (bs.getD i 0) = false := by simp only [prB, decide_eq_false_iff_not]; omega
          simp only [wR, hd, List.all_cons, hp, Bool.false_and, cond_false]; exact ⟨trivial, rfl⟩
      · refine ⟨_, rfl, ?_⟩
        have hp : prB (bs.getD i 0) = false := by simp only [prB, decide_eq_false_iff_not]; omega
        simp only [wR, hd, List.all_cons, hp, Bool.false_and, cond_false]; exact ⟨trivial, rfl⟩
    · rename_i hge
      refine ⟨_, rfl, ?_⟩
      have : bs.drop i = [] := List.drop_eq_nil_of_le (by omega)
      simp only [wR, this, List.all_nil, cond_true]; exact ⟨trivial, rfl⟩
  · intro s W Q hT
    obtain ⟨bs, h1, h2, h3⟩ := hT
    refine ⟨(bs, 0), h1, ⟨Nat.zero_le _, h2⟩, fun e s' h => ⟨[], ?_⟩⟩
    simp only [wR, List.drop_zero] at h
    cases hb : bs.all prB with
    | true => rw [hb] at h h3; obtain ⟨rfl, rfl⟩ := h; exact h3
    | false => rw [hb] at h h3; obtain ⟨rfl, rfl⟩ := h; exact h3
def lW : FuncId → Nat → Option LoopT := fun f p => bif Nat.beq f 14 && Nat.beq p 26 then some wT else none
theorem writable_body (s : List UInt8) (K : Go.Bv.KC) : (Go.Bv.LoopOK Go.Proofs.Tryz.prog (0 : Nat) Option.none (Go.Bv.loopB Go.Proofs.Tryz.prog (14 : Nat) [Bool.true, Bool.false, Bool.true, Bool.false]) Go.Proofs.wT ∧ ∃ (bs : List UInt8), Option.some (Go.Bv.VS.mk [((0 : Nat), Go.Bv.V.d (Go.Bv.D.str s)), ((4 : Nat), Go.Bv.V.d (Go.Bv.D.str s)), ((5 : Nat), Go.Bv.V.d (Go.Bv.D.int Go.IntKind.i64 (↑(List.length s) : Int))), ((6 : Nat), Go.Bv.V.d (Go.Bv.D.int Go.IntKind.i64 (0 : Int)))] [] (0 : Nat) [] (18 : Nat)) = Option.some (Go.Bv.VS.mk [((0 : Nat), Go.Bv.V.d (Go.Bv.D.str bs)), ((4 : Nat), Go.Bv.V.d (Go.Bv.D.str bs)), ((5 : Nat), Go.Bv.V.d (Go.Bv.D.int Go.IntKind.i64 (↑(List.length bs) : Int))), ((6 : Nat), Go.Bv.V.d (Go.Bv.D.int Go.IntKind.i64 (0 : Int)))] [] (0 : Nat) [] (18 : Nat)) ∧ List.length bs ≤ (4294967280 : Nat) ∧ bif List.all bs Go.Bv.prB then K (Go.Bv.V.d (Go.Bv.D.bool (Decidable.decide ((↑(List.length bs) : Int) ≤ (60 : Int))))) [] [] else K (Go.Bv.V.d (Go.Bv.D.bool Bool.false)) [] []) = (inlN Tryz.prog xLib lW 4 14 [.d (.str s)] [] K) := by kernel_rfl
theorem VSpec.of_inl {P : Program} {f : FuncId} {args : List V} {H : List Blk} {r : V} {H' : List Blk} {sp : FSpec} (hs : FOK2 P f sp) (h : sp args H (fun r' H'' _ => r' = r ∧ H'' = H')) : VSpec P f args H r H' := by
  obtain ⟨r', H'', ch, hv, e1, e2⟩ := hs args H _ h
  subst e1; subst e2; exact hv
theorem writable_spec (s : List UInt8) (h : s.length ≤ 4294967280) : VSpec Tryz.prog 14 [.d (.str s)] [] (.d (.bool (writableL s))) [] := by
  refine VSpec.of_inl (inlN_ok (LL := lW) xLib_ok mixed 4 14) ?_
  rw [← writable_body]
  refine ⟨wT_ok, s, rfl, h, ?_⟩
  rw [writableL_eq]
  cases s.all prB with
  | true =>
    have e : decide ((s.length : Int) ≤ 60) = decide (s.length ≤ 60) := decide_eq_decide.2 (by omega)
    exact ⟨by rw [Bool.true_and, ← e], rfl⟩
  | false => exact ⟨rfl, rfl⟩
def writableS : FSpec := fun args H K => match args, H with
  | [.d (.str s)], [] => s.length ≤ 4294967280 ∧ K (.d (.bool (writableL s))) [] []
  | _, _ => False
theorem writableS_ok : FOK2 Tryz.prog 14 writableS := by
  intro args H K h
  unfold writableS at h
  split at h
  · exact ⟨_, _, _, writable_spec _ h.1, h.2⟩
  · exact h.elim
end Go.Proofs

namespace Go.Proofs
open Go Go.Bv

def laS (n : Int) (bs : List UInt8) (i : Nat) (c : Int) : VS := stN 29 [(0, .d (.int .i64 n)), (5, .d (.int .i64 c)), (7, .d (.str bs)), (1, .d (.str bs)), (8, .d (.int .i64 bs.length)), (9, .d (.int .i64 i))] []
def laE (n c : Int) : VS := stN 29 [(0, .d (.int .i64 n)), (5, .d (.int .i64 c))] []
theorem last_round (n : Int) (bs : List UInt8) (i : Nat) (c : Int) (Kn : Option Go.Bv.VS → Prop) (Ke : Go.Exit → Option Go.Bv.VS → Prop) : (bif Decidable.decide ((↑i : Int) < (↑(List.length bs) : Int)) then ((0 : Int) ≤ (↑i : Int) ∧ (↑i : Int) < (↑(List.length bs) : Int)) ∧ (65521 : Int) ≠ (0 : Int) ∧ Kn (Option.some (Go.Bv.VS.mk [((0 : Nat), Go.Bv.V.d (Go.Bv.D.int Go.IntKind.i64 n)), ((5 : Nat), Go.Bv.V.d (Go.Bv.D.int Go.IntKind.i64 (Int.tmod (Go.IntKind.wrap Go.IntKind.i64 (Go.IntKind.wrap Go.IntKind.i64 ((31 : Int) * c) + Go.IntKind.wrap Go.IntKind.i64 (↑(UInt8.toNat (List.getD bs (Int.toNat (↑i : Int)) (0 : UInt8))) : Int))) (65521 : Int)))), ((7 : Nat), Go.Bv.V.d (Go.Bv.D.str bs)), ((1 : Nat), Go.Bv.V.d (Go.Bv.D.str bs)), ((8 : Nat), Go.Bv.V.d (Go.Bv.D.int Go.IntKind.i64 (↑(List.length bs) : Int))), ((9 : Nat), Go.Bv.V.d (Go.Bv.D.int Go.IntKind.i64 (Go.IntKind.wrap Go.IntKind.i64 ((↑i : Int) + (1 : Int)))))] [] (0 : Nat) [] (29 : Nat))) else Ke (Go.Exit.exit (0 : Nat)) (Option.some (Go.Bv.VS.mk [((0 : Nat), Go.Bv.V.d (Go.Bv.D.int Go.IntKind.i64 n)), ((5 : Nat), Go.Bv.V.d (Go.Bv.D.int Go.IntKind.i64 c))] [] (0 : Nat) [] (29 : Nat)))) = (roundP Tryz.prog xLib iLib 0 (fun _ => none) (loopB Tryz.prog 18 [true, true, false, true, false]) [0, 5, 7, 1, 8, 9] [0, 5] (laS n bs i c) Kn Ke) := by kernel_rfl
def laT : LoopT := fun s W Q => ∃ (n : Int) (bs : List UInt8), canonN 0 [0, 5, 7, 1, 8, 9] s = some (laS n bs 0 7) ∧ bs.length ≤ 4294967280 ∧ Q (.exit 0) (laE n (sumL bs 7)) []
theorem sum_step (c b : Nat) (hc : c < 65521) (hb : b < 256) : Int.tmod (IntKind.i64.wrap (IntKind.i64.wrap (31 * (c : Int)) + IntKind.i64.wrap (b : Int))) 65521 = (((31 * c + b) % 65521 : Nat) : Int) := by
  rw [wrap_in (31 * (c : Int)) (by omega) (by omega), wrap_in (b : Int) (by omega) (by omega), wrap_in _ (by omega) (by omega)]
  rw [Int.tmod_eq_emod_of_nonneg (by omega)]
  omega
theorem laT_ok : LoopOK Tryz.prog 0 none (loopB Tryz.prog 18 [true, true, false, true, false]) laT := by
  refine LoopOK.walk xLib_ok iLib_ok mixed [0, 5, 7, 1, 8, 9] [0, 5] (L := fun _ => none) (fun p : Int × List UInt8 × Nat × Nat => laS p.1 p.2.1 p.2.2.1 p.2.2.2) (fun p => p.2.2.1 ≤ p.2.1.length ∧ p.2.1.length ≤ 4294967280 ∧ p.2.2.2 < 65521) (fun p => p.2.1.length - p.2.2.1)
    (fun p e s => e = .exit 0 ∧ s = laE p.1 (sumL (p.2.1.drop p.2.2.1) p.2.2.2)) ?_ ?_
  · intro p hp
    obtain ⟨n, bs, i, c⟩ := p
    have hi : i ≤ bs.length := hp.1
    have hB : bs.length ≤ 4294967280 := hp.2.1
    have hc : c < 65521 := hp.2.2
    clear hp
    show roundP Tryz.prog xLib iLib 0 (fun _ => none) (loopB Tryz.prog 18 [true, true, false, true, false]) [0, 5, 7, 1, 8, 9] [0, 5] (laS n bs i c) _ _
    rw [← last_round]
    simp only [Bool.cond_decide, Int.toNat_natCast]
    split
    · rename_i hlt
      have hlt' : i < bs.length := by omega
      have hd : bs.drop i = bs.getD i 0 :: bs.drop (i + 1) := drop_cons hlt' 0
      have hb : (bs.getD i 0).toNat < 256 := UInt8.toNat_lt _
      refine ⟨⟨by omega, hlt⟩, by decide, (n, bs, i + 1, (31 * c + (bs.getD i 0).toNat) % 65521), ?_, ⟨by simp only; omega, hB, by simp only; omega⟩, by simp only; omega, fun e s' h => ?_⟩
      · rw [sum_step c _ hc hb, wrap_in _ (by omega) (by omega)]
        simp only [laS, Int.natCast_add, Int.cast_ofNat_Int]; rfl
      · simp only [hd, sumL]; exact h
    · rename_i hge
      have : bs.drop i = [] := List.drop_eq_nil_of_le (by omega)
      refine ⟨_, rfl, trivial, ?_⟩
      simp only [this, sumL]; rfl
  · intro s W Q hT
    obtain ⟨n, bs, h1, h2, h3⟩ := hT
    refine ⟨(n, bs, 0, 7), h1, ⟨Nat.zero_le _, h2, by show (7 : Nat) < 65521; decide⟩, fun e s' h => ⟨[], ?_⟩⟩
    obtain ⟨rfl, h⟩ := h
    simp only [List.drop_zero] at h
    rw [h]; exact h3
def lL : FuncId → Nat → Option LoopT := fun f p => bif Nat.beq f 18 && Nat.beq p 58 then some laT else none
theorem last_body (n : Int) (bs : List UInt8) (K : Go.Bv.KC) : (Go.Bv.LoopOK Go.Proofs.Tryz.prog (0 : Nat) Option.none (Go.Bv.loopB Go.Proofs.Tryz.prog (18 : Nat) [Bool.true, Bool.true, Bool.false, Bool.true, Bool.false]) Go.Proofs.laT ∧ ∃ (n_1 : Int), ∃ (bs_1 : List UInt8), Option.some (Go.Bv.VS.mk [((0 : Nat), Go.Bv.V.d (Go.Bv.D.int Go.IntKind.i64 n)), ((5 : Nat), Go.Bv.V.d (Go.Bv.D.int Go.IntKind.i64 (7 : Int))), ((7 : Nat), Go.Bv.V.d (Go.Bv.D.str bs)), ((1 : Nat), Go.Bv.V.d (Go.Bv.D.str bs)), ((8 : Nat), Go.Bv.V.d (Go.Bv.D.int Go.IntKind.i64 (↑(List.length bs) : Int))), ((9 : Nat), Go.Bv.V.d (Go.Bv.D.int Go.IntKind.i64 (0 : Int)))] [] (0 : Nat) [] (29 : Nat)) = Option.some (Go.Bv.VS.mk [((0 : Nat), Go.Bv.V.d (Go.Bv.D.int Go.IntKind.i64 n_1)), ((5 : Nat), Go.Bv.V.d (Go.Bv.D.int Go.IntKind.i64 (7 : Int))), ((7 : Nat), Go.Bv.V.d (Go.Bv.D.str bs_1)), ((1 : Nat), Go.Bv.V.d (Go.Bv.D.str bs_1)), ((8 : Nat), Go.Bv.V.d (Go.Bv.D.int Go.IntKind.i64 (↑(List.length bs_1) : Int))), ((9 : Nat), Go.Bv.V.d (Go.Bv.D.int Go.IntKind.i64 (0 : Int)))] [] (0 : Nat) [] (29 : Nat)) ∧ List.length bs_1 ≤ (4294967280 : Nat) ∧ ((0 : Int) ≤ (0 : Int) ∧ (0 : Int) < (3 : Int)) ∧ (Bool.true = Bool.true ∧ Bool.true = Bool.true ∧ ((0 : Nat) + List.length [[Go.Bv.D.str [(101 : UInt8), (110 : UInt8), (100 : UInt8)]]]) * (16 : Nat) ≤ (140737488355328 : Nat) ∧ (0 : Nat) + List.length [[Go.Bv.D.str [(101 : UInt8), (110 : UInt8), (100 : UInt8)]]] ≤ (9223372036854775807 : Nat)) ∧ ((0 : Int) ≤ (1 : Int) ∧ (1 : Int) < (3 : Int)) ∧ ((-9223372036854775808 : Int) ≤ n_1 ∧ n_1 ≤ (9223372036854775807 : Int)) ∧ ((0 : Nat) + List.length [[Go.Bv.D.str [(101 : UInt8), (110 : UInt8), (100 : UInt8)]]] ≤ List.length ([] ++ [[Go.Bv.D.str [(101 : UInt8), (110 : UInt8), (100 : UInt8)]]]) ∧ (0 : Nat) ≤ (0 : Nat) + List.length [[Go.Bv.D.str [(101 : UInt8), (110 : UInt8), (100 : UInt8)]]] ∧ ((0 : Nat) + List.length [[Go.Bv.D.str [(101 : UInt8), (110 : UInt8), (100 : UInt8)]]] + List.length [[Go.Bv.D.str (Go.Bv.itoaL n_1)]]) * (16 : Nat) ≤ (140737488355328 : Nat) ∧ (0 : Nat) + List.length [[Go.Bv.D.str [(101 : UInt8), (110 : UInt8), (100 : UInt8)]]] + List.length [[Go.Bv.D.str (Go.Bv.itoaL n_1)]] ≤ (9223372036854775807 : Nat)) ∧ ((0 : Int) ≤ (2 : Int) ∧ (2 : Int) < (3 : Int)) ∧ ((-9223372036854775808 : Int) ≤ (↑(Go.Bv.sumL bs_1 (7 : Nat)) : Int) ∧ (↑(Go.Bv.sumL bs_1 (7 : Nat)) : Int) ≤ (9223372036854775807 : Int)) ∧ ((0 : Nat) + List.length [[Go.Bv.D.str [(101 : UInt8), (110 : UInt8), (100 : UInt8)]]] + List.length [[Go.Bv.D.str (Go.Bv.itoaL n_1)]] ≤ List.length (List.take ((0 : Nat) + List.length [[Go.Bv.D.str [(101 : UInt8), (110 : UInt8), (100 : UInt8)]]]) ([] ++ [[Go.Bv.D.str [(101 : UInt8), (110 : UInt8), (100 : UInt8)]]]) ++ [[Go.Bv.D.str (Go.Bv.itoaL n_1)]]) ∧ (0 : Nat) ≤ (0 : Nat) + List.length [[Go.Bv.D.str [(101 : UInt8), (110 : UInt8), (100 : UInt8)]]] + List.length [[Go.Bv.D.str (Go.Bv.itoaL n_1)]] ∧ ((0 : Nat) + List.length [[Go.Bv.D.str [(101 : UInt8), (110 : UInt8), (100 : UInt8)]]] + List.length [[Go.Bv.D.str (Go.Bv.itoaL n_1)]] + List.length [[Go.Bv.D.str (Go.Bv.itoaL (↑(Go.Bv.sumL bs_1 (7 : Nat)) : Int))]]) * (16 : Nat) ≤ (140737488355328 : Nat) ∧ (0 : Nat) + List.length [[Go.Bv.D.str [(101 : UInt8), (110 : UInt8), (100 : UInt8)]]] + List.length [[Go.Bv.D.str (Go.Bv.itoaL n_1)]] + List.length [[Go.Bv.D.str (Go.Bv.itoaL (↑(Go.Bv.sumL bs_1 (7 : Nat)) : Int))]] ≤ (9223372036854775807 : Nat)) ∧ (0 : Nat) + List.length [[Go.Bv.D.str [(101 : UInt8), (110 : UInt8), (100 : UInt8)]]] + List.length [[Go.Bv.D.str (Go.Bv.itoaL n_1)]] + List.length [[Go.Bv.D.str (Go.Bv.itoaL (↑(Go.Bv.sumL bs_1 (7 : Nat)) : Int))]] = List.length (List.take ((0 : Nat) + List.length [[Go.Bv.D.str [(101 : UInt8), (110 : UInt8), (100 : UInt8)]]] + List.length [[Go.Bv.D.str (Go.Bv.itoaL n_1)]]) (List.take ((0 : Nat) + List.length [[Go.Bv.D.str [(101 : UInt8), (110 : UInt8), (100 : UInt8)]]]) ([] ++ [[Go.Bv.D.str [(101 : UInt8), (110 : UInt8), (100 : UInt8)]]]) ++ [[Go.Bv.D.str (Go.Bv.itoaL n_1)]]) ++ [[Go.Bv.D.str (Go.Bv.itoaL (↑(Go.Bv.sumL bs_1 (7 : Nat)) : Int))]]) ∧ (List.take ((0 : Nat) + List.length [[Go.Bv.D.str [(101 : UInt8), (110 : UInt8), (100 : UInt8)]]] + List.length [[Go.Bv.D.str (Go.Bv.itoaL n_1)]]) (List.take ((0 : Nat) + List.length [[Go.Bv.D.str [(101 : UInt8), (110 : UInt8), (100 : UInt8)]]]) ([] ++ [[Go.Bv.D.str [(101 : UInt8), (110 : UInt8), (100 : UInt8)]]]) ++ [[Go.Bv.D.str (Go.Bv.itoaL n_1)]]) ++ [[Go.Bv.D.str (Go.Bv.itoaL (↑(Go.Bv.sumL bs_1 (7 : Nat)) : Int))]] = Go.Bv.strsD (Go.Bv.strsV (List.take ((0 : Nat) + List.length [[Go.Bv.D.str [(101 : UInt8), (110 : UInt8), (100 : UInt8)]]] + List.length [[Go.Bv.D.str (Go.Bv.itoaL n_1)]]) (List.take ((0 : Nat) + List.length [[Go.Bv.D.str [(101 : UInt8), (110 : UInt8), (100 : UInt8)]]]) ([] ++ [[Go.Bv.D.str [(101 : UInt8), (110 : UInt8), (100 : UInt8)]]]) ++ [[Go.Bv.D.str (Go.Bv.itoaL n_1)]]) ++ [[Go.Bv.D.str (Go.Bv.itoaL (↑(Go.Bv.sumL bs_1 (7 : Nat)) : Int))]])) ∧ List.length (List.take ((0 : Nat) + List.length [[Go.Bv.D.str [(101 : UInt8), (110 : UInt8), (100 : UInt8)]]] + List.length [[Go.Bv.D.str (Go.Bv.itoaL n_1)]]) (List.take ((0 : Nat) + List.length [[Go.Bv.D.str [(101 : UInt8), (110 : UInt8), (100 : UInt8)]]]) ([] ++ [[Go.Bv.D.str [(101 : UInt8), (110 : UInt8), (100 : UInt8)]]]) ++ [[Go.Bv.D.str (Go.Bv.itoaL n_1)]]) ++ [[Go.Bv.D.str (Go.Bv.itoaL (↑(Go.Bv.sumL bs_1 (7 : Nat)) : Int))]]) ≤ (140737488355328 : Nat) ∧ List.length (Go.Bv.joinL [(32 : UInt8)] (Go.Bv.strsV (List.take ((0 : Nat) + List.length [[Go.Bv.D.str [(101 : UInt8), (110 : UInt8), (100 : UInt8)]]] + List.length [[Go.Bv.D.str (Go.Bv.itoaL n_1)]]) (List.take ((0 : Nat) + List.length [[Go.Bv.D.str [(101 : UInt8), (110 : UInt8), (100 : UInt8)]]]) ([] ++ [[Go.Bv.D.str [(101 : UInt8), (110 : UInt8), (100 : UInt8)]]]) ++ [[Go.Bv.D.str (Go.Bv.itoaL n_1)]]) ++ [[Go.Bv.D.str (Go.Bv.itoaL (↑(Go.Bv.sumL bs_1 (7 : Nat)) : Int))]]))) ≤ (140737488355328 : Nat)) ∧ List.length (Go.Bv.joinL [(32 : UInt8)] (Go.Bv.strsV (List.take ((0 : Nat) + List.length [[Go.Bv.D.str [(101 : UInt8), (110 : UInt8), (100 : UInt8)]]] + List.length [[Go.Bv.D.str (Go.Bv.itoaL n_1)]]) (List.take ((0 : Nat) + List.length [[Go.Bv.D.str [(101 : UInt8), (110 : UInt8), (100 : UInt8)]]]) ([] ++ [[Go.Bv.D.str [(101 : UInt8), (110 : UInt8), (100 : UInt8)]]]) ++ [[Go.Bv.D.str (Go.Bv.itoaL n_1)]]) ++ [[Go.Bv.D.str (Go.Bv.itoaL (↑(Go.Bv.sumL bs_1 (7 : Nat)) : Int))]]))) + (1 : Nat) ≤ (9223372036854775807 : Nat) ∧ K (Go.Bv.V.d (Go.Bv.D.str (Go.Bv.joinL [(32 : UInt8)] (Go.Bv.strsV (List.take ((0 : Nat) + List.length [[Go.Bv.D.str [(101 : UInt8), (110 : UInt8), (100 : UInt8)]]] + List.length [[Go.Bv.D.str (Go.Bv.itoaL n_1)]]) (List.take ((0 : Nat) + List.length [[Go.Bv.D.str [(101 : UInt8), (110 : UInt8), (100 : UInt8)]]]) ([] ++ [[Go.Bv.D.str [(101 : UInt8), (110 : UInt8), (100 : UInt8)]]]) ++ [[Go.Bv.D.str (Go.Bv.itoaL n_1)]]) ++ [[Go.Bv.D.str (Go.Bv.itoaL (↑(Go.Bv.sumL bs_1 (7 : Nat)) : Int))]])) ++ [(10 : UInt8)]))) [] []) = (inlN Tryz.prog xLib lL 4 18 [.d (.int .i64 n), .d (.str bs)] [] K) := by kernel_rfl
theorem digs_len : ∀ (f n : Nat) (acc : List UInt8), (digs f n acc).length ≤ f + acc.length
  | 0, n, acc => by simp [digs]
  | f + 1, n, acc => by
    simp only [digs]
    cases Nat.blt n 10 with
    | true => simp only [cond_true, List.length_cons]; omega
    | false => have := digs_len f (n / 10) (UInt8.ofNat (48 + n % 10) :: acc); simp only [cond_false, List.length_cons] at this ⊢; omega
theorem itoaL_len (n : Int) : (itoaL n).length ≤ 21 := by
  unfold itoaL
  cases n with
  | ofNat m => have := digs_len 20 m []; simp at this ⊢; omega
  | negSucc m => have := digs_len 20 (m + 1) []; simp at this ⊢; omega
theorem sumL_lt : ∀ (l : List UInt8) (c : Nat), c < 65521 → sumL l c < 65521
  | [], c, h => h
  | b :: r, c, h => sumL_lt r _ (Nat.mod_lt _ (by decide))
def lastZ (n : Int) (before : List UInt8) : List UInt8 := [101, 110, 100, 32] ++ (itoaL n ++ ([32] ++ (itoaL (sumL before 7) ++ [10])))
theorem last_spec (n : Int) (bs : List UInt8) (h0 : -9223372036854775808 ≤ n) (h1 : n ≤ 9223372036854775807) (h : bs.length ≤ 4294967280) : VSpec Tryz.prog 18 [.d (.int .i64 n), .d (.str bs)] [] (.d (.str (lastZ n bs))) [] := by
  refine VSpec.of_inl (inlN_ok (LL := lL) xLib_ok mixed 4 18) ?_
  rw [← last_body]
  have hs := sumL_lt bs 7 (by decide)
  have l1 := itoaL_len n
  have l2 := itoaL_len (sumL bs 7 : Nat)
  refine ⟨laT_ok, n, bs, rfl, h, ?_⟩
  simp only [List.length_cons, List.length_nil, List.length_append, List.nil_append, List.take, List.cons_append, strsV, List.map, List.getD_cons_zero, D.s, strsD, joinL, List.length_singleton]
  simp only [Nat.reduceAdd, Nat.reduceMul, Nat.reduceLeDiff, true_and, and_true, Int.reduceLE, Int.reduceLT]
  exact ⟨⟨h0, h1⟩, ⟨by omega, by omega⟩, by omega, by omega, by simp [lastZ]⟩
def text2L (n : Int) (s : List UInt8) : List UInt8 := itoaL n ++ (32 :: s)
theorem text2_body (n : Int) (s : List UInt8) (K : Go.Bv.KC) : (((0 : Int) ≤ (0 : Int) ∧ (0 : Int) < (2 : Int)) ∧ ((-9223372036854775808 : Int) ≤ n ∧ n ≤ (9223372036854775807 : Int)) ∧ (Bool.true = Bool.true ∧ Bool.true = Bool.true ∧ ((0 : Nat) + List.length [[Go.Bv.D.str (Go.Bv.itoaL n)]]) * (16 : Nat) ≤ (140737488355328 : Nat) ∧ (0 : Nat) + List.length [[Go.Bv.D.str (Go.Bv.itoaL n)]] ≤ (9223372036854775807 : Nat)) ∧ ((0 : Int) ≤ (1 : Int) ∧ (1 : Int) < (2 : Int)) ∧ ((0 : Nat) + List.length [[Go.Bv.D.str (Go.Bv.itoaL n)]] ≤ List.length ([] ++ [[Go.Bv.D.str (Go.Bv.itoaL n)]]) ∧ (0 : Nat) ≤ (0 : Nat) + List.length [[Go.Bv.D.str (Go.Bv.itoaL n)]] ∧ ((0 : Nat) + List.length [[Go.Bv.D.str (Go.Bv.itoaL n)]] + List.length [[Go.Bv.D.str s]]) * (16 : Nat) ≤ (140737488355328 : Nat) ∧ (0 : Nat) + List.length [[Go.Bv.D.str (Go.Bv.itoaL n)]] + List.length [[Go.Bv.D.str s]] ≤ (9223372036854775807 : Nat)) ∧ (0 : Nat) + List.length [[Go.Bv.D.str (Go.Bv.itoaL n)]] + List.length [[Go.Bv.D.str s]] = List.length (List.take ((0 : Nat) + List.length [[Go.Bv.D.str (Go.Bv.itoaL n)]]) ([] ++ [[Go.Bv.D.str (Go.Bv.itoaL n)]]) ++ [[Go.Bv.D.str s]]) ∧ (List.take ((0 : Nat) + List.length [[Go.Bv.D.str (Go.Bv.itoaL n)]]) ([] ++ [[Go.Bv.D.str (Go.Bv.itoaL n)]]) ++ [[Go.Bv.D.str s]] = Go.Bv.strsD (Go.Bv.strsV (List.take ((0 : Nat) + List.length [[Go.Bv.D.str (Go.Bv.itoaL n)]]) ([] ++ [[Go.Bv.D.str (Go.Bv.itoaL n)]]) ++ [[Go.Bv.D.str s]])) ∧ List.length (List.take ((0 : Nat) + List.length [[Go.Bv.D.str (Go.Bv.itoaL n)]]) ([] ++ [[Go.Bv.D.str (Go.Bv.itoaL n)]]) ++ [[Go.Bv.D.str s]]) ≤ (140737488355328 : Nat) ∧ List.length (Go.Bv.joinL [(32 : UInt8)] (Go.Bv.strsV (List.take ((0 : Nat) + List.length [[Go.Bv.D.str (Go.Bv.itoaL n)]]) ([] ++ [[Go.Bv.D.str (Go.Bv.itoaL n)]]) ++ [[Go.Bv.D.str s]]))) ≤ (140737488355328 : Nat)) ∧ K (Go.Bv.V.d (Go.Bv.D.str (Go.Bv.joinL [(32 : UInt8)] (Go.Bv.strsV (List.take ((0 : Nat) + List.length [[Go.Bv.D.str (Go.Bv.itoaL n)]]) ([] ++ [[Go.Bv.D.str (Go.Bv.itoaL n)]]) ++ [[Go.Bv.D.str s]]))))) [Go.Bv.Blk.box Bool.false [Go.Bv.V.d (Go.Bv.D.iface (3 : Go.TypeId) (Go.Bv.D.int Go.IntKind.i64 n)), Go.Bv.V.d (Go.Bv.D.iface (9 : Go.TypeId) (Go.Bv.D.str s))]] []) = (inlN Tryz.prog xLib l0 4 16 [.bsl 0 1 0 2 2] [.box false [.d (.iface 3 (.int .i64 n)), .d (.iface 9 (.str s))]] K) := by kernel_rfl
theorem text2_spec (n : Int) (s : List UInt8) (h0 : -9223372036854775808 ≤ n) (h1 : n ≤ 9223372036854775807) (h : s.length ≤ 4294967280) :
    VSpec Tryz.prog 16 [.bsl 0 1 0 2 2] [.box false [.d (.iface 3 (.int .i64 n)), .d (.iface 9 (.str s))]] (.d (.str (text2L n s))) [.box false [.d (.iface 3 (.int .i64 n)), .d (.iface 9 (.str s))]] := by
  refine VSpec.of_inl (inlN_ok (LL := l0) xLib_ok mixed 4 16) ?_
  rw [← text2_body]
  have l1 := itoaL_len n
  simp only [List.length_cons, List.length_nil, List.length_append, List.nil_append, List.take, List.cons_append, strsV, List.map, List.getD_cons_zero, D.s, strsD, joinL, List.length_singleton]
  simp only [Nat.reduceAdd, Nat.reduceMul, Nat.reduceLeDiff, true_and, and_true, Int.reduceLE, Int.reduceLT]
  exact ⟨⟨h0, h1⟩, by omega, rfl⟩
end Go.Proofs

namespace Go.Bv
open Go.RowKit

def bareG (g : Gh) : Gh := { M := g.M, β := fun _ => none, sv := fun _ => none, glo := g.glo }
theorem bare_rel {g : Gh} {H : List (Nat × Blk)} {w : World} (h : RelH g H w) : RelH (bareG g) (enumB 0 []) w := {
  wg := h.wg
  mem := h.mem
  blk := fun id b hb => by simp [hget_enum0] at hb
  inj := fun i j b b' k hi => by simp [hget_enum0] at hi }

theorem bare_dom (g : Gh) : Dom (bareG g) 0 := fun id h => by rcases h with h | h <;> cases h
theorem calls_bare {P : Program} {f : FuncId} {args : List V} {x : D} {g : Gh} {H : List (Nat × Blk)} {w : World} {cargs : Array Value} (hv : VSpec P f args [] (.d x) []) (hrel : RelH g H w) (hall : AllRel (bareG g) args cargs) :
    Calls P f cargs w (fun e w' => ∃ c g', e = .returned c ∧ RelV g' (.d x) c ∧ Below w.heap.size w w') :=
  (hv.2 (bareG g) w cargs (bare_rel hrel) (bare_dom g) hall).mono fun e w' ⟨c, he, g', hr, hrh, hfr, hd⟩ =>
    ⟨c, g', he, hr, ⟨hfr.os, hfr.tape, hfr.output, hfr.size, fun k hk => hfr.kept k hk (fun ⟨i, b, h1, _⟩ => by simp [entOf, hget_enum0] at h1)⟩⟩
theorem allRel_one {g : Gh} {v : V} {c : Value} (h : RelV g v c) : AllRel g [v] #[c] :=
  ⟨rfl, fun i v' c' hv hc => by
    match i, hv, hc with
    | 0, hv, hc => simp at hv hc; subst hv; subst hc; exact h⟩
theorem allRel_two {g : Gh} {v v2 : V} {c c2 : Value} (h : RelV g v c) (h2 : RelV g v2 c2) : AllRel g [v, v2] #[c, c2] :=
  ⟨rfl, fun i v' c' hv hc => by
    match i, hv, hc with
    | 0, hv, hc => simp at hv hc; subst hv; subst hc; exact h
    | 1, hv, hc => simp at hv hc; subst hv; subst hc; exact h2⟩
theorem arr_list (s : ByteArray) : (⟨s.data.toList.toArray⟩ : ByteArray) = s := by cases s; simp
theorem relStr (g : Gh) (s : ByteArray) : RelV g (.d (.str s.data.toList)) (.string s) := by
  have h : RelV g (.d (.str s.data.toList)) (.string ⟨s.data.toList.toArray⟩) := .d (.str _)
  rw [arr_list] at h; exact h
theorem builder_below {T e : TypeId} {B b : Nat} {bs : List Value} {w w' : World} (h : Lib.IsBuilderF T e B b bs w) (hb : Below w.heap.size w w') : Lib.IsBuilderF T e B b bs w' := by
  have key : ∀ p, Lib.BuilderAtF T e B b p bs w → Lib.BuilderAtF T e B b p bs w' := fun p ⟨h1, v, h2, h3, h4⟩ =>
    ⟨h1, v, by rw [hb.block b (Array.getElem?_eq_some_iff.1 h2).1]; exact h2,
      h3.kept (row := none) ⟨hb.os, hb.tape, hb.output, hb.size, fun k hk _ => hb.block k hk⟩ (by cases hv : v.ownBlock with | none => exact .inl rfl | some k => exact .inr (by simp)), h4⟩
  exact h.elim (fun x => .inl (key _ x)) (fun x => .inr (key _ x))

theorem below_past {w w' : World} {o : Obj} (h1 : w'.os = w.os) (h2 : w'.tape = w.tape) (h3 : w'.output = w.output) (h4 : (w.alloc o).heap.size ≤ w'.heap.size) (h5 : ∀ k, k < (w.alloc o).heap.size → k ≠ w.heap.size → w'.heap[k]? = (w.alloc o).heap[k]?) : Below w.heap.size w w' :=
  ⟨h1, h2, h3, by simp at h4; omega, fun k hk => by rw [h5 k (by simp; omega) (by omega)]; exact heap_alloc_lt hk⟩
end Go.Bv
namespace Go.Proofs
open Go Go.Bv Go.RowKit
theorem c14 {g : Gh} {H : List (Nat × Blk)} {w : World} (hrel : RelH g H w) (s : ByteArray) (h : s.data.toList.length ≤ 4294967280) :
    Calls Tryz.prog 14 #[.string s] w fun e w' => e = .returned (.bool (writableL s.data.toList)) ∧ Below w.heap.size w w' := by
  refine (calls_bare (writable_spec s.data.toList h) hrel (allRel_one (relStr _ s))).mono ?_
  rintro e w' ⟨c, g', rfl, hr, hb⟩
  rw [rel_bool hr]; exact ⟨rfl, hb⟩
theorem c18 {g : Gh} {H : List (Nat × Blk)} {w : World} (hrel : RelH g H w) (n : Int) (s : ByteArray) (h0 : -9223372036854775808 ≤ n) (h1 : n ≤ 9223372036854775807) (h : s.data.toList.length ≤ 4294967280) :
    Calls Tryz.prog 18 #[.int .i64 n, .string s] w fun e w' => e = .returned (.string ⟨(lastZ n s.data.toList).toArray⟩) ∧ Below w.heap.size w w' := by
  refine (calls_bare (last_spec n s.data.toList h0 h1 h) hrel (allRel_two (.d (.int _ _)) (relStr _ s))).mono ?_
  rintro e w' ⟨c, g', rfl, hr, hb⟩
  rw [rel_str hr]; exact ⟨rfl, hb⟩

theorem c16 {g : Gh} {H : List (Nat × Blk)} {w : World} (hrel : RelH g H w) (n : Int) (s : ByteArray) (t : TypeId) (h0 : -9223372036854775808 ≤ n) (h1 : n ≤ 9223372036854775807) (h : s.data.toList.length ≤ 4294967280) :
    Calls Tryz.prog 16 #[.slice (some ⟨w.heap.size, 0, none⟩) 2 2] (w.alloc (.cells #[.iface 3 (.int .i64 n), .iface 9 (.string s)] t)) fun e w' => e = .returned (.string ⟨(text2L n s.data.toList).toArray⟩) ∧ Below w.heap.size w w' := by
  have hM : ∀ o, g.M w.heap.size o = none := fun o => by
    cases hm : g.M w.heap.size o with
    | none => rfl
    | some c => have := cell_lt (hrel.mem _ _ _ hm); omega
  let g1 : Gh := { M := g.M, β := fun i => if i = 0 then some w.heap.size else none, sv := fun _ => none, glo := g.glo }
  have hbox : BlkRel g1 (w.alloc (.cells #[.iface 3 (.int .i64 n), .iface 9 (.string s)] t)) 0 (.box false [.d (.iface 3 (.int .i64 n)), .d (.iface 9 (.str s.data.toList))]) := by
    refine ⟨w.heap.size, _, t, rfl, heap_alloc_new w _, rfl, fun i v c hv hc => ?_, fun _ o => hM o, fun e => by cases e⟩
    match i, hv, hc with
    | 0, hv, hc => simp at hv hc; subst hv; subst hc; exact ⟨.d (.iface 3 (.int _ _)), rfl⟩
    | 1, hv, hc =>
      simp at hv hc; subst hv; subst hc
      have h2 : RelD g.M (.str s.data.toList) (.string s) := by
        have h3 : RelD g.M (.str s.data.toList) (.string ⟨s.data.toList.toArray⟩) := .str _
        rw [arr_list] at h3; exact h3
      exact ⟨.d (.iface 9 h2), rfl⟩
  have hrel1 : RelH g1 (enumB 0 [.box false [.d (.iface 3 (.int .i64 n)), .d (.iface 9 (.str s.data.toList))]]) (w.alloc (.cells #[.iface 3 (.int .i64 n), .iface 9 (.string s)] t)) := {
    wg := hrel.wg.of_lt (fun k hk => heap_alloc_lt hk)
    mem := fun b o c hm => by
      have := hrel.mem b o c hm
      rw [cell_heap (w := w) (heap_alloc_lt (cell_lt this))]; exact this
    blk := fun id b hb => by
      rw [hget_enum0] at hb
      match id, hb with
      | 0, hb => simp at hb; subst hb; exact hbox
    inj := fun i j b b' k hi hj _ _ _ _ => by
      rw [hget_enum0] at hi hj
      match i, j, hi, hj with
      | 0, 0, _, _ => rfl }
  have hdom : Dom g1 1 := fun id hid => by
    rcases hid with hid | hid
    · by_cases e : id = 0
      · omega
      · simp [g1, e] at hid
    · cases hid
  have hall : AllRel g1 [.bsl 0 1 0 2 2] #[.slice (some ⟨w.heap.size, 0, none⟩) 2 2] := allRel_one (.bsl (k := w.heap.size) rfl (Nat.le_refl _) (fun _ => rfl))
  refine ((text2_spec n s.data.toList h0 h1 h).2 g1 _ _ hrel1 hdom hall).mono ?_
  rintro e w' ⟨c, rfl, g', hr, hrh, hfr, hd⟩
  rw [rel_str hr]
  refine ⟨rfl, below_past hfr.os hfr.tape hfr.output hfr.size (fun k hk hne => hfr.kept k hk (fun ⟨i, b, hi, _, hk'⟩ => ?_))⟩
  have hi' : hget (enumB 0 [Blk.box false [.d (.iface 3 (.int .i64 n)), .d (.iface 9 (.str s.data.toList))]]) i = some b := hi
  rw [hget_enum0] at hi'
  match i, hi', hk' with
  | 0, _, hk' =>
    have : some w.heap.size = some k := hk'
    injection this with this
    exact hne this.symm
end Go.Proofs

namespace Go.Bv
theorem bodyL_snoc (a : List (List UInt8)) (x : List UInt8) : bodyL (a ++ [x]) = bodyL a ++ ((itoaL x.length ++ (32 :: x)) ++ [10]) := by
  induction a with
  | nil => simp [bodyL]
  | cons y r ih => simp only [List.cons_append, bodyL, ih]; simp
theorem lastL_Z (n : Nat) (l : List UInt8) : lastL n l = Go.Proofs.lastZ n l := rfl
theorem bodyL_len (a : List (List UInt8)) (h : a.all writableL = true) : (bodyL a).length ≤ a.length * 84 := by
  induction a with
  | nil => simp [bodyL]
  | cons y r ih =>
    simp only [List.all_cons, Bool.and_eq_true] at h
    have h1 := ih h.2
    have h2 := Go.Proofs.itoaL_len y.length
    have h3 : y.length ≤ 60 := by have := h.1; simp only [writableL, Bool.and_eq_true, decide_eq_true_eq] at this; exact this.2
    simp only [bodyL, List.length_append, List.length_cons, List.length_nil]
    omega

theorem all_take_false {a : List (List UInt8)} {k : Nat} {x : List UInt8} (h : a[k]? = some x) (hx : writableL x = false) : a.all writableL = false := by
  cases hb : a.all writableL with
  | false => rfl
  | true => rw [List.all_eq_true] at hb; rw [hb x (List.mem_of_getElem? h)] at hx; cases hx
theorem map_take_succ (xs : List ByteArray) (k : Nat) (h : k < xs.length) : (xs.take (k + 1)).map (·.data.toList) = (xs.take k).map (·.data.toList) ++ [xs[k].data.toList] := by
  rw [List.take_succ_eq_append_getElem h, List.map_append]; rfl
theorem str_nl (a : List UInt8) : ((⟨a.toArray⟩ : ByteArray) ++ ⟨#[10]⟩).data.toList = a ++ [10] := by
  simp
theorem cells_snoc (A : List (List UInt8)) (x : List UInt8) : Lib.byteCells (bodyL A) ++ Lib.strCells ((⟨(Go.Proofs.text2L x.length x).toArray⟩ : ByteArray) ++ ⟨#[10]⟩) = Lib.byteCells (bodyL (A ++ [x])) := by
  rw [Lib.strCells_eq, str_nl, ← Lib.byteCells_append, bodyL_snoc]; rfl
theorem writeL_bad {xs : List (List UInt8)} (h80 : ¬ 80 < xs.length) (hb : xs.all writableL = false) : writeL xs = ([], 121) := by simp [writeL, h80, hb]
theorem writeL_good {xs : List (List UInt8)} (h80 : ¬ 80 < xs.length) (hb : xs.all writableL = true) : writeL xs = (bodyL xs ++ Go.Proofs.lastZ xs.length (bodyL xs), 0) := by simp [writeL, h80, hb, lastL_Z]
theorem lastZ_len (n : Int) (l : List UInt8) : (Go.Proofs.lastZ n l).length ≤ 60 := by
  have h1 := Go.Proofs.itoaL_len n
  have h2 := Go.Proofs.itoaL_len (sumL l 7 : Nat)
  simp only [Go.Proofs.lastZ, List.length_append, List.length_cons, List.length_nil]
  omega
theorem size_list (x : ByteArray) : x.size = x.data.toList.length := by rw [Array.length_toList]; rfl
theorem str_add (a b : List UInt8) : (⟨a.toArray⟩ : ByteArray) ++ ⟨b.toArray⟩ = ⟨(a ++ b).toArray⟩ := by
  apply ByteArray.ext
  simp
end Go.Bv
namespace Go.Proofs
open Go Go.Bv Go.RowKit

set_option maxHeartbeats 1600000 in
theorem write_walk {g : Gh} {H : List (Nat × Blk)} {w : World} (hR : RelH g H w) (a : Option Addr) (b o cap : Nat) (xs : List ByteArray) (ha : xs ≠ [] → a = some ⟨b, o, none⟩) (hcells : ∀ (j : Nat) x, xs[j]? = some x → w.cell? ⟨b, o + j, none⟩ = some (.string x)) (hlen : ∀ x, x ∈ xs → x.data.toList.length ≤ 4294967280) (hn : xs.length ≤ 9223372036854775807) :
    Calls Tryz.prog 7 #[.slice a xs.length cap] w fun e w' => e = .returned (.tuple #[.string ⟨(writeL (xs.map (·.data.toList))).1.toArray⟩, .int .i64 (writeL (xs.map (·.data.toList))).2]) ∧ Below w.heap.size w w' := by
  by_cases h80 : 80 < xs.length
  · have hw : writeL (xs.map (·.data.toList)) = ([], 2) := by simp [writeL, h80]
    rw [hw]
    clear hw hcells hlen hR ha
    go_enter Tryz.func7, Tryz.ntmps7
    go_wp2
    go_ret2
    exact ⟨rfl, Below.refl _ _⟩
  · have h0 : Lib.IsBuilderF 59 5 w.heap.size w.heap.size (Lib.byteCells []) (w.alloc (.cells #[.pointer none, .slice none 0 0] 59)) := Lib.IsBuilderF.of (Lib.fresh_isBuilder 59 5 w)
    have b0 : Below w.heap.size w (w.alloc (.cells #[.pointer none, .slice none 0 0] 59)) := (Below.refl _ w).alloc (Nat.le_refl _) _
    have h80' : xs.length ≤ 80 := by omega
    have hd : decide (80 < (xs.length : Int)) = false := by simp; omega
    have HW : Hid (∃ ys, ys = xs.map (·.data.toList) ∧ True) := ⟨_, rfl, trivial⟩
    go_enter Tryz.func7, Tryz.ntmps7
    go_wp2
    go_loopw [12] (fun iv wr => ∃ k : Nat, k ≤ xs.length ∧ iv = .int .i64 k ∧ ((xs.take k).map (·.data.toList)).all writableL = true ∧ Lib.IsBuilderF 59 5 w.heap.size w.heap.size (Lib.byteCells (bodyL ((xs.take k).map (·.data.toList)))) wr ∧ Below w.heap.size w wr)
      (fun iv _ => xs.length - (intOf iv).toNat)
    case atStart => exact ⟨0, Nat.zero_le _, rfl, rfl, h0, b0⟩
    case round =>
      obtain ⟨k, hk, rfl, hall, hI, hB⟩ := hrel
      have hRr : RelH g H wr := hR.below hB
      have hsz := hB.size
      by_cases hlt : k < xs.length
      · have hne : xs ≠ [] := fun e => by rw [e] at hlt; exact absurd hlt (Nat.not_lt_zero _)
        obtain rfl := ha hne
        clear ha hne
        have hx : xs[k]? = some xs[k] := List.getElem?_eq_getElem hlt
        have hl := hlen xs[k] (List.getElem_mem hlt)
        have hc0 := hcells k _ hx
        have hcell : wr.cell? ⟨b, o + k, none⟩ = some (.string xs[k]) := (hB.cell (p := ⟨b, o + k, none⟩) (cell_lt hc0)).trans hc0
        have htake : (xs.take (k + 1)).map (·.data.toList) = (xs.take k).map (·.data.toList) ++ [xs[k].data.toList] := map_take_succ xs k hlt
        obtain ⟨x, hxe⟩ : ∃ x, x = xs[k] := ⟨_, rfl⟩
        rw [← hxe] at hx hl hcell htake
        have HT : Hid ((xs.take (k + 1)).map (·.data.toList) = (xs.take k).map (·.data.toList) ++ [x.data.toList]) := htake
        have HA : Hid (((xs.take k).map (·.data.toList)).all writableL = true) := hall
        have HX : Hid (xs[k]? = some x) := hx
        have HC : Hid (∀ (j : Nat) x, xs[j]? = some x → w.cell? ⟨b, o + j, none⟩ = some (.string x)) := hcells
        clear htake hall hx hcells hc0 hxe h0 b0 hlen hd
        have hl2 : (x.size : Int) ≤ 4294967280 := by have := size_list x; omega
        by_cases hw : writableL x.data.toList = true
        · have hx60 : x.size ≤ 60 := by
            have h3 := hw
            simp only [writableL, Bool.and_eq_true, decide_eq_true_eq] at h3
            have := size_list x
            omega
          have c14' : Calls Tryz.prog 14 #[.string x] wr fun e w' => e = .returned (.bool true) ∧ Below wr.heap.size wr w' := by
            have := c14 hRr x hl
            rw [hw] at this; exact this
          have HWx : Hid (writableL x.data.toList = true) := hw
          clear hw
          go_wp2_with (go_at_call 14; refine c14'.mono ?_; rintro e w1 ⟨rfl, hb1⟩)
          have hR1 : RelH g H w1 := hR.below (hB.trans (hb1.mono hsz))
          have hnl : (text2L x.size x.data.toList).length + 1 ≤ 9223372036854775807 := by
            have h7 := itoaL_len x.size
            have h8 := size_list x
            simp only [text2L, List.length_append, List.length_cons]
            omega
          go_wp2_with (go_at_call 16; refine (c16 hR1 x.size x 20 (by omega) (by omega) hl).mono ?_; rintro e w2 ⟨rfl, hb2⟩)
          have hb12 : Below wr.heap.size wr w2 := hb1.trans (hb2.mono hb1.size)
          have hI2 := builder_below hI hb12
          have hroom : (Lib.byteCells (bodyL ((xs.take k).map (·.data.toList)))).length + ((⟨(text2L x.size x.data.toList).toArray⟩ : ByteArray) ++ ⟨#[10]⟩).size ≤ 140737488355328 := by
            have h5 := bodyL_len _ HA.out
            have h6 : ((xs.take k).map (·.data.toList)).length ≤ 80 := by rw [List.length_map, List.length_take]; omega
            have h7 := itoaL_len x.size
            have h8 := size_list x
            rw [Lib.byteCells_length, size_list, str_nl]
            simp only [text2L, List.length_append, List.length_cons, List.length_nil]
            omega
          go_wp2_with (go_at_call 15; refine (Tryz.Builder_WriteString_f w.heap.size w.heap.size _ _ w2 hI2 hroom (Nat.le_trans hsz hb12.size)).mono ?_; rintro e w3 ⟨rfl, h3, hb3⟩)
          have hI3 : Lib.IsBuilderF 59 5 w.heap.size w.heap.size (Lib.byteCells (bodyL ((xs.take (k + 1)).map (·.data.toList)))) w3 := by
            rw [size_list x, cells_snoc, ← HT.out] at h3
            exact Or.inr h3
          have hall3 : ((xs.take (k + 1)).map (·.data.toList)).all writableL = true := by
            rw [HT.out, List.all_append, HA.out]; simp [HWx.out]
          have hB3 : Below w.heap.size w w3 := hB.trans ((hb12.mono hsz).trans hb3)
          clear h3 hroom hI2
          go_wp2
          go_roundw
          case rel => exact ⟨k + 1, by omega, by go_num, hall3, hI3, hB3⟩
          case measure => simp [intOf]; omega
        · have hw' : writableL x.data.toList = false := by simpa using hw
          have c14' : Calls Tryz.prog 14 #[.string x] wr fun e w' => e = .returned (.bool false) ∧ Below wr.heap.size wr w' := by
            have := c14 hRr x hl
            rw [hw'] at this; exact this
          have HV : Hid (writeL (xs.map (·.data.toList)) = ([], 121)) :=
            writeL_bad (by rw [List.length_map]; exact h80) (all_take_false (k := k) (x := x.data.toList) (by rw [List.getElem?_map, HX.out]; rfl) hw')
          clear hw hw'
          go_wp2_with (go_at_call 14; refine c14'.mono ?_; rintro e w1 ⟨rfl, hb1⟩)
          rw [HV.out]
          go_ret2
          exact ⟨rfl, hB.trans (hb1.mono hsz)⟩
      · have hkn : k = xs.length := by omega
        have hL : (xs.take k).map (·.data.toList) = xs.map (·.data.toList) := by rw [hkn, List.take_length]
        rw [hL] at hall hI
        have HV : Hid (writeL (xs.map (·.data.toList)) = (bodyL (xs.map (·.data.toList)) ++ lastZ (xs.map (·.data.toList)).length (bodyL (xs.map (·.data.toList))), 0)) :=
          writeL_good (by rw [List.length_map]; exact h80) hall
        have hlB := bodyL_len _ hall
        rw [List.length_map] at hlB
        obtain ⟨L, hLe⟩ : ∃ L, L = xs.map (·.data.toList) := ⟨_, rfl⟩
        have HL : Hid (L.length = xs.length) := (congrArg List.length hLe).trans (List.length_map _)
        rw [← hLe] at hI hlB
        have HV2 : Hid (writeL (xs.map (·.data.toList)) = (bodyL L ++ lastZ (xs.length : Nat) (bodyL L), 0)) := by
          have := HV.out
          rw [← hLe, HL.out] at this
          rw [← hLe]; exact this
        have hlZ := lastZ_len (xs.length : Nat) (bodyL L)
        have hnl : (bodyL L).length + (lastZ (xs.length : Nat) (bodyL L)).length ≤ 9223372036854775807 := by omega
        clear HV hL hall hLe hkn hcells hlen h0 b0 hd ha
        go_wp2_with (go_at_call 17; refine (Tryz.Builder_String_any_f w.heap.size w.heap.size (bodyL L) wr hI hsz).mono ?_; rintro e w1 ⟨rfl, hI1, hb1⟩)
        have hs1 := Nat.le_trans hsz hb1.size
        go_wp2_with (go_at_call 17; refine (Tryz.Builder_String_any_f w.heap.size w.heap.size (bodyL L) w1 hI1 hs1).mono ?_; rintro e w2 ⟨rfl, hI2, hb2⟩)
        have hs2 := Nat.le_trans hs1 hb2.size
        have hR2 : RelH g H w2 := hR.below ((hB.trans hb1).trans hb2)
        have c18' : Calls Tryz.prog 18 #[.int .i64 (xs.length : Nat), .string ⟨(bodyL L).toArray⟩] w2 fun e w' => e = .returned (.string ⟨(lastZ (xs.length : Nat) (bodyL L)).toArray⟩) ∧ Below w2.heap.size w2 w' :=
          c18 hR2 (xs.length : Nat) ⟨(bodyL L).toArray⟩ (by omega) (by omega) (by show (bodyL L).toArray.toList.length ≤ _; rw [List.toList_toArray]; omega)
        go_wp2_with (go_at_call 18; refine c18'.mono ?_; rintro e w3 ⟨rfl, hb3⟩)
        rw [HV2.out]
        go_ret2
        exact ⟨by simp only [str_add]; rfl, ((hB.trans hb1).trans hb2).trans (hb3.mono hs2)⟩

theorem write_spec (v : V) (H : List Blk) (xs : List (List UInt8)) (rd : List Nat) (hs : slOf (fun i => H[i]?) 1 v = some (strsD xs, rd)) (hlen : ∀ x, x ∈ xs → x.length ≤ 4294967280) (hn : xs.length ≤ 9223372036854775807) :
    VSpec Tryz.prog 7 [v] H (.tup [.d (.str (writeL xs).1), .d (.int .i64 (writeL xs).2)]) H := by
  refine VSpec.of_below fun g w cargs hrel hall => ?_
  obtain ⟨c, rfl, hc⟩ := hall.one
  obtain ⟨a, cap, rfl, hcap, hcells⟩ := sl_strs (relV_slice hrel hc hs)
  have hmap : (xs.map fun x => (⟨x.toArray⟩ : ByteArray)).map (·.data.toList) = xs := by rw [List.map_map]; exact (List.map_congr_left (fun x _ => by simp)).trans (List.map_id xs)
  have hl' : (xs.map fun x => (⟨x.toArray⟩ : ByteArray)).length = xs.length := by simp
  have hlen' : ∀ x, x ∈ (xs.map fun x => (⟨x.toArray⟩ : ByteArray)) → x.data.toList.length ≤ 4294967280 := fun x hx => by
    obtain ⟨y, hy, rfl⟩ := List.mem_map.1 hx
    exact hlen y hy
  have key : ∃ b o, (xs.map (fun x => (⟨x.toArray⟩ : ByteArray)) ≠ [] → a = some ⟨b, o, none⟩) ∧ ∀ (j : Nat) (x : ByteArray), (xs.map fun x => (⟨x.toArray⟩ : ByteArray))[j]? = some x → w.cell? ⟨b, o + j, none⟩ = some (.string x) := by
    by_cases hne : xs = []
    · subst hne; exact ⟨0, 0, fun e => absurd rfl e, fun j x hx => by simp at hx⟩
    · obtain ⟨b, o, rfl, _, hcell⟩ := hcells hne
      refine ⟨b, o, fun _ => rfl, fun j x hx => ?_⟩
      rw [List.getElem?_map] at hx
      obtain ⟨y, hy, rfl⟩ := Option.map_eq_some_iff.1 hx
      exact hcell j y hy
  obtain ⟨b, o, ha, hcell⟩ := key
  have hcall := write_walk hrel a b o cap (xs.map fun x => ⟨x.toArray⟩) ha hcell hlen' (by rw [hl']; exact hn)
  rw [hl', hmap] at hcall
  refine hcall.mono ?_
  rintro e w' ⟨rfl, hb⟩
  refine ⟨_, rfl, .tup _ _ rfl (fun i v c hv hc => ?_), hb⟩
  match i, hv, hc with
  | 0, hv, hc => simp at hv hc; subst hv; subst hc; exact .d (.str _)
  | 1, hv, hc => simp at hv hc; subst hv; subst hc; exact .d (.int _ _)
end Go.Proofs

namespace Go.Proofs
open Go Go.Bv
theorem ext_cons {P : Program} {n : FuncId} {e : List V → List Blk → Option (V × List Blk)} {X : ext} (h1 : ∀ args H r H', e args H = some (r, H') → VSpec P n args H r H') (h2 : ExtOK P X) : ExtOK P (fun f => bif Nat.beq f n then some e else X f) := by
  intro f g args H r H' hg h
  dsimp only at hg
  cases hb : Nat.beq f n with
  | true =>
    rw [hb] at hg
    simp only [cond_true, Option.some.injEq] at hg
    subst hg
    have e := Nat.eq_of_beq_eq_true hb
    subst e
    exact h1 _ _ _ _ h
  | false => rw [hb] at hg; exact h2 f g _ _ _ _ hg h
theorem ext_ok : ExtOK Tryz.prog (extAt nos) := by
  refine ext_cons (n := 36) ?_ (ext_cons (n := 37) ?_ (ext_cons (n := 67) ?_ (ext_cons (n := 129) ?_ (ext_cons (n := 130) ?_ (ext_cons (n := 7) ?_ (fun f g args H r H' hg => by cases hg))))))
  · intro args H r H' h
    unfold extItoa at h
    split at h
    · rename_i n
      cases hb : (decide (-9223372036854775808 ≤ n) && decide (n ≤ 9223372036854775807)) with
      | false => rw [hb] at h; cases h
      | true =>
        rw [hb] at h
        simp only [Bool.and_eq_true, decide_eq_true_eq] at hb
        cases h
        exact itoa_spec n hb.1 hb.2 H
    · cases h
  · intro args H r H' h
    unfold extJoin at h
    split at h
    · rename_i s sep
      split at h
      · rename_i es rd hs
        split at h
        · rename_i xs hx
          have hes := strsOf_eq _ _ hx
          subst hes
          cases hb : (Nat.ble xs.length 140737488355328 && Nat.ble (joinL sep xs).length 140737488355328) with
          | false => rw [hb] at h; cases h
          | true =>
            rw [hb] at h
            simp only [Bool.and_eq_true] at hb
            cases h
            exact join_spec s sep H xs rd hs (Nat.le_of_ble_eq_true hb.1) (Nat.le_of_ble_eq_true hb.2)
        · cases h
      · cases h
    · cases h
  · intro args H r H' h
    unfold extSplit at h
    split at h
    · rename_i s c
      cases hb : Nat.ble s.length 4294967280 with
      | false => rw [hb] at h; cases h
      | true =>
        rw [hb] at h
        cases h
        exact split_spec s c H (Nat.le_of_ble_eq_true hb)
    · cases h
  · intro args H r H' h
    unfold extTrim at h
    split at h
    · cases h; exact trim_spec _ _ H
    · cases h
  · intro args H r H' h
    unfold extAtoi at h
    split at h
    · rename_i l
      cases hb : Nat.ble l.length 18 with
      | false => rw [hb] at h; cases h
      | true =>
        rw [hb] at h
        simp only [cond_true] at h
        obtain ⟨n, hn, he⟩ := Option.map_eq_some_iff.1 h
        cases he
        exact atoi_spec l n (Nat.le_of_ble_eq_true hb) hn H
    · cases h
  · intro args H r H' h
    unfold extWrite at h
    split at h
    · rename_i s
      split at h
      · rename_i es rd hs
        split at h
        · rename_i xs hx
          have hes := strsOf_eq _ _ hx
          subst hes
          cases hb : (xs.all (fun x => Nat.ble x.length 4294967280) && Nat.ble xs.length 9223372036854775807) with
          | false => rw [hb] at h; cases h
          | true =>
            rw [hb] at h
            simp only [Bool.and_eq_true, List.all_eq_true] at hb
            cases h
            exact write_spec s H xs rd hs (fun x hx => Nat.le_of_ble_eq_true (hb.1 x hx)) (Nat.le_of_ble_eq_true hb.2)
        · cases h
      · cases h
    · cases h
end Go.Proofs
