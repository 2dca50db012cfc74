/- A part of the proof: an abstract heap, a verified walk over the program, and plain laws over lists. Conditions: none beyond the statement. -/
import Derived.Test.YtnbdnplmkifnhaaGreatDoorMF
import Derived.Test.YtnbdnplmkifnhaaGreatDoorMG
import Derived.Test.YtnbdnplmkifnhaaGreatDoorMH
set_option linter.unusedVariables false
set_option linter.unusedSimpArgs false
namespace Go.Bv

def nodeB (P : Program) (f : FuncId) (d : List Bool) : Code :=
  match P.funcs[f]? with
  | some fn => match fn.body with
    | some c => subCode c d
    | none => .skip
  | none => .skip
def NodeOK (P : Program) (na : Nat) (rv : Option Nat) (c : Code) (T : LoopT) : Prop := ∀ s W Q, T s W Q → ∃ e s' W', VWn P na rv c s (Is e s') ∧ Q e s' W'
section
variable (P : Program) (X : SX) (inl : FuncId → FSpec)
def atC (na : Nat) (rv : Option Nat) (o : Option LoopT) (c : Code) (s : VS) (W : List Nat) (Q : Exit → VS → List Nat → Prop) (r : Prop) : Prop :=
  match o with
  | some T => NodeOK P na rv c T ∧ T s W Q
  | none => r
def codeC (na : Nat) (rv : Option Nat) (C : Nat → Option LoopT) : Code → Nat → VS → List Nat → (Exit → VS → List Nat → Prop) → Prop
  | .skip, _, s, W, Q => Q .normal s W
  | .label _, _, s, W, Q => Q .normal s W
  | .exit id, _, s, W, Q => Q (.exit id) s W
  | .goto l, _, s, W, Q => Q (.goto l) s W
  | .ret, _, s, W, Q => Q .ret s W
  | .region _ ops draw, _, s, W, Q => regP P X inl draw ops s W fun s' W' => Q .normal s' W'
  | .seq a b, p, s, W, Q => atC P na rv (C p) (.seq a b) s W Q (codeC na rv C a (2 * p) s W fun e s' W' => match e with | .normal => codeC na rv C b (2 * p + 1) s' W' Q | e => Q e s' W')
  | .cond c a b, p, s, W, Q => atC P na rv (C p) (.cond c a b) s W Q (match evalV s.tm c with
    | .d (.bool v) => bif v then codeC na rv C a (2 * p) (setC s c true) W Q else codeC na rv C b (2 * p + 1) (setC s c false) W Q
    | _ => False)
  | .block id b, p, s, W, Q => atC P na rv (C p) (.block id b) s W Q (codeC na rv C b (2 * p) s W fun e s' W' => match e with | .exit id' => bif Nat.beq id' id then Q .normal s' W' else Q (.exit id') s' W' | e => Q e s' W')
  | .loop b, p, s, W, Q => atC P na rv (C p) (.loop b) s W Q (unroll (fun s W Q => codeC na rv C b (2 * p) s W Q) 64 s W Q)
  | _, _, _, _, _ => False
def bodyC (C : Nat → Option LoopT) (f : FuncId) : FSpec := fun args H K =>
  match P.funcs[f]? with
  | some fn => match fn.body with
    | some c => bif Nat.ble args.length fn.ntmps then
        codeC P X inl H.length none C c 1 { tm := enumV 0 args, hp := enumB 0 H, nx := H.length, us := [], N := fn.ntmps } [] fun e s' W => match e with
          | .ret | .normal => match resE P fn s' with
            | some r => match canon H.length r s'.hp with
              | some p => K p.1 p.2 (ltF H.length W)
              | none => False
            | none => False
          | _ => False
      else False
    | none => False
  | none => False
def roundC (na : Nat) (C : Nat → Option LoopT) (b : Code) (p : Nat) (keep keepE keepR : List Nat) (s : VS) (Kn : Option VS → Prop) (Ke : Exit → Option VS → Prop) : Prop :=
  codeC P X inl na none C b p s [] (roundQ2 na keep keepE keepR Kn Ke)
end
variable {P : Program} {X : SX} {inl : FuncId → FSpec}
theorem VWn.pre {na : Nat} {rv : Option Nat} {c : Code} {s s' : VS} {Q : Exit → VS → Prop} {keep : List Nat} (hc : canonN na keep s = some s') (h : VWn P na rv c s' Q) : VWn P na rv c s Q := fun E g a w n ro hna hro h1 h2 => by
  obtain ⟨g', h3, h4⟩ := canonN_ok h2 hna hc
  exact h E g' a w n ro hna hro h3 h4
theorem atC_ok {na : Nat} {rv : Option Nat} {o : Option LoopT} {c : Code} {s : VS} {W : List Nat} {Q : Exit → VS → List Nat → Prop} {r : Prop} (h : atC P na rv o c s W Q r)
    (hr : r → ∃ e s' W', VWn P na rv c s (Is e s') ∧ Q e s' W') : ∃ e s' W', VWn P na rv c s (Is e s') ∧ Q e s' W' := by
  unfold atC at h
  split at h
  · exact h.1 s W Q h.2
  · exact hr h
theorem codeC_ok (hX : XOK P X) (hI : ∀ f, FOK2 P f (inl f)) (hm : P.follows .mixedOrders = true) {na : Nat} {rv : Option Nat} {C : Nat → Option LoopT} : ∀ (c : Code) (p : Nat) (s : VS) (W : List Nat) (Q : Exit → VS → List Nat → Prop),
    codeC P X inl na rv C c p s W Q → ∃ e s' W', VWn P na rv c s (Is e s') ∧ Q e s' W' := by
  intro c
  induction c with
  | skip => intro p s W Q h; exact ⟨_, _, W, VWn.skip ⟨rfl, rfl⟩, h⟩
  | label l => intro p s W Q h; exact ⟨_, _, W, VWn.label ⟨rfl, rfl⟩, h⟩
  | exit id => intro p s W Q h; exact ⟨_, _, W, VWn.exit ⟨rfl, rfl⟩, h⟩
  | goto l => intro p s W Q h; exact ⟨_, _, W, VWn.goto ⟨rfl, rfl⟩, h⟩
  | ret => intro p s W Q h; exact ⟨_, _, W, VWn.ret ⟨rfl, rfl⟩, h⟩
  | region id ops draw =>
    intro p s W Q h
    obtain ⟨s', W', h1, h2⟩ := regP_ok (rv := rv) (id := id) hX hI hm h
    exact ⟨_, s', W', VWn.of_VW h1 (fun _ _ _ => trivial), h2⟩
  | seq a b iha ihb =>
    intro p s W Q h
    refine atC_ok h fun h => ?_
    obtain ⟨e, s1, W1, h1, h2⟩ := iha _ _ _ _ h
    cases e with
    | normal =>
      obtain ⟨e2, s2, W2, h3, h4⟩ := ihb _ _ _ _ h2
      refine ⟨e2, s2, W2, VWn.seq (h1.mono fun e' s'' ⟨h5, h6⟩ => ?_), h4⟩
      subst h5; subst h6; exact h3
    | exit id => exact ⟨_, s1, W1, VWn.seq (h1.mono fun e' s'' ⟨h5, h6⟩ => (by subst h5; subst h6; exact ⟨rfl, rfl⟩)), h2⟩
    | goto l => exact ⟨_, s1, W1, VWn.seq (h1.mono fun e' s'' ⟨h5, h6⟩ => (by subst h5; subst h6; exact ⟨rfl, rfl⟩)), h2⟩
    | ret => exact ⟨_, s1, W1, VWn.seq (h1.mono fun e' s'' ⟨h5, h6⟩ => (by subst h5; subst h6; exact ⟨rfl, rfl⟩)), h2⟩
    | panic ch => exact ⟨_, s1, W1, VWn.seq (h1.mono fun e' s'' ⟨h5, h6⟩ => (by subst h5; subst h6; exact ⟨rfl, rfl⟩)), h2⟩
    | outgrown => exact ⟨_, s1, W1, VWn.seq (h1.mono fun e' s'' ⟨h5, h6⟩ => (by subst h5; subst h6; exact ⟨rfl, rfl⟩)), h2⟩
  | cond c a b iha ihb =>
    intro p s W Q h
    refine atC_ok h fun h => ?_
    split at h
    · rename_i v hv
      cases v with
      | true =>
        simp only [cond_true, setC_same hv] at h
        obtain ⟨e, s1, W1, h1, h2⟩ := iha _ _ _ _ h
        exact ⟨e, s1, W1, VWn.cond hv (fun _ => h1) (fun e => by cases e), h2⟩
      | false =>
        simp only [cond_false, setC_same hv] at h
        obtain ⟨e, s1, W1, h1, h2⟩ := ihb _ _ _ _ h
        exact ⟨e, s1, W1, VWn.cond hv (fun e => by cases e) (fun _ => h1), h2⟩
    · exact h.elim
  | block id b ihb =>
    intro p s W Q h
    refine atC_ok h fun h => ?_
    obtain ⟨e, s1, W1, h1, h2⟩ := ihb _ _ _ _ h
    cases e with
    | exit id' =>
      simp only at h2
      cases hid : Nat.beq id' id with
      | true =>
        rw [hid] at h2
        refine ⟨_, s1, W1, VWn.block (h1.mono fun e' s'' ⟨h5, h6⟩ => ?_), h2⟩
        subst h5; subst h6
        show (if id' = id then _ else _)
        rw [if_pos (Nat.eq_of_beq_eq_true hid)]; exact ⟨rfl, rfl⟩
      | false =>
        rw [hid] at h2
        refine ⟨_, s1, W1, VWn.block (h1.mono fun e' s'' ⟨h5, h6⟩ => ?_), h2⟩
        subst h5; subst h6
        show (if id' = id then _ else _)
        rw [if_neg (fun e => by subst e; simp at hid)]; exact ⟨rfl, rfl⟩
    | normal => exact ⟨_, s1, W1, VWn.block (h1.mono fun e' s'' ⟨h5, h6⟩ => (by subst h5; subst h6; exact ⟨rfl, rfl⟩)), h2⟩
    | goto l => exact ⟨_, s1, W1, VWn.block (h1.mono fun e' s'' ⟨h5, h6⟩ => (by subst h5; subst h6; exact ⟨rfl, rfl⟩)), h2⟩
    | ret => exact ⟨_, s1, W1, VWn.block (h1.mono fun e' s'' ⟨h5, h6⟩ => (by subst h5; subst h6; exact ⟨rfl, rfl⟩)), h2⟩
    | panic ch => exact ⟨_, s1, W1, VWn.block (h1.mono fun e' s'' ⟨h5, h6⟩ => (by subst h5; subst h6; exact ⟨rfl, rfl⟩)), h2⟩
    | outgrown => exact ⟨_, s1, W1, VWn.block (h1.mono fun e' s'' ⟨h5, h6⟩ => (by subst h5; subst h6; exact ⟨rfl, rfl⟩)), h2⟩
  | loop b ihb =>
    intro p s W Q h
    refine atC_ok h fun h => ?_
    have key : ∀ (k : Nat) (s : VS) (W : List Nat) (Q : Exit → VS → List Nat → Prop), unroll (fun s W Q => codeC P X inl na rv C b (2 * p) s W Q) k s W Q → ∃ e s' W', VLn P na rv b s (Is e s') ∧ Q e s' W' := by
        intro k
        induction k with
        | zero => intro s W Q h; exact h.elim
        | succ k ih =>
          intro s W Q h
          obtain ⟨e, s1, W1, h1, h2⟩ := ihb _ _ _ _ h
          cases e with
          | normal =>
            obtain ⟨e2, s2, W2, h3, h4⟩ := ih _ _ _ h2
            exact ⟨e2, s2, W2, VLn.step (h1.mono fun e' s'' ⟨h5, h6⟩ => (by subst h5; subst h6; exact h3)), h4⟩
          | exit id => exact ⟨_, s1, W1, VLn.step (h1.mono fun e' s'' ⟨h5, h6⟩ => (by subst h5; subst h6; exact ⟨rfl, rfl⟩)), h2⟩
          | goto l => exact ⟨_, s1, W1, VLn.step (h1.mono fun e' s'' ⟨h5, h6⟩ => (by subst h5; subst h6; exact ⟨rfl, rfl⟩)), h2⟩
          | ret => exact ⟨_, s1, W1, VLn.step (h1.mono fun e' s'' ⟨h5, h6⟩ => (by subst h5; subst h6; exact ⟨rfl, rfl⟩)), h2⟩
          | panic ch => exact ⟨_, s1, W1, VLn.step (h1.mono fun e' s'' ⟨h5, h6⟩ => (by subst h5; subst h6; exact ⟨rfl, rfl⟩)), h2⟩
          | outgrown => exact ⟨_, s1, W1, VLn.step (h1.mono fun e' s'' ⟨h5, h6⟩ => (by subst h5; subst h6; exact ⟨rfl, rfl⟩)), h2⟩
    obtain ⟨e, s', W', h1, h2⟩ := key _ _ _ _ h
    exact ⟨e, s', W', VWn.of_VLn h1, h2⟩
  | _ => intro p s W Q h; exact h.elim
theorem bodyC_ok (hX : XOK P X) (hI : ∀ f, FOK2 P f (inl f)) (hm : P.follows .mixedOrders = true) {C : Nat → Option LoopT} {f : FuncId} : FOK2 P f (bodyC P X inl C f) := by
  intro args H K h
  unfold bodyC at h
  split at h
  · rename_i fn hf
    split at h
    · rename_i c hc
      cases hn : Nat.ble args.length fn.ntmps with
      | false => rw [hn] at h; exact h.elim
      | true =>
        rw [hn] at h
        simp only [cond_true] at h
        have hn' := Nat.le_of_ble_eq_true hn
        obtain ⟨e, s', W', hok, hq⟩ := codeC_ok hX hI hm c _ _ _ _ h
        have fin : (e = .ret ∨ e = .normal) → (match resE P fn s' with
              | some r => match canon H.length r s'.hp with
                | some p => K p.1 p.2 (ltF H.length W')
                | none => False
              | none => False) → ∃ r H' ch, VSpec P f args H r H' ∧ K r H' ch := fun he hm' => by
            split at hm'
            · rename_i r0 hr0
              split at hm'
              · rename_i p hp
                obtain ⟨r, H'⟩ := p
                refine ⟨r, H', _, ?_, hm'⟩
                refine VSpec.of_body' hf hc hn' (canon_len hp) (hok.mono fun e' s'' ⟨h1, h2⟩ => ?_)
                subst h1; subst h2
                refine ⟨he, fun E g a w hna hnx hi => ?_⟩
                obtain ⟨c', h3, h4⟩ := resE_ok hi hr0
                obtain ⟨_, g', h5, h6, h7, h8⟩ := canon_ok hi h4 hna hp
                exact ⟨c', g', h3, h5, h6, h7, h8⟩
              · exact hm'.elim
            · exact hm'.elim
        cases e with
        | ret => exact fin (.inl rfl) hq
        | normal => exact fin (.inr rfl) hq
        | _ => exact hq.elim
    · exact h.elim
  · exact h.elim

theorem NodeOK.walk {na : Nat} {C : Nat → Option LoopT} {b : Code} {p : Nat} {ι : Type} {T : LoopT} (hX : XOK P X) (hI : ∀ f, FOK2 P f (inl f)) (hm : P.follows .mixedOrders = true)
    (keep0 keep keepE keepR : List Nat) (S : ι → VS) (I : ι → Prop) (R : ι → Exit → VS → Prop)
    (walk : ∀ i, I i → roundC P X inl na C b p keep keepE keepR (S i) (fun o => ∃ s2, o = some s2 ∧ R i .normal s2) (fun e o => ∃ s2, o = some s2 ∧ R i e s2))
    (entry : ∀ s W Q, T s W Q → ∃ i, canonN na keep0 s = some (S i) ∧ I i ∧ ∀ e s', R i e s' → ∃ W', Q e s' W') : NodeOK P na none b T := by
  intro s W Q hT
  obtain ⟨i, h1, h2, h3⟩ := entry s W Q hT
  obtain ⟨e, s1, W1, h4, h5⟩ := codeC_ok hX hI hm b p (S i) [] _ (walk i h2)
  have fin : ∀ s2 keep', canonN na keep' s1 = some s2 → R i e s2 → ∃ e s' W', VWn P na none b s (Is e s') ∧ Q e s' W' := fun s2 keep' h6 h7 => by
    obtain ⟨W', h8⟩ := h3 e s2 h7
    exact ⟨e, s2, W', VWn.pre h1 (h4.canon h6), h8⟩
  cases e with
  | normal => obtain ⟨s2, h6, h7⟩ := h5; exact fin s2 _ h6 h7
  | exit id => obtain ⟨s2, h6, h7⟩ := h5; exact fin s2 _ h6 h7
  | goto l => obtain ⟨s2, h6, h7⟩ := h5; exact fin s2 _ h6 h7
  | ret => obtain ⟨s2, h6, h7⟩ := h5; exact fin s2 _ h6 h7
  | panic ch => obtain ⟨s2, h6, h7⟩ := h5; exact fin s2 _ h6 h7
  | outgrown => obtain ⟨s2, h6, h7⟩ := h5; exact fin s2 _ h6 h7
end Go.Bv

namespace Go.Bv

theorem dgL_ext : ∀ (r u : List UInt8) (l d : Nat), ((dgL r l d).1 < r.length → dgL (r ++ u) l d = dgL r l d) ∧ ((dgL r l d).1 = r.length → r.length ≤ (dgL (r ++ u) l d).1)
  | [], u, l, d => ⟨fun h => by simp [dgL] at h, fun _ => Nat.zero_le _⟩
  | b :: r, u, l, d => by
    simp only [dgL, List.cons_append]
    cases (decide (48 ≤ b.toNat) && decide (b.toNat ≤ 57) && (decide (d = 0) || decide (0 < l)) && decide (10 * l + (b.toNat - 48) ≤ 60)) with
    | true =>
      obtain ⟨h1, h2⟩ := dgL_ext r u (10 * l + (b.toNat - 48)) (d + 1)
      simp only [cond_true, List.length_cons]
      exact ⟨fun h => by rw [h1 (by omega)], fun h => by have := h2 (by omega); omega⟩
    | false => simp only [cond_false, List.length_cons]; exact ⟨fun _ => trivial, fun h => by omega⟩
theorem mat_ext : ∀ (r u z : List UInt8), ((mat r z).2 = true ∨ (mat r z).1 < r.length → mat (r ++ u) z = mat r z) ∧ ((mat r z).1 = r.length → r.length ≤ (mat (r ++ u) z).1)
  | r, u, [] => by simp only [mat]; exact ⟨fun _ => trivial, fun h => by omega⟩
  | [], u, y :: z => ⟨fun h => by simp [mat] at h, fun _ => Nat.zero_le _⟩
  | x :: r, u, y :: z => by
    simp only [mat, List.cons_append]
    cases decide (x.toNat = y.toNat) with
    | true =>
      obtain ⟨h1, h2⟩ := mat_ext r u z
      simp only [cond_true, List.length_cons]
      exact ⟨fun h => by rw [h1 (h.imp id (fun h => by omega))], fun h => by have := h2 (by omega); omega⟩
    | false => simp only [cond_false, List.length_cons]; exact ⟨fun _ => trivial, fun h => by omega⟩
theorem prL_ext : ∀ (r u : List UInt8) (n : Nat), ((prL r n).2 = true ∨ (prL r n).1 < r.length → prL (r ++ u) n = prL r n) ∧ ((prL r n).1 = r.length → r.length ≤ (prL (r ++ u) n).1)
  | r, u, 0 => by simp only [prL]; exact ⟨fun _ => trivial, fun h => by omega⟩
  | [], u, n + 1 => ⟨fun h => by simp [prL] at h, fun _ => Nat.zero_le _⟩
  | x :: r, u, n + 1 => by
    simp only [prL, List.cons_append]
    cases prB x with
    | true =>
      obtain ⟨h1, h2⟩ := prL_ext r u n
      simp only [cond_true, List.length_cons]
      exact ⟨fun h => by rw [h1 (h.imp id (fun h => by omega))], fun h => by have := h2 (by omega); omega⟩
    | false => simp only [cond_false, List.length_cons]; exact ⟨fun _ => trivial, fun h => by omega⟩
theorem mat_ok_len : ∀ (r z : List UInt8), (mat r z).2 = true → (mat r z).1 = z.length ∧ r = z ++ r.drop z.length
  | r, [], _ => ⟨by simp [mat], by simp⟩
  | [], y :: z, h => by simp [mat] at h
  | x :: r, y :: z, h => by
    simp only [mat] at h ⊢
    cases hd : decide (x.toNat = y.toNat) with
    | true =>
      rw [hd] at h
      obtain ⟨h1, h2⟩ := mat_ok_len r z (by simpa using h)
      have hxy : x = y := UInt8.toNat_inj.1 (of_decide_eq_true hd)
      simp only [cond_true, List.length_cons, h1, List.drop_succ_cons, List.cons_append]
      exact ⟨trivial, by rw [hxy, ← h2]⟩
    | false => rw [hd] at h; simp at h
theorem mat_self : ∀ (z u : List UInt8), mat (z ++ u) z = (z.length, true)
  | [], u => by simp [mat]
  | y :: z, u => by simp only [mat, List.cons_append, decide_true, cond_true, mat_self z u, List.length_cons]
theorem prL_ok : ∀ (r : List UInt8) (n : Nat), (prL r n).2 = true → (prL r n).1 = n ∧ n ≤ r.length ∧ (r.take n).all prB = true
  | r, 0, _ => ⟨by simp [prL], Nat.zero_le _, by simp⟩
  | [], n + 1, h => by simp [prL] at h
  | x :: r, n + 1, h => by
    simp only [prL] at h ⊢
    cases hx : prB x with
    | true =>
      rw [hx] at h
      obtain ⟨h1, h2, h3⟩ := prL_ok r n (by simpa using h)
      simp only [cond_true, h1, List.length_cons, List.take_succ_cons, List.all_cons, hx, h3, Bool.and_self]
      exact ⟨trivial, by omega, trivial⟩
    | false => rw [hx] at h; simp at h
theorem prL_self : ∀ (s u : List UInt8), s.all prB = true → prL (s ++ u) s.length = (s.length, true)
  | [], u, _ => by cases u <;> simp [prL]
  | x :: s, u, h => by
    simp only [List.all_cons, Bool.and_eq_true] at h
    simp only [List.length_cons, List.cons_append, prL, h.1, cond_true, prL_self s u h.2]

def lnW2 (r : List UInt8) (n : Nat) : (List UInt8 × Bool) × Nat :=
  bif (prL r n).2 then ((r.take (prL r n).1, (mat (r.drop (prL r n).1) [10]).2), (prL r n).1 + (mat (r.drop (prL r n).1) [10]).1) else (([], false), (prL r n).1)
def lnW (r : List UInt8) : (List UInt8 × Bool) × Nat :=
  bif decide ((dgL r 0 0).1 = 0) then (([], false), 0) else
  bif (mat (r.drop (dgL r 0 0).1) [32]).2 then ((lnW2 (r.drop ((dgL r 0 0).1 + 1)) (dgL r 0 0).2).1, (dgL r 0 0).1 + 1 + (lnW2 (r.drop ((dgL r 0 0).1 + 1)) (dgL r 0 0).2).2)
  else (([], false), (dgL r 0 0).1 + (mat (r.drop (dgL r 0 0).1) [32]).1)
theorem mat_one_ok {r : List UInt8} {c : UInt8} (h : (mat r [c]).2 = true) : (mat r [c]).1 = 1 := (mat_ok_len r [c] h).1
theorem take_drop_add (t : List UInt8) (a p : Nat) : (t.take (a + p)).drop a = (t.drop a).take p := by
  rw [List.drop_take]; congr 1; omega
theorem drop_add' (t : List UInt8) (a p : Nat) : t.drop (a + p) = (t.drop a).drop p := by rw [List.drop_drop]
theorem lineL2_W (t : List UInt8) (A n : Nat) : lineL2 t A n = ((lnW2 (t.drop A) n).1, A + (lnW2 (t.drop A) n).2) := by
  unfold lineL2 lnW2
  rw [take_drop_add, drop_add']
  cases (prL (t.drop A) n).2 with
  | true => simp only [cond_true, Nat.add_assoc]
  | false => simp only [cond_false]
theorem lineL_W (t : List UInt8) (a : Nat) : lineL t a = ((lnW (t.drop a)).1, a + (lnW (t.drop a)).2) := by
  unfold lineL lnW
  rw [drop_add']
  cases hk : decide ((dgL (t.drop a) 0 0).1 = 0) with
  | true => simp only [decide_eq_true_eq] at hk; simp only [cond_true, hk]
  | false =>
    simp only [cond_false]
    cases hm : (mat ((t.drop a).drop (dgL (t.drop a) 0 0).1) [32]).2 with
    | false => simp only [cond_false, Nat.add_assoc]
    | true =>
      simp only [cond_true]
      rw [mat_one_ok hm, lineL2_W, Nat.add_assoc, drop_add']
      simp only [Nat.add_assoc]
theorem drop_app (r u : List UInt8) (k : Nat) (h : k ≤ r.length) : (r ++ u).drop k = r.drop k ++ u := by
  rw [List.drop_append_of_le_length h]
theorem take_app (r u : List UInt8) (k : Nat) (h : k ≤ r.length) : (r ++ u).take k = r.take k := by
  rw [List.take_append_of_le_length h]
theorem lnW2_ge (r : List UInt8) (n : Nat) : (prL r n).1 ≤ (lnW2 r n).2 := by
  unfold lnW2
  cases (prL r n).2 with
  | true => simp only [cond_true]; omega
  | false => exact Nat.le_refl _
theorem lnW2_le (r : List UInt8) (n : Nat) : (lnW2 r n).2 ≤ r.length := by
  unfold lnW2
  have h1 := prL_le r n
  have h2 := mat_le (r.drop (prL r n).1) [10]
  rw [List.length_drop] at h2
  cases (prL r n).2 with
  | true => simp only [cond_true]; omega
  | false => exact h1
theorem lnW2_ext (r u : List UInt8) (n : Nat) : ((lnW2 r n).1.2 = true ∨ (lnW2 r n).2 < r.length → lnW2 (r ++ u) n = lnW2 r n) ∧ ((lnW2 r n).2 = r.length → r.length ≤ (lnW2 (r ++ u) n).2) := by
  obtain ⟨p1, p2⟩ := prL_ext r u n
  have hle := prL_le r n
  have hge := lnW2_ge (r ++ u) n
  cases hp : (prL r n).2 with
  | false =>
    have e : lnW2 r n = (([], false), (prL r n).1) := by unfold lnW2; rw [hp]; rfl
    rw [e]
    refine ⟨fun h => ?_, fun h => ?_⟩
    · have h : (prL r n).1 < r.length := h.elim (fun h => by cases h) id
      have e2 := p1 (.inr h)
      unfold lnW2; rw [e2, hp]; rfl
    · have := p2 h; omega
  | true =>
    have e2 := p1 (.inl hp)
    have e : lnW2 r n = ((r.take (prL r n).1, (mat (r.drop (prL r n).1) [10]).2), (prL r n).1 + (mat (r.drop (prL r n).1) [10]).1) := by unfold lnW2; rw [hp]; rfl
    have e3 : lnW2 (r ++ u) n = ((r.take (prL r n).1, (mat (r.drop (prL r n).1 ++ u) [10]).2), (prL r n).1 + (mat (r.drop (prL r n).1 ++ u) [10]).1) := by
      unfold lnW2; rw [e2, hp, drop_app _ _ _ hle, take_app _ _ _ hle]; rfl
    obtain ⟨m1, m2⟩ := mat_ext (r.drop (prL r n).1) u [10]
    rw [List.length_drop] at m1 m2
    rw [e, e3]
    refine ⟨fun h => ?_, fun h => ?_⟩
    · rw [m1 (h.imp id (fun h => by simp only at h; omega))]
    · simp only at h ⊢
      have := m2 (by omega); omega
theorem lnW_le (r : List UInt8) : (lnW r).2 ≤ r.length := by
  unfold lnW
  have h1 := dgL_le r 0 0
  have h2 := mat_le (r.drop (dgL r 0 0).1) [32]
  have h3 := lnW2_le (r.drop ((dgL r 0 0).1 + 1)) (dgL r 0 0).2
  rw [List.length_drop] at h2 h3
  cases decide ((dgL r 0 0).1 = 0) with
  | true => exact Nat.zero_le _
  | false =>
    simp only [cond_false]
    cases hm : (mat (r.drop (dgL r 0 0).1) [32]).2 with
    | false => simp only [cond_false]; omega
    | true => have := mat_one_ok hm; simp only [cond_true]; omega
theorem lnW_ge (r : List UInt8) : (dgL r 0 0).1 ≤ (lnW r).2 := by
  unfold lnW
  cases hk : decide ((dgL r 0 0).1 = 0) with
  | true => simp only [decide_eq_true_eq] at hk; simp only [cond_true]; omega
  | false =>
    simp only [cond_false]
    cases hm : (mat (r.drop (dgL r 0 0).1) [32]).2 with
    | false => simp only [cond_false]; omega
    | true => simp only [cond_true]; omega
theorem lnW_ext (r u : List UInt8) : ((lnW r).1.2 = true ∨ (lnW r).2 < r.length → lnW (r ++ u) = lnW r) ∧ ((lnW r).2 = r.length → r.length ≤ (lnW (r ++ u)).2) := by
  obtain ⟨p1, p2⟩ := dgL_ext r u 0 0
  have hle := dgL_le r 0 0
  have hge := lnW_ge (r ++ u)
  by_cases hlt : (dgL r 0 0).1 < r.length
  · have e2 := p1 hlt
    cases hk : decide ((dgL r 0 0).1 = 0) with
    | true =>
      have e : lnW r = (([], false), 0) := by unfold lnW; rw [hk]; rfl
      have e3 : lnW (r ++ u) = (([], false), 0) := by unfold lnW; rw [e2, hk]; rfl
      rw [e, e3]
      exact ⟨fun _ => rfl, fun h => by simp only at h; omega⟩
    | false =>
      cases hm : (mat (r.drop (dgL r 0 0).1) [32]).2 with
      | false =>
        have e : lnW r = (([], false), (dgL r 0 0).1 + (mat (r.drop (dgL r 0 0).1) [32]).1) := by unfold lnW; rw [hk, hm]; rfl
        obtain ⟨m1, m2⟩ := mat_ext (r.drop (dgL r 0 0).1) u [32]
        rw [List.length_drop] at m1 m2
        have e0 : (mat (r.drop (dgL r 0 0).1) [32]).1 = 0 := by
          cases hr : r.drop (dgL r 0 0).1 with
          | nil => rfl
          | cons x v =>
            rw [hr] at hm
            simp only [mat] at hm ⊢
            cases hd : decide (x.toNat = (32 : UInt8).toNat) with
            | true => rw [hd] at hm; simp at hm
            | false => rfl
        have e4 := m1 (.inr (by omega))
        have e3 : lnW (r ++ u) = (([], false), (dgL r 0 0).1 + (mat (r.drop (dgL r 0 0).1) [32]).1) := by
          unfold lnW; rw [e2, hk, drop_app _ _ _ hle, e4, hm]; rfl
        rw [e, e3]
        exact ⟨fun _ => rfl, fun h => by simp only at h; omega⟩
      | true =>
        have e4 := (mat_ext (r.drop (dgL r 0 0).1) u [32]).1 (.inl hm)
        have hm1 := mat_one_ok hm
        have hml := mat_le (r.drop (dgL r 0 0).1) [32]
        rw [List.length_drop] at hml
        have e : lnW r = ((lnW2 (r.drop ((dgL r 0 0).1 + 1)) (dgL r 0 0).2).1, (dgL r 0 0).1 + 1 + (lnW2 (r.drop ((dgL r 0 0).1 + 1)) (dgL r 0 0).2).2) := by unfold lnW; rw [hk, hm]; rfl
        have e3 : lnW (r ++ u) = ((lnW2 (r.drop ((dgL r 0 0).1 + 1) ++ u) (dgL r 0 0).2).1, (dgL r 0 0).1 + 1 + (lnW2 (r.drop ((dgL r 0 0).1 + 1) ++ u) (dgL r 0 0).2).2) := by
          unfold lnW; rw [e2, hk, drop_app _ _ _ hle, e4, hm, drop_app _ _ _ (by omega)]; rfl
        obtain ⟨m1, m2⟩ := lnW2_ext (r.drop ((dgL r 0 0).1 + 1)) u (dgL r 0 0).2
        rw [List.length_drop] at m1 m2
        rw [e, e3]
        refine ⟨fun h => ?_, fun h => ?_⟩
        · rw [m1 (h.imp id (fun h => by simp only at h; omega))]
        · simp only at h ⊢
          have := m2 (by omega); omega
  · have heq : (dgL r 0 0).1 = r.length := by omega
    have h2 := p2 heq
    have hd : r.drop (dgL r 0 0).1 = [] := by rw [heq]; exact List.drop_length
    have e : lnW r = (([], false), r.length) := by
      unfold lnW
      cases hk : decide ((dgL r 0 0).1 = 0) with
      | true => simp only [decide_eq_true_eq] at hk; simp only [cond_true]; rw [← heq, hk]
      | false => rw [hd]; simp only [mat, cond_false, heq, Nat.add_zero]
    rw [e]
    exact ⟨fun h => by simp at h, fun _ => by omega⟩

def finW (t : List UInt8) (a : Nat) (xs : List (List UInt8)) : List (List UInt8) × Nat × Nat :=
  bif (mat (t.drop a) (Go.Proofs.lastZ xs.length (t.take a))).2 && !decide (a + (mat (t.drop a) (Go.Proofs.lastZ xs.length (t.take a))).1 < t.length) then (xs, 0, 0)
  else ([], a + (mat (t.drop a) (Go.Proofs.lastZ xs.length (t.take a))).1, 122)
def contB (t : List UInt8) (a : Nat) (xs : List (List UInt8)) : Bool := decide (xs.length < 80) && (decide (a < t.length) && !decide ((t.getD a 0).toNat = 101))
def readG : Nat → List UInt8 → Nat → List (List UInt8) → List (List UInt8) × Nat × Nat
  | 0, t, a, xs => finW t a xs
  | f + 1, t, a, xs => bif contB t a xs then
      bif (lnW (t.drop a)).1.2 then readG f t (a + (lnW (t.drop a)).2) (xs ++ [(lnW (t.drop a)).1.1]) else ([], a + (lnW (t.drop a)).2, 122)
    else finW t a xs
theorem readG_L : ∀ (f : Nat) (t : List UInt8) (a : Nat) (xs : List (List UInt8)), readG f t a xs = bif (readL f t a xs).1 then finW t (readL f t a xs).2.1 (readL f t a xs).2.2 else ([], (readL f t a xs).2.1, 122)
  | 0, t, a, xs => rfl
  | f + 1, t, a, xs => by
    simp only [readG, readL, contB]
    cases decide (xs.length < 80) && (decide (a < t.length) && !decide ((t.getD a 0).toNat = 101)) with
    | false => rfl
    | true =>
      simp only [cond_true]
      rw [lineL_W]
      cases (lnW (t.drop a)).1.2 with
      | true => simp only [cond_true]; exact readG_L f t _ _
      | false => rfl
theorem readF_G (t : List UInt8) : readF t = readG 80 t 0 [] := by
  rw [readG_L]; rfl
theorem finW_or (t : List UInt8) (a : Nat) (xs : List (List UInt8)) : ((finW t a xs).2.2 = 0 ∧ (finW t a xs).2.1 = 0) ∨ ((finW t a xs).2.2 = 122 ∧ (finW t a xs).1 = [] ∧ a ≤ (finW t a xs).2.1 ∧ (a ≤ t.length → (finW t a xs).2.1 ≤ t.length)) := by
  unfold finW
  have := mat_le (t.drop a) (Go.Proofs.lastZ xs.length (t.take a))
  rw [List.length_drop] at this
  cases (mat (t.drop a) (Go.Proofs.lastZ xs.length (t.take a))).2 && !decide (a + (mat (t.drop a) (Go.Proofs.lastZ xs.length (t.take a))).1 < t.length) with
  | true => exact .inl ⟨rfl, rfl⟩
  | false => exact .inr ⟨rfl, rfl, by simp only [cond_false]; omega, fun h => by simp only [cond_false]; omega⟩
theorem readG_or : ∀ (f : Nat) (t : List UInt8) (a : Nat) (xs : List (List UInt8)), ((readG f t a xs).2.2 = 0 ∧ (readG f t a xs).2.1 = 0) ∨ ((readG f t a xs).2.2 = 122 ∧ (readG f t a xs).1 = [] ∧ a ≤ (readG f t a xs).2.1 ∧ (a ≤ t.length → (readG f t a xs).2.1 ≤ t.length))
  | 0, t, a, xs => finW_or t a xs
  | f + 1, t, a, xs => by
    simp only [readG]
    cases contB t a xs with
    | false => exact finW_or t a xs
    | true =>
      simp only [cond_true]
      have hl := lnW_le (t.drop a)
      rw [List.length_drop] at hl
      cases (lnW (t.drop a)).1.2 with
      | true =>
        simp only [cond_true]
        rcases readG_or f t (a + (lnW (t.drop a)).2) (xs ++ [(lnW (t.drop a)).1.1]) with h | ⟨h1, h2, h3, h4⟩
        · exact .inl h
        · exact .inr ⟨h1, h2, by omega, fun h => h4 (by omega)⟩
      | false => simp only [cond_false]; exact .inr ⟨trivial, trivial, by omega, fun h => by omega⟩
theorem lastZ_ne (n : Int) (l : List UInt8) : ∃ z, Go.Proofs.lastZ n l = 101 :: z := ⟨_, rfl⟩

def ExtR (s u : List UInt8) (x y : List (List UInt8) × Nat × Nat) : Prop :=
  (x.2.2 = 0 → u ≠ [] → y = ([], s.length, 122)) ∧ (x.2.2 = 122 → x.2.1 < s.length → y = x) ∧ (x.2.2 = 122 → x.2.1 = s.length → y.2.2 = 0 ∨ s.length ≤ y.2.1)
theorem finW_ext (s u : List UInt8) (a : Nat) (xs : List (List UInt8)) (ha : a ≤ s.length) : ExtR s u (finW s a xs) (finW (s ++ u) a xs) := by
  have e : finW (s ++ u) a xs = bif (mat (s.drop a ++ u) (Go.Proofs.lastZ xs.length (s.take a))).2 && !decide (a + (mat (s.drop a ++ u) (Go.Proofs.lastZ xs.length (s.take a))).1 < (s ++ u).length) then (xs, 0, 0)
      else ([], a + (mat (s.drop a ++ u) (Go.Proofs.lastZ xs.length (s.take a))).1, 122) := by
    unfold finW; rw [drop_app _ _ _ ha, take_app _ _ _ ha]
  have hor := finW_or (s ++ u) a xs
  rw [e] at hor ⊢
  unfold finW
  obtain ⟨m1, m2⟩ := mat_ext (s.drop a) u (Go.Proofs.lastZ xs.length (s.take a))
  have hl := mat_le (s.drop a) (Go.Proofs.lastZ xs.length (s.take a))
  generalize Go.Proofs.lastZ xs.length (s.take a) = z at *
  rw [List.length_drop] at m1 m2 hl
  generalize hm : mat (s.drop a) z = m at *
  obtain ⟨j, b⟩ := m
  simp only at m1 m2 hl ⊢
  cases b with
  | true =>
    rw [m1 (.inl rfl)] at hor ⊢
    simp only [Bool.true_and]
    cases hd : decide (a + j < s.length) with
    | true =>
      simp only [decide_eq_true_eq] at hd
      have hd2 : decide (a + j < (s ++ u).length) = true := by rw [List.length_append]; simp only [decide_eq_true_eq]; omega
      rw [hd2]
      exact ⟨fun h => (by cases h), fun _ _ => rfl, fun _ h => (by simp only [cond_true, Bool.not_true, cond_false] at h; omega)⟩
    | false =>
      simp only [decide_eq_false_iff_not] at hd
      refine ⟨fun _ hu => ?_, fun h => (by cases h), fun h => (by cases h)⟩
      have : 0 < u.length := List.length_pos_iff.2 hu
      have hd2 : decide (a + j < (s ++ u).length) = true := by rw [List.length_append]; simp only [decide_eq_true_eq]; omega
      rw [hd2]
      show ([], a + j, 122) = _
      rw [show a + j = s.length by omega]
  | false =>
    simp only [Bool.false_and, cond_false]
    refine ⟨fun h => (by cases h), fun _ h => ?_, fun _ h => ?_⟩
    · simp only at h
      rw [m1 (.inr (by omega))]; rfl
    · simp only at h
      rcases hor with h1 | ⟨h1, h2, h3, _⟩
      · exact .inl h1.1
      · right
        have := m2 (by omega)
        revert h1 h3
        cases (mat (s.drop a ++ u) z).2 && !decide (a + (mat (s.drop a ++ u) z).1 < (s ++ u).length) with
        | true => intro h1 _; cases h1
        | false => intro _ _; simp only [cond_false]; omega
theorem readG_ext : ∀ (f : Nat) (s u : List UInt8) (a : Nat) (xs : List (List UInt8)), a ≤ s.length → ExtR s u (readG f s a xs) (readG f (s ++ u) a xs)
  | 0, s, u, a, xs, ha => finW_ext s u a xs ha
  | f + 1, s, u, a, xs, ha => by
    by_cases hlt : a < s.length
    · have hc : contB (s ++ u) a xs = contB s a xs := by
        unfold contB
        have e1 : decide (a < (s ++ u).length) = decide (a < s.length) := by rw [List.length_append]; simp only [hlt, decide_true, decide_eq_true_eq]; omega
        have e2 : (s ++ u).getD a 0 = s.getD a 0 := by
          rw [List.getD_eq_getElem?_getD, List.getD_eq_getElem?_getD, List.getElem?_append_left hlt]
        rw [e1, e2]
      simp only [readG]
      rw [hc]
      cases contB s a xs with
      | false => exact finW_ext s u a xs ha
      | true =>
        simp only [cond_true]
        rw [drop_app _ _ _ ha]
        obtain ⟨l1, l2⟩ := lnW_ext (s.drop a) u
        have hl := lnW_le (s.drop a)
        rw [List.length_drop] at l1 l2 hl
        cases hok : (lnW (s.drop a)).1.2 with
        | true =>
          rw [l1 (.inl hok), hok]
          exact readG_ext f s u _ _ (by omega)
        | false =>
          simp only [cond_false]
          refine ⟨fun h => (by cases h), fun _ h => ?_, fun _ h => ?_⟩
          · rw [l1 (.inr (by simp only at h; omega)), hok]; rfl
          · have h2 := l2 (by simp only at h; omega)
            simp only at h
            cases (lnW (s.drop a ++ u)).1.2 with
            | true =>
              simp only [cond_true]
              rcases readG_or f (s ++ u) (a + (lnW (s.drop a ++ u)).2) (xs ++ [(lnW (s.drop a ++ u)).1.1]) with h3 | ⟨_, _, h3, _⟩
              · exact .inl h3.1
              · exact .inr (by omega)
            | false => right; simp only [cond_false]; omega
    · have heq : a = s.length := by omega
      have hc : contB s a xs = false := by
        unfold contB
        rw [show decide (a < s.length) = false by simp only [decide_eq_false_iff_not]; exact hlt]; simp
      have e : readG (f + 1) s a xs = ([], s.length, 122) := by
        simp only [readG, hc, cond_false]
        unfold finW
        rw [show s.drop a = [] by rw [heq]; exact List.drop_length]
        obtain ⟨z, hz⟩ := lastZ_ne xs.length (s.take a)
        rw [hz]
        simp only [mat, Bool.false_and, cond_false, Nat.add_zero, heq]
      rw [e]
      refine ⟨fun h => (by cases h), fun _ h => (by simp at h), fun _ _ => ?_⟩
      rcases readG_or (f + 1) (s ++ u) a xs with h3 | ⟨_, _, h3, _⟩
      · exact .inl h3.1
      · exact .inr (by omega)
theorem readF_ext (s u : List UInt8) : ExtR s u (readF s) (readF (s ++ u)) := by
  rw [readF_G, readF_G]; exact readG_ext 80 s u 0 [] (Nat.zero_le _)
theorem readF_or (t : List UInt8) : ((readF t).2.2 = 0 ∧ (readF t).2.1 = 0) ∨ ((readF t).2.2 = 122 ∧ (readF t).1 = [] ∧ (readF t).2.1 ≤ t.length) := by
  rw [readF_G]
  rcases readG_or 80 t 0 [] with h | ⟨h1, h2, h3, h4⟩
  · exact .inl h
  · exact .inr ⟨h1, h2, h4 (Nat.zero_le _)⟩

theorem ofNat_digit {b : UInt8} (h : 48 ≤ b.toNat) : UInt8.ofNat (48 + (b.toNat - 48)) = b := by
  rw [show 48 + (b.toNat - 48) = b.toNat by omega, UInt8.ofNat_toNat]
theorem toNat_digit (n : Nat) (h : n < 10) : (UInt8.ofNat (48 + n)).toNat = 48 + n := by
  rw [UInt8.toNat_ofNat']; omega
theorem dgL_stop (v : List UInt8) (l d : Nat) : dgL (32 :: v) l d = (0, l) := by
  simp only [dgL, show (32 : UInt8).toNat = 32 from rfl]; simp
theorem dgL_take {b : UInt8} {r : List UInt8} {l d : Nat} (h : 48 ≤ b.toNat ∧ b.toNat ≤ 57 ∧ (d = 0 ∨ 0 < l) ∧ 10 * l + (b.toNat - 48) ≤ 60) :
    dgL (b :: r) l d = ((dgL r (10 * l + (b.toNat - 48)) (d + 1)).1 + 1, (dgL r (10 * l + (b.toNat - 48)) (d + 1)).2) := by
  have : (decide (48 ≤ b.toNat) && decide (b.toNat ≤ 57) && (decide (d = 0) || decide (0 < l)) && decide (10 * l + (b.toNat - 48) ≤ 60)) = true := by
    simp only [Bool.and_eq_true, Bool.or_eq_true, decide_eq_true_eq]; exact ⟨⟨⟨h.1, h.2.1⟩, h.2.2.1⟩, h.2.2.2⟩
  simp only [dgL, this, cond_true]
theorem dgL_not {b : UInt8} {r : List UInt8} {l d : Nat} (h : ¬ (48 ≤ b.toNat ∧ b.toNat ≤ 57 ∧ (d = 0 ∨ 0 < l) ∧ 10 * l + (b.toNat - 48) ≤ 60)) : dgL (b :: r) l d = (0, l) := by
  have : (decide (48 ≤ b.toNat) && decide (b.toNat ≤ 57) && (decide (d = 0) || decide (0 < l)) && decide (10 * l + (b.toNat - 48) ≤ 60)) = false := by
    rw [← Bool.not_eq_true]
    simp only [Bool.and_eq_true, Bool.or_eq_true, decide_eq_true_eq]
    exact fun ⟨⟨⟨h1, h2⟩, h3⟩, h4⟩ => h ⟨h1, h2, h3, h4⟩
  simp only [dgL, this, cond_false]
theorem itoaL_two (n : Nat) (h : 10 ≤ n) (h2 : n < 100) : itoaL n = [UInt8.ofNat (48 + n / 10), UInt8.ofNat (48 + n % 10)] := by
  rw [itoaL_step n h (by omega), itoaL_small (n / 10) (by omega)]; rfl
theorem dgL_self (n : Nat) (h : n ≤ 60) (v : List UInt8) : dgL (itoaL n ++ 32 :: v) 0 0 = ((itoaL n).length, n) := by
  by_cases h10 : n < 10
  · rw [itoaL_small n h10]
    have e := toNat_digit n h10
    simp only [List.cons_append, List.nil_append]
    rw [dgL_take (by rw [e]; omega), dgL_stop, e]
    simp
  · have e1 := toNat_digit (n / 10) (by omega)
    have e2 := toNat_digit (n % 10) (by omega)
    rw [itoaL_two n (by omega) (by omega)]
    simp only [List.cons_append, List.nil_append]
    have s1 := dgL_take (b := UInt8.ofNat (48 + n / 10)) (r := UInt8.ofNat (48 + n % 10) :: 32 :: v) (l := 0) (d := 0) (by rw [e1]; omega)
    have s2 := dgL_take (b := UInt8.ofNat (48 + n % 10)) (r := 32 :: v) (l := 10 * 0 + ((UInt8.ofNat (48 + n / 10)).toNat - 48)) (d := 0 + 1) (by rw [e1, e2]; omega)
    rw [s1, s2, dgL_stop, e1, e2]
    simp only [List.length_cons, List.length_nil, Prod.mk.injEq]
    exact ⟨trivial, by omega⟩
theorem itoaL_head (n : Nat) (h : n ≤ 60) : ∃ b r, itoaL n = b :: r ∧ b.toNat ≠ 101 := by
  by_cases h10 : n < 10
  · exact ⟨_, _, itoaL_small n h10, by rw [toNat_digit n h10]; omega⟩
  · exact ⟨_, _, itoaL_two n (by omega) (by omega), by rw [toNat_digit (n / 10) (by omega)]; omega⟩
theorem dgL_canon (r : List UInt8) (h : (dgL r 0 0).1 ≠ 0) : r.take (dgL r 0 0).1 = itoaL (dgL r 0 0).2 ∧ (dgL r 0 0).2 ≤ 60 := by
  cases r with
  | nil => simp [dgL] at h
  | cons b r =>
    by_cases hb : 48 ≤ b.toNat ∧ b.toNat ≤ 57 ∧ ((0 : Nat) = 0 ∨ 0 < 0) ∧ 10 * 0 + (b.toNat - 48) ≤ 60
    · rw [dgL_take hb]
      have e0 : 10 * 0 + (b.toNat - 48) = b.toNat - 48 := by omega
      rw [e0]
      have one : (b :: r).take (0 + 1) = itoaL ((b.toNat - 48 : Nat) : Int) ∧ b.toNat - 48 ≤ 60 := by
        rw [itoaL_small _ (by omega), ofNat_digit hb.1]
        exact ⟨rfl, by omega⟩
      cases r with
      | nil => exact one
      | cons c r =>
        by_cases hc : 48 ≤ c.toNat ∧ c.toNat ≤ 57 ∧ (0 + 1 = 0 ∨ 0 < b.toNat - 48) ∧ 10 * (b.toNat - 48) + (c.toNat - 48) ≤ 60
        · rw [dgL_take hc]
          have e3 : dgL r (10 * (b.toNat - 48) + (c.toNat - 48)) (0 + 1 + 1) = (0, 10 * (b.toNat - 48) + (c.toNat - 48)) := by
            cases r with
            | nil => rfl
            | cons x r => exact dgL_not (by omega)
          rw [e3]
          simp only
          rw [itoaL_two _ (by omega) (by omega), show (10 * (b.toNat - 48) + (c.toNat - 48)) / 10 = b.toNat - 48 by omega, show (10 * (b.toNat - 48) + (c.toNat - 48)) % 10 = c.toNat - 48 by omega, ofNat_digit hb.1, ofNat_digit hc.1]
          exact ⟨rfl, by omega⟩
        · rw [dgL_not hc]; exact one
    · rw [dgL_not hb] at h; exact absurd rfl h
theorem lnW_self (y v : List UInt8) (h : writableL y = true) : lnW (itoaL y.length ++ (32 :: (y ++ (10 :: v)))) = ((y, true), (itoaL y.length).length + 1 + (y.length + 1)) := by
  rw [writableL_eq, Bool.and_eq_true, decide_eq_true_eq] at h
  have e := dgL_self y.length h.2 (y ++ (10 :: v))
  obtain ⟨b, q, hb, _⟩ := itoaL_head y.length h.2
  have hne : decide ((itoaL y.length).length = 0) = false := by rw [hb]; simp
  have d1 : (itoaL y.length ++ (32 :: (y ++ (10 :: v)))).drop (itoaL y.length).length = [32] ++ (y ++ (10 :: v)) := by rw [List.drop_left]; rfl
  have d2 : (itoaL y.length ++ (32 :: (y ++ (10 :: v)))).drop ((itoaL y.length).length + 1) = y ++ (10 :: v) := by rw [← List.drop_drop, d1]; rfl
  unfold lnW
  rw [e]
  simp only
  rw [hne, d1, d2, mat_self]
  simp only [cond_false, cond_true]
  unfold lnW2
  rw [prL_self _ _ h.1]
  simp only [cond_true]
  rw [List.drop_left, List.take_left, show (10 :: v : List UInt8) = [10] ++ v from rfl, mat_self]
  rfl
theorem bodyL_app : ∀ (a b : List (List UInt8)), bodyL (a ++ b) = bodyL a ++ bodyL b
  | [], b => rfl
  | x :: a, b => by simp only [List.cons_append, bodyL, bodyL_app a b, List.append_assoc]
theorem finW_self (xs : List (List UInt8)) : finW (bodyL xs ++ lastL xs.length (bodyL xs)) (bodyL xs).length xs = (xs, 0, 0) := by
  unfold finW
  rw [List.drop_left, List.take_left]
  have : mat (lastL xs.length (bodyL xs)) (Go.Proofs.lastZ xs.length (bodyL xs)) = ((lastL xs.length (bodyL xs)).length, true) := by
    have := mat_self (lastL xs.length (bodyL xs)) []
    rw [List.append_nil] at this; exact this
  rw [this]
  simp
theorem readG_self (xs : List (List UInt8)) (hb : xs.all writableL = true) (t : List UInt8) (ht : t = bodyL xs ++ lastL xs.length (bodyL xs)) : ∀ (f : Nat) (done rest : List (List UInt8)), xs = done ++ rest → done.length + f = 80 → xs.length ≤ 80 →
    readG f t (bodyL done).length done = (xs, 0, 0)
  | 0, done, rest, h1, h2, h3 => by
    have : rest = [] := by
      cases rest with
      | nil => rfl
      | cons y r => rw [h1] at h3; simp only [List.length_append, List.length_cons] at h3; omega
    subst this
    rw [List.append_nil] at h1
    subst h1
    simp only [readG]
    rw [ht]; exact finW_self xs
  | f + 1, done, [], h1, h2, h3 => by
    rw [List.append_nil] at h1
    subst h1
    have hc : contB t (bodyL xs).length xs = false := by
      unfold contB
      have : t.getD (bodyL xs).length 0 = 101 := by
        rw [ht, List.getD_eq_getElem?_getD, List.getElem?_append_right (Nat.le_refl _), Nat.sub_self]; rfl
      rw [this]
      simp
    simp only [readG, hc, cond_false]
    rw [ht]; exact finW_self xs
  | f + 1, done, y :: rest, h1, h2, h3 => by
    have hy : writableL y = true := List.all_eq_true.1 hb y (by rw [h1]; simp)
    have h60 : y.length ≤ 60 := by rw [writableL_eq, Bool.and_eq_true, decide_eq_true_eq] at hy; exact hy.2
    have hd : t.drop (bodyL done).length = itoaL y.length ++ (32 :: (y ++ (10 :: (bodyL rest ++ lastL xs.length (bodyL xs))))) := by
      rw [ht]
      have : bodyL xs = bodyL done ++ (itoaL y.length ++ ([32] ++ (y ++ (10 :: bodyL rest)))) := by rw [h1, bodyL_app]; rfl
      rw [show bodyL xs ++ lastL xs.length (bodyL xs) = bodyL done ++ ((itoaL y.length ++ ([32] ++ (y ++ (10 :: bodyL rest)))) ++ lastL xs.length (bodyL xs)) by
        conv => lhs; rw [this]
        rw [List.append_assoc, ← this], List.drop_left]
      simp [List.append_assoc]
    have hlt : (bodyL done).length < t.length := by
      obtain ⟨b, q, hb, _⟩ := itoaL_head y.length h60
      have := congrArg List.length hd
      rw [List.length_drop, hb] at this
      simp only [List.cons_append, List.length_cons] at this
      omega
    have hc : contB t (bodyL done).length done = true := by
      unfold contB
      have h4 : done.length < 80 := by omega
      have h5 : (t.getD (bodyL done).length 0).toNat ≠ 101 := by
        obtain ⟨b, q, hb, hb2⟩ := itoaL_head y.length h60
        have : t.getD (bodyL done).length 0 = b := by
          have h6 : (t.drop (bodyL done).length)[0]? = some b := by rw [hd, hb]; rfl
          rw [List.getElem?_drop, Nat.add_zero] at h6
          rw [List.getD_eq_getElem?_getD, h6]; rfl
        rw [this]; exact hb2
      rw [decide_eq_true h4, decide_eq_true hlt, decide_eq_false h5]; rfl
    simp only [readG, hc, cond_true]
    rw [hd, lnW_self _ _ hy]
    simp only [cond_true]
    have e : (bodyL done).length + ((itoaL y.length).length + 1 + (y.length + 1)) = (bodyL (done ++ [y])).length := by
      rw [bodyL_app]; simp only [bodyL, List.length_append, List.length_cons, List.length_nil]; omega
    rw [e]
    exact readG_self xs hb t ht f (done ++ [y]) rest (by rw [h1]; simp) (by simp only [List.length_append, List.length_cons, List.length_nil]; omega) h3
theorem writeL_ok {xs : List (List UInt8)} {F : List UInt8} (h : writeL xs = (F, 0)) : xs.length ≤ 80 ∧ xs.all writableL = true ∧ F = bodyL xs ++ lastL xs.length (bodyL xs) := by
  unfold writeL at h
  cases hd : decide (80 < xs.length) with
  | true => rw [hd] at h; simp only [cond_true, Prod.mk.injEq] at h; exact absurd h.2 (by decide)
  | false =>
    rw [hd] at h
    simp only [cond_false, decide_eq_false_iff_not] at h hd
    cases hb : xs.all writableL with
    | true => rw [hb] at h; simp only [cond_true, Prod.mk.injEq] at h; exact ⟨by omega, rfl, h.1.symm⟩
    | false => rw [hb] at h; simp only [cond_false, Prod.mk.injEq] at h; exact absurd h.2 (by decide)
theorem read_write {xs : List (List UInt8)} {F : List UInt8} (h : writeL xs = (F, 0)) : readF F = (xs, 0, 0) := by
  obtain ⟨h1, h2, h3⟩ := writeL_ok h
  rw [readF_G]
  exact readG_self xs h2 F h3 80 [] xs rfl rfl h1

theorem lnW_ok {r : List UInt8} (h : (lnW r).1.2 = true) : writableL (lnW r).1.1 = true ∧ r.take (lnW r).2 = itoaL (lnW r).1.1.length ++ ([32] ++ ((lnW r).1.1 ++ [10])) := by
  unfold lnW at h ⊢
  cases hk : decide ((dgL r 0 0).1 = 0) with
  | true => rw [hk] at h; simp at h
  | false =>
    rw [hk] at h
    simp only [cond_false, decide_eq_false_iff_not] at h hk ⊢
    obtain ⟨c1, c2⟩ := dgL_canon r hk
    cases hm : (mat (r.drop (dgL r 0 0).1) [32]).2 with
    | false => rw [hm] at h; simp at h
    | true =>
      rw [hm] at h
      simp only [cond_true] at h ⊢
      have hr := (mat_ok_len _ _ hm).2
      simp only [List.length_cons, List.length_nil, Nat.zero_add, List.drop_drop] at hr
      have hr0 : r = itoaL (dgL r 0 0).2 ++ ([32] ++ r.drop ((dgL r 0 0).1 + 1)) := by
        rw [← hr, ← c1, List.take_append_drop]
      have hlen : (itoaL (dgL r 0 0).2).length = (dgL r 0 0).1 := by
        rw [← c1, List.length_take]; have := dgL_le r 0 0; omega
      generalize hn : (dgL r 0 0).2 = n at *
      generalize hkk : (dgL r 0 0).1 = k at *
      generalize hq : r.drop (k + 1) = q at *
      unfold lnW2 at h ⊢
      cases hp : (prL q n).2 with
      | false => rw [hp] at h; simp at h
      | true =>
        rw [hp] at h
        simp only [cond_true] at h ⊢
        obtain ⟨p1, p2, p3⟩ := prL_ok q n hp
        rw [p1] at h ⊢
        have h10 := mat_ok_len _ _ h
        simp only [List.length_cons, List.length_nil, Nat.zero_add, List.drop_drop] at h10
        rw [h10.1]
        have hq0 : q = q.take n ++ ([10] ++ q.drop (n + 1)) := by
          rw [← h10.2, List.take_append_drop]
        have hl : (q.take n).length = n := by rw [List.length_take]; omega
        rw [hl]
        refine ⟨?_, ?_⟩
        · rw [writableL_eq, p3, hl]; simp [c2]
        · have : itoaL (n : Nat) ++ ([32] ++ (q.take n ++ ([10] ++ q.drop (n + 1)))) = (itoaL (n : Nat) ++ ([32] ++ (q.take n ++ [10]))) ++ q.drop (n + 1) := by simp [List.append_assoc]
          have hr1 : r = (itoaL (n : Nat) ++ ([32] ++ (q.take n ++ [10]))) ++ q.drop (n + 1) := by rw [← this, ← hq0]; exact hr0
          have hL : (itoaL (n : Nat) ++ ([32] ++ (q.take n ++ [10]))).length = k + 1 + (n + 1) := by
            simp only [List.length_append, List.length_cons, List.length_nil, hl, hlen]; omega
          conv => lhs; rw [hr1, ← hL, List.take_left]
theorem finW_ok {t : List UInt8} {a : Nat} {xs : List (List UInt8)} (ha : t.take a = bodyL xs) (hat : a ≤ t.length) (h : (finW t a xs).2.2 = 0) : (finW t a xs).1 = xs ∧ t = bodyL xs ++ lastL xs.length (bodyL xs) := by
  unfold finW at h ⊢
  rw [ha] at h ⊢
  cases hc : (mat (t.drop a) (Go.Proofs.lastZ xs.length (bodyL xs))).2 && !decide (a + (mat (t.drop a) (Go.Proofs.lastZ xs.length (bodyL xs))).1 < t.length) with
  | false => rw [hc] at h; simp at h
  | true =>
    simp only [cond_true]
    simp only [Bool.and_eq_true, Bool.not_eq_true', decide_eq_false_iff_not] at hc
    obtain ⟨m1, m2⟩ := mat_ok_len _ _ hc.1
    rw [m1] at hc
    have : (t.drop a).drop (Go.Proofs.lastZ xs.length (bodyL xs)).length = [] := by
      apply List.drop_eq_nil_of_le
      rw [List.length_drop]; omega
    rw [this, List.append_nil] at m2
    refine ⟨trivial, ?_⟩
    have e := List.take_append_drop a t
    rw [ha, m2] at e
    exact e.symm
theorem readG_ok : ∀ (f : Nat) (t : List UInt8) (a : Nat) (xs : List (List UInt8)), t.take a = bodyL xs → a ≤ t.length → xs.all writableL = true → xs.length + f = 80 → (readG f t a xs).2.2 = 0 →
    writeL (readG f t a xs).1 = (t, 0)
  | 0, t, a, xs, h1, h2, h3, h4, h5 => by
    simp only [readG] at h5 ⊢
    obtain ⟨e1, e2⟩ := finW_ok h1 h2 h5
    rw [e1]
    unfold writeL
    rw [show decide (80 < xs.length) = false by simp only [decide_eq_false_iff_not]; omega, h3, ← e2]; rfl
  | f + 1, t, a, xs, h1, h2, h3, h4, h5 => by
    simp only [readG] at h5 ⊢
    cases hc : contB t a xs with
    | false =>
      rw [hc] at h5
      simp only [cond_false] at h5 ⊢
      obtain ⟨e1, e2⟩ := finW_ok h1 h2 h5
      rw [e1]
      unfold writeL
      rw [show decide (80 < xs.length) = false by simp only [decide_eq_false_iff_not]; omega, h3, ← e2]; rfl
    | true =>
      rw [hc] at h5
      simp only [cond_true] at h5 ⊢
      cases hok : (lnW (t.drop a)).1.2 with
      | false => rw [hok] at h5; simp at h5
      | true =>
        rw [hok] at h5
        simp only [cond_true] at h5 ⊢
        obtain ⟨w1, w2⟩ := lnW_ok hok
        have hl := lnW_le (t.drop a)
        rw [List.length_drop] at hl
        refine readG_ok f t _ _ ?_ (by omega) ?_ ?_ h5
        · rw [List.take_add, h1, w2, bodyL_app]; simp [bodyL]
        · rw [List.all_append, h3]; simp [w1]
        · simp only [List.length_append, List.length_cons, List.length_nil]; omega
theorem write_read {t : List UInt8} (h : (readF t).2.2 = 0) : writeL (readF t).1 = (t, 0) := by
  rw [readF_G] at h ⊢
  exact readG_ok 80 t 0 [] (by simp [bodyL]) (Nat.zero_le _) rfl rfl h

theorem file_cut {xs : List (List UInt8)} {F : List UInt8} (h : writeL xs = (F, 0)) {k : Nat} (hk : k < F.length) : readF (F.take k) = ([], k, 122) := by
  obtain ⟨x1, x2, x3⟩ := readF_ext (F.take k) (F.drop k)
  rw [List.take_append_drop, read_write h] at x1 x2 x3
  have hl : (F.take k).length = k := by rw [List.length_take]; omega
  rw [hl] at x1 x2 x3
  have hu : F.drop k ≠ [] := fun e => by have := congrArg List.length e; rw [List.length_drop] at this; simp at this; omega
  rcases readF_or (F.take k) with ⟨h1, h2⟩ | ⟨h1, h2, h3⟩
  · have := x1 h1 hu; simp at this
  · rw [hl] at h3
    by_cases hlt : (readF (F.take k)).2.1 < k
    · have := x2 h1 hlt; rw [← this] at h1; cases h1
    · generalize readF (F.take k) = q at *
      obtain ⟨l, p, e⟩ := q
      simp only at h1 h2 h3 hlt
      subst h1; subst h2
      rw [show p = k by omega]
theorem file_turned {xs : List (List UInt8)} {F b : List UInt8} (h : writeL xs = (F, 0)) {k : Nat} (hk : k < F.length) (hb : b.take k = F.take k) (hne : b ≠ F) :
    ((readF b).2.2 = 0 → (readF b).1 ≠ xs) ∧ ((readF b).2.2 ≠ 0 → k ≤ (readF b).2.1) := by
  refine ⟨fun h0 hx => ?_, fun h0 => ?_⟩
  · have := write_read h0
    rw [hx, h] at this
    exact hne (congrArg Prod.fst this).symm
  · obtain ⟨x1, x2, x3⟩ := readF_ext (b.take k) (b.drop k)
    rw [List.take_append_drop] at x1 x2 x3
    rw [hb, file_cut h hk] at x3
    rcases x3 rfl (by show k = _; rw [List.length_take]; omega) with h1 | h1
    · exact absurd h1 h0
    · rw [List.length_take] at h1; omega
theorem read_bad {t : List UInt8} (h : (readF t).2.2 ≠ 0) : (readF t).2.2 = 122 ∧ (readF t).1 = [] ∧ (readF t).2.1 ≤ t.length ∧
    ((readF t).2.1 < t.length → readF (t.take ((readF t).2.1 + 1)) = ([], (readF t).2.1, 122)) ∧
    (readF (t.take (readF t).2.1) = ([], (readF t).2.1, 122) ∨ ((readF (t.take (readF t).2.1)).2.2 = 0 ∧ (readF t).2.1 < t.length)) := by
  rcases readF_or t with h1 | ⟨h1, h2, h3⟩
  · exact absurd h1.1 h
  · refine ⟨h1, h2, h3, fun hlt => ?_, ?_⟩
    · obtain ⟨x1, x2, x3⟩ := readF_ext (t.take ((readF t).2.1 + 1)) (t.drop ((readF t).2.1 + 1))
      rw [List.take_append_drop] at x1 x2 x3
      have hl : (t.take ((readF t).2.1 + 1)).length = (readF t).2.1 + 1 := by rw [List.length_take]; omega
      rw [hl] at x1 x2 x3
      rcases readF_or (t.take ((readF t).2.1 + 1)) with ⟨g1, g2⟩ | ⟨g1, g2, g3⟩
      · by_cases hu : t.drop ((readF t).2.1 + 1) = []
        · have : t.take ((readF t).2.1 + 1) = t := by
            have e := List.take_append_drop ((readF t).2.1 + 1) t
            rw [hu, List.append_nil] at e; exact e
          rw [this] at g1; exact absurd g1 h
        · have e := x1 g1 hu
          have := congrArg (fun q => q.2.1) e
          simp only at this; omega
      · rw [hl] at g3
        by_cases hlt2 : (readF (t.take ((readF t).2.1 + 1))).2.1 < (readF t).2.1 + 1
        · have e := x2 g1 hlt2
          rw [← e]
          generalize readF t = q at *
          obtain ⟨l, p, er⟩ := q
          simp only at h1 h2
          rw [h1, h2]
        · rcases x3 g1 (by omega) with g4 | g4
          · exact absurd g4 h
          · omega
    · by_cases heq : (readF t).2.1 = t.length
      · left
        rw [heq, List.take_length]
        generalize readF t = q at *
        obtain ⟨l, p, er⟩ := q
        simp only at h1 h2 heq
        rw [h1, h2, heq]
      · have hlt : (readF t).2.1 < t.length := by omega
        rcases readF_or (t.take (readF t).2.1) with ⟨g1, g2⟩ | ⟨g1, g2, g3⟩
        · exact .inr ⟨g1, hlt⟩
        · left
          have hl : (t.take (readF t).2.1).length = (readF t).2.1 := by rw [List.length_take]; omega
          rw [hl] at g3
          obtain ⟨x1, x2, x3⟩ := readF_ext (t.take (readF t).2.1) (t.drop (readF t).2.1)
          rw [List.take_append_drop, hl] at x1 x2 x3
          have : (readF (t.take (readF t).2.1)).2.1 = (readF t).2.1 := by
            by_cases hlt2 : (readF (t.take (readF t).2.1)).2.1 < (readF t).2.1
            · have := x2 g1 hlt2; rw [← this]
            · omega
          generalize readF (t.take (readF t).2.1) = q at *
          obtain ⟨l, p, er⟩ := q
          simp only at g1 g2 this
          rw [g1, g2, this]
end Go.Bv

namespace Go.Proofs
open Go Go.Bv

def iLaw : FuncId → FSpec := inlN Tryz.prog xLaw l0 1
theorem iLaw_ok : ∀ f, FOK2 Tryz.prog f (iLaw f) := inlN_ok xLaw_ok mixed 1
def byS (b : Bool) (es : List (List D)) (t : List UInt8) (a : Int) (F : List UInt8) (e : Int) : VS := stN 215 [(0, .d (.slice b es)), (1, .d (.str t)), (2, .d (.int .i64 a)), (7, .d (.str F)), (8, .d (.int .i64 e))] []
def byS2 (t : List UInt8) : VS := stN 215 [(1, .d (.str t))] []
def byE : VS := stN 215 [(6, .d (.bool true))] []
theorem bytes_a (b : Bool) (es : List (List Go.Bv.D)) (t : List UInt8) (a : Int) (F : List UInt8) (e : Int) (Kn : Option Go.Bv.VS → Prop) (Ke : Go.Exit → Option Go.Bv.VS → Prop) : (bif Decidable.decide (e = (0 : Int)) then List.length F ≤ (4294967280 : Nat) ∧ bif List.isEmpty (Prod.fst (Go.Bv.readF F)) then bif !Decidable.decide ((↑(Prod.snd (Prod.snd (Go.Bv.readF F))) : Int) = (0 : Int)) then Ke Go.Exit.ret (Option.some (Go.Bv.VS.mk [((6 : Nat), Go.Bv.V.d (Go.Bv.D.bool Bool.false))] [] (0 : Nat) [] (215 : Nat))) else bif !Decidable.decide ((↑(Prod.fst (Prod.snd (Go.Bv.readF F))) : Int) = (0 : Int)) then Ke Go.Exit.ret (Option.some (Go.Bv.VS.mk [((6 : Nat), Go.Bv.V.d (Go.Bv.D.bool Bool.false))] [] (0 : Nat) [] (215 : Nat))) else (([] : List (List Go.Bv.D)) = [] ∧ es = Go.Bv.strsD (Go.Bv.strsV es) ∧ (0 : Nat) ≤ (140737488355328 : Nat)) ∧ bif !Decidable.decide (Go.Bv.strsV ([] : List (List Go.Bv.D)) = Go.Bv.strsV es) then Ke Go.Exit.ret (Option.some (Go.Bv.VS.mk [((6 : Nat), Go.Bv.V.d (Go.Bv.D.bool Bool.false))] [] (0 : Nat) [] (215 : Nat))) else bif Decidable.decide ((0 : Int) ≤ a) then bif Decidable.decide (a < (↑(List.length F) : Int)) then ((0 : Int) ≤ a ∧ a < (↑(List.length F) : Int)) ∧ Int.toNat a < List.length F ∧ ((0 : Int) ≤ a ∧ a < (↑(List.length F) : Int)) ∧ (Int.toNat a < List.length F ∧ (0 : Int) ≤ Go.bits Go.BinOp.xor Go.IntKind.u8 (↑(UInt8.toNat (List.getD F (Int.toNat a) (0 : UInt8))) : Int) (2 : Int) ∧ Go.bits Go.BinOp.xor Go.IntKind.u8 (↑(UInt8.toNat (List.getD F (Int.toNat a) (0 : UInt8))) : Int) (2 : Int) < (256 : Int)) ∧ List.length F = List.length (List.set F (Int.toNat a) (UInt8.ofNat (Int.toNat (Go.bits Go.BinOp.xor Go.IntKind.u8 (↑(UInt8.toNat (List.getD F (Int.toNat a) (0 : UInt8))) : Int) (2 : Int))))) ∧ List.length (List.set F (Int.toNat a) (UInt8.ofNat (Int.toNat (Go.bits Go.BinOp.xor Go.IntKind.u8 (↑(UInt8.toNat (List.getD F (Int.toNat a) (0 : UInt8))) : Int) (2 : Int))))) ≤ (4294967280 : Nat) ∧ bif List.isEmpty (Prod.fst (Go.Bv.readF (List.set F (Int.toNat a) (UInt8.ofNat (Int.toNat (Go.bits Go.BinOp.xor Go.IntKind.u8 (↑(UInt8.toNat (List.getD F (Int.toNat a) (0 : UInt8))) : Int) (2 : Int))))))) then bif Decidable.decide ((↑(Prod.snd (Prod.snd (Go.Bv.readF (List.set F (Int.toNat a) (UInt8.ofNat (Int.toNat (Go.bits Go.BinOp.xor Go.IntKind.u8 (↑(UInt8.toNat (List.getD F (Int.toNat a) (0 : UInt8))) : Int) (2 : Int)))))))) : Int) = (0 : Int)) then (([] : List (List Go.Bv.D)) = [] ∧ es = Go.Bv.strsD (Go.Bv.strsV es) ∧ (0 : Nat) ≤ (140737488355328 : Nat)) ∧ bif Decidable.decide (Go.Bv.strsV ([] : List (List Go.Bv.D)) = Go.Bv.strsV es) then Ke Go.Exit.ret (Option.some (Go.Bv.VS.mk [((6 : Nat), Go.Bv.V.d (Go.Bv.D.bool Bool.false))] [] (0 : Nat) [] (215 : Nat))) else bif !Decidable.decide ((↑(Prod.snd (Prod.snd (Go.Bv.readF (List.set F (Int.toNat a) (UInt8.ofNat (Int.toNat (Go.bits Go.BinOp.xor Go.IntKind.u8 (↑(UInt8.toNat (List.getD F (Int.toNat a) (0 : UInt8))) : Int) (2 : Int)))))))) : Int) = (0 : Int)) then bif Decidable.decide ((↑(Prod.fst (Prod.snd (Go.Bv.readF (List.set F (Int.toNat a) (UInt8.ofNat (Int.toNat (Go.bits Go.BinOp.xor Go.IntKind.u8 (↑(UInt8.toNat (List.getD F (Int.toNat a) (0 : UInt8))) : Int) (2 : Int)))))))) : Int) < a) then Ke Go.Exit.ret (Option.some (Go.Bv.VS.mk [((6 : Nat), Go.Bv.V.d (Go.Bv.D.bool Bool.false))] [] (0 : Nat) [] (215 : Nat))) else ((0 : Int) ≤ (0 : Int) ∧ (0 : Int) ≤ a ∧ a ≤ (↑(List.length F) : Int)) ∧ List.length (List.drop (0 : Nat) (List.take (Int.toNat a) F)) ≤ (4294967280 : Nat) ∧ bif List.isEmpty (Prod.fst (Go.Bv.readF (List.drop (0 : Nat) (List.take (Int.toNat a) F)))) then bif !Decidable.decide ((↑(Prod.snd (Prod.snd (Go.Bv.readF (List.drop (0 : Nat) (List.take (Int.toNat a) F))))) : Int) = (122 : Int)) then Ke Go.Exit.ret (Option.some (Go.Bv.VS.mk [((6 : Nat), Go.Bv.V.d (Go.Bv.D.bool Bool.false))] [] (0 : Nat) [] (215 : Nat))) else bif !Decidable.decide ((↑(Prod.fst (Prod.snd (Go.Bv.readF (List.drop (0 : Nat) (List.take (Int.toNat a) F))))) : Int) = a) then Ke Go.Exit.ret (Option.some (Go.Bv.VS.mk [((6 : Nat), Go.Bv.V.d (Go.Bv.D.bool Bool.false))] [] (0 : Nat) [] (215 : Nat))) else Kn (Option.some (Go.Bv.VS.mk [((1 : Nat), Go.Bv.V.d (Go.Bv.D.str t))] [] (0 : Nat) [] (215 : Nat))) else bif !Decidable.decide ((↑(Prod.snd (Prod.snd (Go.Bv.readF (List.drop (0 : Nat) (List.take (Int.toNat a) F))))) : Int) = (122 : Int)) then Ke Go.Exit.ret (Option.some (Go.Bv.VS.mk [((6 : Nat), Go.Bv.V.d (Go.Bv.D.bool Bool.false))] [] (0 : Nat) [] (215 : Nat))) else bif !Decidable.decide ((↑(Prod.fst (Prod.snd (Go.Bv.readF (List.drop (0 : Nat) (List.take (Int.toNat a) F))))) : Int) = a) then Ke Go.Exit.ret (Option.some (Go.Bv.VS.mk [((6 : Nat), Go.Bv.V.d (Go.Bv.D.bool Bool.false))] [] (0 : Nat) [] (215 : Nat))) else Kn (Option.some (Go.Bv.VS.mk [((1 : Nat), Go.Bv.V.d (Go.Bv.D.str t))] [] (0 : Nat) [] (215 : Nat))) else ((0 : Int) ≤ (0 : Int) ∧ (0 : Int) ≤ a ∧ a ≤ (↑(List.length F) : Int)) ∧ List.length (List.drop (0 : Nat) (List.take (Int.toNat a) F)) ≤ (4294967280 : Nat) ∧ bif List.isEmpty (Prod.fst (Go.Bv.readF (List.drop (0 : Nat) (List.take (Int.toNat a) F)))) then bif !Decidable.decide ((↑(Prod.snd (Prod.snd (Go.Bv.readF (List.drop (0 : Nat) (List.take (Int.toNat a) F))))) : Int) = (122 : Int)) then Ke Go.Exit.ret (Option.some (Go.Bv.VS.mk [((6 : Nat), Go.Bv.V.d (Go.Bv.D.bool Bool.false))] [] (0 : Nat) [] (215 : Nat))) else bif !Decidable.decide ((↑(Prod.fst (Prod.snd (Go.Bv.readF (List.drop (0 : Nat) (List.take (Int.toNat a) F))))) : Int) = a) then Ke Go.Exit.ret (Option.some (Go.Bv.VS.mk [((6 : Nat), Go.Bv.V.d (Go.Bv.D.bool Bool.false))] [] (0 : Nat) [] (215 : Nat))) else Kn (Option.some (Go.Bv.VS.mk [((1 : Nat), Go.Bv.V.d (Go.Bv.D.str t))] [] (0 : Nat) [] (215 : Nat))) else bif !Decidable.decide ((↑(Prod.snd (Prod.snd (Go.Bv.readF (List.drop (0 : Nat) (List.take (Int.toNat a) F))))) : Int) = (122 : Int)) then Ke Go.Exit.ret (Option.some (Go.Bv.VS.mk [((6 : Nat), Go.Bv.V.d (Go.Bv.D.bool Bool.false))] [] (0 : Nat) [] (215 : Nat))) else bif !Decidable.decide ((↑(Prod.fst (Prod.snd (Go.Bv.readF (List.drop (0 : Nat) (List.take (Int.toNat a) F))))) : Int) = a) then Ke Go.Exit.ret (Option.some (Go.Bv.VS.mk [((6 : Nat), Go.Bv.V.d (Go.Bv.D.bool Bool.false))] [] (0 : Nat) [] (215 : Nat))) else Kn (Option.some (Go.Bv.VS.mk [((1 : Nat), Go.Bv.V.d (Go.Bv.D.str t))] [] (0 : Nat) [] (215 : Nat))) else bif !Decidable.decide ((↑(Prod.snd (Prod.snd (Go.Bv.readF (List.set F (Int.toNat a) (UInt8.ofNat (Int.toNat (Go.bits Go.BinOp.xor Go.IntKind.u8 (↑(UInt8.toNat (List.getD F (Int.toNat a) (0 : UInt8))) : Int) (2 : Int)))))))) : Int) = (0 : Int)) then bif Decidable.decide ((↑(Prod.fst (Prod.snd (Go.Bv.readF (List.set F (Int.toNat a) (UInt8.ofNat (Int.toNat (Go.bits Go.BinOp.xor Go.IntKind.u8 (↑(UInt8.toNat (List.getD F (Int.toNat a) (0 : UInt8))) : Int) (2 : Int)))))))) : Int) < a) then Ke Go.Exit.ret (Option.some (Go.Bv.VS.mk [((6 : Nat), Go.Bv.V.d (Go.Bv.D.bool Bool.false))] [] (0 : Nat) [] (215 : Nat))) else ((0 : Int) ≤ (0 : Int) ∧ (0 : Int) ≤ a ∧ a ≤ (↑(List.length F) : Int)) ∧ List.length (List.drop (0 : Nat) (List.take (Int.toNat a) F)) ≤ (4294967280 : Nat) ∧ bif List.isEmpty (Prod.fst (Go.Bv.readF (List.drop (0 : Nat) (List.take (Int.toNat a) F)))) then bif !Decidable.decide ((↑(Prod.snd (Prod.snd (Go.Bv.readF (List.drop (0 : Nat) (List.take (Int.toNat a) F))))) : Int) = (122 : Int)) then Ke Go.Exit.ret (Option.some (Go.Bv.VS.mk [((6 : Nat), Go.Bv.V.d (Go.Bv.D.bool Bool.false))] [] (0 : Nat) [] (215 : Nat))) else bif !Decidable.decide ((↑(Prod.fst (Prod.snd (Go.Bv.readF (List.drop (0 : Nat) (List.take (Int.toNat a) F))))) : Int) = a) then Ke Go.Exit.ret (Option.some (Go.Bv.VS.mk [((6 : Nat), Go.Bv.V.d (Go.Bv.D.bool Bool.false))] [] (0 : Nat) [] (215 : Nat))) else Kn (Option.some (Go.Bv.VS.mk [((1 : Nat), Go.Bv.V.d (Go.Bv.D.str t))] [] (0 : Nat) [] (215 : Nat))) else bif !Decidable.decide ((↑(Prod.snd (Prod.snd (Go.Bv.readF (List.drop (0 : Nat) (List.take (Int.toNat a) F))))) : Int) = (122 : Int)) then Ke Go.Exit.ret (Option.some (Go.Bv.VS.mk [((6 : Nat), Go.Bv.V.d (Go.Bv.D.bool Bool.false))] [] (0 : Nat) [] (215 : Nat))) else bif !Decidable.decide ((↑(Prod.fst (Prod.snd (Go.Bv.readF (List.drop (0 : Nat) (List.take (Int.toNat a) F))))) : Int) = a) then Ke Go.Exit.ret (Option.some (Go.Bv.VS.mk [((6 : Nat), Go.Bv.V.d (Go.Bv.D.bool Bool.false))] [] (0 : Nat) [] (215 : Nat))) else Kn (Option.some (Go.Bv.VS.mk [((1 : Nat), Go.Bv.V.d (Go.Bv.D.str t))] [] (0 : Nat) [] (215 : Nat))) else ((0 : Int) ≤ (0 : Int) ∧ (0 : Int) ≤ a ∧ a ≤ (↑(List.length F) : Int)) ∧ List.length (List.drop (0 : Nat) (List.take (Int.toNat a) F)) ≤ (4294967280 : Nat) ∧ bif List.isEmpty (Prod.fst (Go.Bv.readF (List.drop (0 : Nat) (List.take (Int.toNat a) F)))) then bif !Decidable.decide ((↑(Prod.snd (Prod.snd (Go.Bv.readF (List.drop (0 : Nat) (List.take (Int.toNat a) F))))) : Int) = (122 : Int)) then Ke Go.Exit.ret (Option.some (Go.Bv.VS.mk [((6 : Nat), Go.Bv.V.d (Go.Bv.D.bool Bool.false))] [] (0 : Nat) [] (215 : Nat))) else bif !Decidable.decide ((↑(Prod.fst (Prod.snd (Go.Bv.readF (List.drop (0 : Nat) (List.take (Int.toNat a) F))))) : Int) = a) then Ke Go.Exit.ret (Option.some (Go.Bv.VS.mk [((6 : Nat), Go.Bv.V.d (Go.Bv.D.bool Bool.false))] [] (0 : Nat) [] (215 : Nat))) else Kn (Option.some (Go.Bv.VS.mk [((1 : Nat), Go.Bv.V.d (Go.Bv.D.str t))] [] (0 : Nat) [] (215 : Nat))) else bif !Decidable.decide ((↑(Prod.snd (Prod.snd (Go.Bv.readF (List.drop (0 : Nat) (List.take (Int.toNat a) F))))) : Int) = (122 : Int)) then Ke Go.Exit.ret (Option.some (Go.Bv.VS.mk [((6 : Nat), Go.Bv.V.d (Go.Bv.D.bool Bool.false))] [] (0 : Nat) [] (215 : Nat))) else bif !Decidable.decide ((↑(Prod.fst (Prod.snd (Go.Bv.readF (List.drop (0 : Nat) (List.take (Int.toNat a) F))))) : Int) = a) then Ke Go.Exit.ret (Option.some (Go.Bv.VS.mk [((6 : Nat), Go.Bv.V.d (Go.Bv.D.bool Bool.false))] [] (0 : Nat) [] (215 : Nat))) else Kn (Option.some (Go.Bv.VS.mk [((1 : Nat), Go.Bv.V.d (Go.Bv.D.str t))] [] (0 : Nat) [] (215 : Nat))) else bif Decidable.decide ((↑(Prod.snd (Prod.snd (Go.Bv.readF (List.set F (Int.toNat a) (UInt8.ofNat (Int.toNat (Go.bits Go.BinOp.xor Go.IntKind.u8 (↑(UInt8.toNat (List.getD F (Int.toNat a) (0 : UInt8))) : Int) (2 : Int)))))))) : Int) = (0 : Int)) then (Go.Bv.strsD (Prod.fst (Go.Bv.readF (List.set F (Int.toNat a) (UInt8.ofNat (Int.toNat (Go.bits Go.BinOp.xor Go.IntKind.u8 (↑(UInt8.toNat (List.getD F (Int.toNat a) (0 : UInt8))) : Int) (2 : Int))))))) = Go.Bv.strsD (Go.Bv.strsV (Go.Bv.strsD (Prod.fst (Go.Bv.readF (List.set F (Int.toNat a) (UInt8.ofNat (Int.toNat (Go.bits Go.BinOp.xor Go.IntKind.u8 (↑(UInt8.toNat (List.getD F (Int.toNat a) (0 : UInt8))) : Int) (2 : Int))))))))) ∧ es = Go.Bv.strsD (Go.Bv.strsV es) ∧ List.length (Prod.fst (Go.Bv.readF (List.set F (Int.toNat a) (UInt8.ofNat (Int.toNat (Go.bits Go.BinOp.xor Go.IntKind.u8 (↑(UInt8.toNat (List.getD F (Int.toNat a) (0 : UInt8))) : Int) (2 : Int))))))) = List.length (Go.Bv.strsV (Go.Bv.strsD (Prod.fst (Go.Bv.readF (List.set F (Int.toNat a) (UInt8.ofNat (Int.toNat (Go.bits Go.BinOp.xor Go.IntKind.u8 (↑(UInt8.toNat (List.getD F (Int.toNat a) (0 : UInt8))) : Int) (2 : Int))))))))) ∧ List.length (Prod.fst (Go.Bv.readF (List.set F (Int.toNat a) (UInt8.ofNat (Int.toNat (Go.bits Go.BinOp.xor Go.IntKind.u8 (↑(UInt8.toNat (List.getD F (Int.toNat a) (0 : UInt8))) : Int) (2 : Int))))))) ≤ (140737488355328 : Nat)) ∧ bif Decidable.decide (Go.Bv.strsV (Go.Bv.strsD (Prod.fst (Go.Bv.readF (List.set F (Int.toNat a) (UInt8.ofNat (Int.toNat (Go.bits Go.BinOp.xor Go.IntKind.u8 (↑(UInt8.toNat (List.getD F (Int.toNat a) (0 : UInt8))) : Int) (2 : Int)))))))) = Go.Bv.strsV es) then Ke Go.Exit.ret (Option.some (Go.Bv.VS.mk [((6 : Nat), Go.Bv.V.d (Go.Bv.D.bool Bool.false))] [] (0 : Nat) [] (215 : Nat))) else bif !Decidable.decide ((↑(Prod.snd (Prod.snd (Go.Bv.readF (List.set F (Int.toNat a) (UInt8.ofNat (Int.toNat (Go.bits Go.BinOp.xor Go.IntKind.u8 (↑(UInt8.toNat (List.getD F (Int.toNat a) (0 : UInt8))) : Int) (2 : Int)))))))) : Int) = (0 : Int)) then bif Decidable.decide ((↑(Prod.fst (Prod.snd (Go.Bv.readF (List.set F (Int.toNat a) (UInt8.ofNat (Int.toNat (Go.bits Go.BinOp.xor Go.IntKind.u8 (↑(UInt8.toNat (List.getD F (Int.toNat a) (0 : UInt8))) : Int) (2 : Int)))))))) : Int) < a) then Ke Go.Exit.ret (Option.some (Go.Bv.VS.mk [((6 : Nat), Go.Bv.V.d (Go.Bv.D.bool Bool.false))] [] (0 : Nat) [] (215 : Nat))) else ((0 : Int) ≤ (0 : Int) ∧ (0 : Int) ≤ a ∧ a ≤ (↑(List.length F) : Int)) ∧ List.length (List.drop (0 : Nat) (List.take (Int.toNat a) F)) ≤ (4294967280 : Nat) ∧ bif List.isEmpty (Prod.fst (Go.Bv.readF (List.drop (0 : Nat) (List.take (Int.toNat a) F)))) then bif !Decidable.decide ((↑(Prod.snd (Prod.snd (Go.Bv.readF (List.drop (0 : Nat) (List.take (Int.toNat a) F))))) : Int) = (122 : Int)) then Ke Go.Exit.ret (Option.some (Go.Bv.VS.mk [((6 : Nat), Go.Bv.V.d (Go.Bv.D.bool Bool.false))] [] (0 : Nat) [] (215 : Nat))) else bif !Decidable.decide ((↑(Prod.fst (Prod.snd (Go.Bv.readF (List.drop (0 : Nat) (List.take (Int.toNat a) F))))) : Int) = a) then Ke Go.Exit.ret (Option.some (Go.Bv.VS.mk [((6 : Nat), Go.Bv.V.d (Go.Bv.D.bool Bool.false))] [] (0 : Nat) [] (215 : Nat))) else Kn (Option.some (Go.Bv.VS.mk [((1 : Nat), Go.Bv.V.d (Go.Bv.D.str t))] [] (0 : Nat) [] (215 : Nat))) else bif !Decidable.decide ((↑(Prod.snd (Prod.snd (Go.Bv.readF (List.drop (0 : Nat) (List.take (Int.toNat a) F))))) : Int) = (122 : Int)) then Ke Go.Exit.ret (Option.some (Go.Bv.VS.mk [((6 : Nat), Go.Bv.V.d (Go.Bv.D.bool Bool.false))] [] (0 : Nat) [] (215 : Nat))) else bif !Decidable.decide ((↑(Prod.fst (Prod.snd (Go.Bv.readF (List.drop (0 : Nat) (List.take (Int.toNat a) F))))) : Int) = a) then Ke Go.Exit.ret (Option.some (Go.Bv.VS.mk [((6 : Nat), Go.Bv.V.d (Go.Bv.D.bool Bool.false))] [] (0 : Nat) [] (215 : Nat))) else Kn (Option.some (Go.Bv.VS.mk [((1 : Nat), Go.Bv.V.d (Go.Bv.D.str t))] [] (0 : Nat) [] (215 : Nat))) else ((0 : Int) ≤ (0 : Int) ∧ (0 : Int) ≤ a ∧ a ≤ (↑(List.length F) : Int)) ∧ List.length (List.drop (0 : Nat) (List.take (Int.toNat a) F)) ≤ (4294967280 : Nat) ∧ bif List.isEmpty (Prod.fst (Go.Bv.readF (List.drop (0 : Nat) (List.take (Int.toNat a) F)))) then bif !Decidable.decide ((↑(Prod.snd (Prod.snd (Go.Bv.readF (List.drop (0 : Nat) (List.take (Int.toNat a) F))))) : Int) = (122 : Int)) then Ke Go.Exit.ret (Option.some (Go.Bv.VS.mk [((6 : Nat), Go.Bv.V.d (Go.Bv.D.bool Bool.false))] [] (0 : Nat) [] (215 : Nat))) else bif !Decidable.decide ((↑(Prod.fst (Prod.snd (Go.Bv.readF (List.drop (0 : Nat) (List.take (Int.toNat a) F))))) : Int) = a) then Ke Go.Exit.ret (Option.some (Go.Bv.VS.mk [((6 : Nat), Go.Bv.V.d (Go.Bv.D.bool Bool.false))] [] (0 : Nat) [] (215 : Nat))) else Kn (Option.some (Go.Bv.VS.mk [((1 : Nat), Go.Bv.V.d (Go.Bv.D.str t))] [] (0 : Nat) [] (215 : Nat))) else bif !Decidable.decide ((↑(Prod.snd (Prod.snd (Go.Bv.readF (List.drop (0 : Nat) (List.take (Int.toNat a) F))))) : Int) = (122 : Int)) then Ke Go.Exit.ret (Option.some (Go.Bv.VS.mk [((6 : Nat), Go.Bv.V.d (Go.Bv.D.bool Bool.false))] [] (0 : Nat) [] (215 : Nat))) else bif !Decidable.decide ((↑(Prod.fst (Prod.snd (Go.Bv.readF (List.drop (0 : Nat) (List.take (Int.toNat a) F))))) : Int) = a) then Ke Go.Exit.ret (Option.some (Go.Bv.VS.mk [((6 : Nat), Go.Bv.V.d (Go.Bv.D.bool Bool.false))] [] (0 : Nat) [] (215 : Nat))) else Kn (Option.some (Go.Bv.VS.mk [((1 : Nat), Go.Bv.V.d (Go.Bv.D.str t))] [] (0 : Nat) [] (215 : Nat))) else bif !Decidable.decide ((↑(Prod.snd (Prod.snd (Go.Bv.readF (List.set F (Int.toNat a) (UInt8.ofNat (Int.toNat (Go.bits Go.BinOp.xor Go.IntKind.u8 (↑(UInt8.toNat (List.getD F (Int.toNat a) (0 : UInt8))) : Int) (2 : Int)))))))) : Int) = (0 : Int)) then bif Decidable.decide ((↑(Prod.fst (Prod.snd (Go.Bv.readF (List.set F (Int.toNat a) (UInt8.ofNat (Int.toNat (Go.bits Go.BinOp.xor Go.IntKind.u8 (↑(UInt8.toNat (List.getD F (Int.toNat a) (0 : UInt8))) : Int) (2 : Int)))))))) : Int) < a) then Ke Go.Exit.ret (Option.some (Go.Bv.VS.mk [((6 : Nat), Go.Bv.V.d (Go.Bv.D.bool Bool.false))] [] (0 : Nat) [] (215 : Nat))) else ((0 : Int) ≤ (0 : Int) ∧ (0 : Int) ≤ a ∧ a ≤ (↑(List.length F) : Int)) ∧ List.length (List.drop (0 : Nat) (List.take (Int.toNat a) F)) ≤ (4294967280 : Nat) ∧ bif List.isEmpty (Prod.fst (Go.Bv.readF (List.drop (0 : Nat) (List.take (Int.toNat a) F)))) then bif !Decidable.decide ((↑(Prod.snd (Prod.snd (Go.Bv.readF (List.drop (0 : Nat) (List.take (Int.toNat a) F))))) : Int) = (122 : Int)) then Ke Go.Exit.ret (Option.some (Go.Bv.VS.mk [((6 : Nat), Go.Bv.V.d (Go.Bv.D.bool Bool.false))] [] (0 : Nat) [] (215 : Nat))) else bif !Decidable.decide ((↑(Prod.fst (Prod.snd (Go.Bv.readF (List.drop (0 : Nat) (List.take (Int.toNat a) F))))) : Int) = a) then Ke Go.Exit.ret (Option.some (Go.Bv.VS.mk [((6 : Nat), Go.Bv.V.d (Go.Bv.D.bool Bool.false))] [] (0 : Nat) [] (215 : Nat))) else Kn (Option.some (Go.Bv.VS.mk [((1 : Nat), Go.Bv.V.d (Go.Bv.D.str t))] [] (0 : Nat) [] (215 : Nat))) else bif !Decidable.decide ((↑(Prod.snd (Prod.snd (Go.Bv.readF (List.drop (0 : Nat) (List.take (Int.toNat a) F))))) : Int) = (122 : Int)) then Ke Go.Exit.ret (Option.some (Go.Bv.VS.mk [((6 : Nat), Go.Bv.V.d (Go.Bv.D.bool Bool.false))] [] (0 : Nat) [] (215 : Nat))) else bif !Decidable.decide ((↑(Prod.fst (Prod.snd (Go.Bv.readF (List.drop (0 : Nat) (List.take (Int.toNat a) F))))) : Int) = a) then Ke Go.Exit.ret (Option.some (Go.Bv.VS.mk [((6 : Nat), Go.Bv.V.d (Go.Bv.D.bool Bool.false))] [] (0 : Nat) [] (215 : Nat))) else Kn (Option.some (Go.Bv.VS.mk [((1 : Nat), Go.Bv.V.d (Go.Bv.D.str t))] [] (0 : Nat) [] (215 : Nat))) else ((0 : Int) ≤ (0 : Int) ∧ (0 : Int) ≤ a ∧ a ≤ (↑(List.length F) : Int)) ∧ List.length (List.drop (0 : Nat) (List.take (Int.toNat a) F)) ≤ (4294967280 : Nat) ∧ bif List.isEmpty (Prod.fst (Go.Bv.readF (List.drop (0 : Nat) (List.take (Int.toNat a) F)))) then bif !Decidable.decide ((↑(Prod.snd (Prod.snd (Go.Bv.readF (List.drop (0 : Nat) (List.take (Int.toNat a) F))))) : Int) = (122 : Int)) then Ke Go.Exit.ret (Option.some (Go.Bv.VS.mk [((6 : Nat), Go.Bv.V.d (Go.Bv.D.bool Bool.false))] [] (0 : Nat) [] (215 : Nat))) else bif !Decidable.decide ((↑(Prod.fst (Prod.snd (Go.Bv.readF (List.drop (0 : Nat) (List.take (Int.toNat a) F))))) : Int) = a) then Ke Go.Exit.ret (Option.some (Go.Bv.VS.mk [((6 : Nat), Go.Bv.V.d (Go.Bv.D.bool Bool.false))] [] (0 : Nat) [] (215 : Nat))) else Kn (Option.some (Go.Bv.VS.mk [((1 : Nat), Go.Bv.V.d (Go.Bv.D.str t))] [] (0 : Nat) [] (215 : Nat))) else bif !Decidable.decide ((↑(Prod.snd (Prod.snd (Go.Bv.readF (List.drop (0 : Nat) (List.take (Int.toNat a) F))))) : Int) = (122 : Int)) then Ke Go.Exit.ret (Option.some (Go.Bv.VS.mk [((6 : Nat), Go.Bv.V.d (Go.Bv.D.bool Bool.false))] [] (0 : Nat) [] (215 : Nat))) else bif !Decidable.decide ((↑(Prod.fst (Prod.snd (Go.Bv.readF (List.drop (0 : Nat) (List.take (Int.toNat a) F))))) : Int) = a) then Ke Go.Exit.ret (Option.some (Go.Bv.VS.mk [((6 : Nat), Go.Bv.V.d (Go.Bv.D.bool Bool.false))] [] (0 : Nat) [] (215 : Nat))) else Kn (Option.some (Go.Bv.VS.mk [((1 : Nat), Go.Bv.V.d (Go.Bv.D.str t))] [] (0 : Nat) [] (215 : Nat))) else Kn (Option.some (Go.Bv.VS.mk [((1 : Nat), Go.Bv.V.d (Go.Bv.D.str t))] [] (0 : Nat) [] (215 : Nat))) else Kn (Option.some (Go.Bv.VS.mk [((1 : Nat), Go.Bv.V.d (Go.Bv.D.str t))] [] (0 : Nat) [] (215 : Nat))) else bif !Decidable.decide ((↑(Prod.snd (Prod.snd (Go.Bv.readF F))) : Int) = (0 : Int)) then Ke Go.Exit.ret (Option.some (Go.Bv.VS.mk [((6 : Nat), Go.Bv.V.d (Go.Bv.D.bool Bool.false))] [] (0 : Nat) [] (215 : Nat))) else bif !Decidable.decide ((↑(Prod.fst (Prod.snd (Go.Bv.readF F))) : Int) = (0 : Int)) then Ke Go.Exit.ret (Option.some (Go.Bv.VS.mk [((6 : Nat), Go.Bv.V.d (Go.Bv.D.bool Bool.false))] [] (0 : Nat) [] (215 : Nat))) else (Go.Bv.strsD (Prod.fst (Go.Bv.readF F)) = Go.Bv.strsD (Go.Bv.strsV (Go.Bv.strsD (Prod.fst (Go.Bv.readF F)))) ∧ es = Go.Bv.strsD (Go.Bv.strsV es) ∧ List.length (Prod.fst (Go.Bv.readF F)) = List.length (Go.Bv.strsV (Go.Bv.strsD (Prod.fst (Go.Bv.readF F)))) ∧ List.length (Prod.fst (Go.Bv.readF F)) ≤ (140737488355328 : Nat)) ∧ bif !Decidable.decide (Go.Bv.strsV (Go.Bv.strsD (Prod.fst (Go.Bv.readF F))) = Go.Bv.strsV es) then Ke Go.Exit.ret (Option.some (Go.Bv.VS.mk [((6 : Nat), Go.Bv.V.d (Go.Bv.D.bool Bool.false))] [] (0 : Nat) [] (215 : Nat))) else bif Decidable.decide ((0 : Int) ≤ a) then bif Decidable.decide (a < (↑(List.length F) : Int)) then ((0 : Int) ≤ a ∧ a < (↑(List.length F) : Int)) ∧ Int.toNat a < List.length F ∧ ((0 : Int) ≤ a ∧ a < (↑(List.length F) : Int)) ∧ (Int.toNat a < List.length F ∧ (0 : Int) ≤ Go.bits Go.BinOp.xor Go.IntKind.u8 (↑(UInt8.toNat (List.getD F (Int.toNat a) (0 : UInt8))) : Int) (2 : Int) ∧ Go.bits Go.BinOp.xor Go.IntKind.u8 (↑(UInt8.toNat (List.getD F (Int.toNat a) (0 : UInt8))) : Int) (2 : Int) < (256 : Int)) ∧ List.length F = List.length (List.set F (Int.toNat a) (UInt8.ofNat (Int.toNat (Go.bits Go.BinOp.xor Go.IntKind.u8 (↑(UInt8.toNat (List.getD F (Int.toNat a) (0 : UInt8))) : Int) (2 : Int))))) ∧ List.length (List.set F (Int.toNat a) (UInt8.ofNat (Int.toNat (Go.bits Go.BinOp.xor Go.IntKind.u8 (↑(UInt8.toNat (List.getD F (Int.toNat a) (0 : UInt8))) : Int) (2 : Int))))) ≤ (4294967280 : Nat) ∧ bif List.isEmpty (Prod.fst (Go.Bv.readF (List.set F (Int.toNat a) (UInt8.ofNat (Int.toNat (Go.bits Go.BinOp.xor Go.IntKind.u8 (↑(UInt8.toNat (List.getD F (Int.toNat a) (0 : UInt8))) : Int) (2 : Int))))))) then bif Decidable.decide ((↑(Prod.snd (Prod.snd (Go.Bv.readF (List.set F (Int.toNat a) (UInt8.ofNat (Int.toNat (Go.bits Go.BinOp.xor Go.IntKind.u8 (↑(UInt8.toNat (List.getD F (Int.toNat a) (0 : UInt8))) : Int) (2 : Int)))))))) : Int) = (0 : Int)) then (([] : List (List Go.Bv.D)) = [] ∧ es = Go.Bv.strsD (Go.Bv.strsV es) ∧ (0 : Nat) ≤ (140737488355328 : Nat)) ∧ bif Decidable.decide (Go.Bv.strsV ([] : List (List Go.Bv.D)) = Go.Bv.strsV es) then Ke Go.Exit.ret (Option.some (Go.Bv.VS.mk [((6 : Nat), Go.Bv.V.d (Go.Bv.D.bool Bool.false))] [] (0 : Nat) [] (215 : Nat))) else bif !Decidable.decide ((↑(Prod.snd (Prod.snd (Go.Bv.readF (List.set F (Int.toNat a) (UInt8.ofNat (Int.toNat (Go.bits Go.BinOp.xor Go.IntKind.u8 (↑(UInt8.toNat (List.getD F (Int.toNat a) (0 : UInt8))) : Int) (2 : Int)))))))) : Int) = (0 : Int)) then bif Decidable.decide ((↑(Prod.fst (Prod.snd (Go.Bv.readF (List.set F (Int.toNat a) (UInt8.ofNat (Int.toNat (Go.bits Go.BinOp.xor Go.IntKind.u8 (↑(UInt8.toNat (List.getD F (Int.toNat a) (0 : UInt8))) : Int) (2 : Int)))))))) : Int) < a) then Ke Go.Exit.ret (Option.some (Go.Bv.VS.mk [((6 : Nat), Go.Bv.V.d (Go.Bv.D.bool Bool.false))] [] (0 : Nat) [] (215 : Nat))) else ((0 : Int) ≤ (0 : Int) ∧ (0 : Int) ≤ a ∧ a ≤ (↑(List.length F) : Int)) ∧ List.length (List.drop (0 : Nat) (List.take (Int.toNat a) F)) ≤ (4294967280 : Nat) ∧ bif List.isEmpty (Prod.fst (Go.Bv.readF (List.drop (0 : Nat) (List.take (Int.toNat a) F)))) then bif !Decidable.decide ((↑(Prod.snd (Prod.snd (Go.Bv.readF (List.drop (0 : Nat) (List.take (Int.toNat a) F))))) : Int) = (122 : Int)) then Ke Go.Exit.ret (Option.some (Go.Bv.VS.mk [((6 : Nat), Go.Bv.V.d (Go.Bv.D.bool Bool.false))] [] (0 : Nat) [] (215 : Nat))) else bif !Decidable.decide ((↑(Prod.fst (Prod.snd (Go.Bv.readF (List.drop (0 : Nat) (List.take (Int.toNat a) F))))) : Int) = a) then Ke Go.Exit.ret (Option.some (Go.Bv.VS.mk [((6 : Nat), Go.Bv.V.d (Go.Bv.D.bool Bool.false))] [] (0 : Nat) [] (215 : Nat))) else Kn (Option.some (Go.Bv.VS.mk [((1 : Nat), Go.Bv.V.d (Go.Bv.D.str t))] [] (0 : Nat) [] (215 : Nat))) else bif !Decidable.decide ((↑(Prod.snd (Prod.snd (Go.Bv.readF (List.drop (0 : Nat) (List.take (Int.toNat a) F))))) : Int) = (122 : Int)) then Ke Go.Exit.ret (Option.some (Go.Bv.VS.mk [((6 : Nat), Go.Bv.V.d (Go.Bv.D.bool Bool.false))] [] (0 : Nat) [] (215 : Nat))) else bif !Decidable.decide ((↑(Prod.fst (Prod.snd (Go.Bv.readF (List.drop (0 : Nat) (List.take (Int.toNat a) F))))) : Int) = a) then Ke Go.Exit.ret (Option.some (Go.Bv.VS.mk [((6 : Nat), Go.Bv.V.d (Go.Bv.D.bool Bool.false))] [] (0 : Nat) [] (215 : Nat))) else Kn (Option.some (Go.Bv.VS.mk [((1 : Nat), Go.Bv.V.d (Go.Bv.D.str t))] [] (0 : Nat) [] (215 : Nat))) else ((0 : Int) ≤ (0 : Int) ∧ (0 : Int) ≤ a ∧ a ≤ (↑(List.length F) : Int)) ∧ List.length (List.drop (0 : Nat) (List.take (Int.toNat a) F)) ≤ (4294967280 : Nat) ∧ bif List.isEmpty (Prod.fst (Go.Bv.readF (List.drop (0 : Nat) (List.take (Int.toNat a) F)))) then bif !Decidable.decide ((↑(Prod.snd (Prod.snd (Go.Bv.readF (List.drop (0 : Nat) (List.take (Int.toNat a) F))))) : Int) = (122 : Int)) then Ke Go.Exit.ret (Option.some (Go.Bv.VS.mk [((6 : Nat), Go.Bv.V.d (Go.Bv.D.bool Bool.false))] [] (0 : Nat) [] (215 : Nat))) else bif !Decidable.decide ((↑(Prod.fst (Prod.snd (Go.Bv.readF (List.drop (0 : Nat) (List.take (Int.toNat a) F))))) : Int) = a) then Ke Go.Exit.ret (Option.some (Go.Bv.VS.mk [((6 : Nat), Go.Bv.V.d (Go.Bv.D.bool Bool.false))] [] (0 : Nat) [] (215 : Nat))) else Kn (Option.some (Go.Bv.VS.mk [((1 : Nat), Go.Bv.V.d (Go.Bv.D.str t))] [] (0 : Nat) [] (215 : Nat))) else bif !Decidable.decide ((↑(Prod.snd (Prod.snd (Go.Bv.readF (List.drop (0 : Nat) (List.take (Int.toNat a) F))))) : Int) = (122 : Int)) then Ke Go.Exit.ret (Option.some (Go.Bv.VS.mk [((6 : Nat), Go.Bv.V.d (Go.Bv.D.bool Bool.false))] [] (0 : Nat) [] (215 : Nat))) else bif !Decidable.decide ((↑(Prod.fst (Prod.snd (Go.Bv.readF (List.drop (0 : Nat) (List.take (Int.toNat a) F))))) : Int) = a) then Ke Go.Exit.ret (Option.some (Go.Bv.VS.mk [((6 : Nat), Go.Bv.V.d (Go.Bv.D.bool Bool.false))] [] (0 : Nat) [] (215 : Nat))) else Kn (Option.some (Go.Bv.VS.mk [((1 : Nat), Go.Bv.V.d (Go.Bv.D.str t))] [] (0 : Nat) [] (215 : Nat))) else bif !Decidable.decide ((↑(Prod.snd (Prod.snd (Go.Bv.readF (List.set F (Int.toNat a) (UInt8.ofNat (Int.toNat (Go.bits Go.BinOp.xor Go.IntKind.u8 (↑(UInt8.toNat (List.getD F (Int.toNat a) (0 : UInt8))) : Int) (2 : Int)))))))) : Int) = (0 : Int)) then bif Decidable.decide ((↑(Prod.fst (Prod.snd (Go.Bv.readF (List.set F (Int.toNat a) (UInt8.ofNat (Int.toNat (Go.bits Go.BinOp.xor Go.IntKind.u8 (↑(UInt8.toNat (List.getD F (Int.toNat a) (0 : UInt8))) : Int) (2 : Int)))))))) : Int) < a) then Ke Go.Exit.ret (Option.some (Go.Bv.VS.mk [((6 : Nat), Go.Bv.V.d (Go.Bv.D.bool Bool.false))] [] (0 : Nat) [] (215 : Nat))) else ((0 : Int) ≤ (0 : Int) ∧ (0 : Int) ≤ a ∧ a ≤ (↑(List.length F) : Int)) ∧ List.length (List.drop (0 : Nat) (List.take (Int.toNat a) F)) ≤ (4294967280 : Nat) ∧ bif List.isEmpty (Prod.fst (Go.Bv.readF (List.drop (0 : Nat) (List.take (Int.toNat a) F)))) then bif !Decidable.decide ((↑(Prod.snd (Prod.snd (Go.Bv.readF (List.drop (0 : Nat) (List.take (Int.toNat a) F))))) : Int) = (122 : Int)) then Ke Go.Exit.ret (Option.some (Go.Bv.VS.mk [((6 : Nat), Go.Bv.V.d (Go.Bv.D.bool Bool.false))] [] (0 : Nat) [] (215 : Nat))) else bif !Decidable.decide ((↑(Prod.fst (Prod.snd (Go.Bv.readF (List.drop (0 : Nat) (List.take (Int.toNat a) F))))) : Int) = a) then Ke Go.Exit.ret (Option.some (Go.Bv.VS.mk [((6 : Nat), Go.Bv.V.d (Go.Bv.D.bool Bool.false))] [] (0 : Nat) [] (215 : Nat))) else Kn (Option.some (Go.Bv.VS.mk [((1 : Nat), Go.Bv.V.d (Go.Bv.D.str t))] [] (0 : Nat) [] (215 : Nat))) else bif !Decidable.decide ((↑(Prod.snd (Prod.snd (Go.Bv.readF (List.drop (0 : Nat) (List.take (Int.toNat a) F))))) : Int) = (122 : Int)) then Ke Go.Exit.ret (Option.some (Go.Bv.VS.mk [((6 : Nat), Go.Bv.V.d (Go.Bv.D.bool Bool.false))] [] (0 : Nat) [] (215 : Nat))) else bif !Decidable.decide ((↑(Prod.fst (Prod.snd (Go.Bv.readF (List.drop (0 : Nat) (List.take (Int.toNat a) F))))) : Int) = a) then Ke Go.Exit.ret (Option.some (Go.Bv.VS.mk [((6 : Nat), Go.Bv.V.d (Go.Bv.D.bool Bool.false))] [] (0 : Nat) [] (215 : Nat))) else Kn (Option.some (Go.Bv.VS.mk [((1 : Nat), Go.Bv.V.d (Go.Bv.D.str t))] [] (0 : Nat) [] (215 : Nat))) else ((0 : Int) ≤ (0 : Int) ∧ (0 : Int) ≤ a ∧ a ≤ (↑(List.length F) : Int)) ∧ List.length (List.drop (0 : Nat) (List.take (Int.toNat a) F)) ≤ (4294967280 : Nat) ∧ bif List.isEmpty (Prod.fst (Go.Bv.readF (List.drop (0 : Nat) (List.take (Int.toNat a) F)))) then bif !Decidable.decide ((↑(Prod.snd (Prod.snd (Go.Bv.readF (List.drop (0 : Nat) (List.take (Int.toNat a) F))))) : Int) = (122 : Int)) then Ke Go.Exit.ret (Option.some (Go.Bv.VS.mk [((6 : Nat), Go.Bv.V.d (Go.Bv.D.bool Bool.false))] [] (0 : Nat) [] (215 : Nat))) else bif !Decidable.decide ((↑(Prod.fst (Prod.snd (Go.Bv.readF (List.drop (0 : Nat) (List.take (Int.toNat a) F))))) : Int) = a) then Ke Go.Exit.ret (Option.some (Go.Bv.VS.mk [((6 : Nat), Go.Bv.V.d (Go.Bv.D.bool Bool.false))] [] (0 : Nat) [] (215 : Nat))) else Kn (Option.some (Go.Bv.VS.mk [((1 : Nat), Go.Bv.V.d (Go.Bv.D.str t))] [] (0 : Nat) [] (215 : Nat))) else bif !Decidable.decide ((↑(Prod.snd (Prod.snd (Go.Bv.readF (List.drop (0 : Nat) (List.take (Int.toNat a) F))))) : Int) = (122 : Int)) then Ke Go.Exit.ret (Option.some (Go.Bv.VS.mk [((6 : Nat), Go.Bv.V.d (Go.Bv.D.bool Bool.false))] [] (0 : Nat) [] (215 : Nat))) else bif !Decidable.decide ((↑(Prod.fst (Prod.snd (Go.Bv.readF (List.drop (0 : Nat) (List.take (Int.toNat a) F))))) : Int) = a) then Ke Go.Exit.ret (Option.some (Go.Bv.VS.mk [((6 : Nat), Go.Bv.V.d (Go.Bv.D.bool Bool.false))] [] (0 : Nat) [] (215 : Nat))) else Kn (Option.some (Go.Bv.VS.mk [((1 : Nat), Go.Bv.V.d (Go.Bv.D.str t))] [] (0 : Nat) [] (215 : Nat))) else bif Decidable.decide ((↑(Prod.snd (Prod.snd (Go.Bv.readF (List.set F (Int.toNat a) (UInt8.ofNat (Int.toNat (Go.bits Go.BinOp.xor Go.IntKind.u8 (↑(UInt8.toNat (List.getD F (Int.toNat a) (0 : UInt8))) : Int) (2 : Int)))))))) : Int) = (0 : Int)) then (Go.Bv.strsD (Prod.fst (Go.Bv.readF (List.set F (Int.toNat a) (UInt8.ofNat (Int.toNat (Go.bits Go.BinOp.xor Go.IntKind.u8 (↑(UInt8.toNat (List.getD F (Int.toNat a) (0 : UInt8))) : Int) (2 : Int))))))) = Go.Bv.strsD (Go.Bv.strsV (Go.Bv.strsD (Prod.fst (Go.Bv.readF (List.set F (Int.toNat a) (UInt8.ofNat (Int.toNat (Go.bits Go.BinOp.xor Go.IntKind.u8 (↑(UInt8.toNat (List.getD F (Int.toNat a) (0 : UInt8))) : Int) (2 : Int))))))))) ∧ es = Go.Bv.strsD (Go.Bv.strsV es) ∧ List.length (Prod.fst (Go.Bv.readF (List.set F (Int.toNat a) (UInt8.ofNat (Int.toNat (Go.bits Go.BinOp.xor Go.IntKind.u8 (↑(UInt8.toNat (List.getD F (Int.toNat a) (0 : UInt8))) : Int) (2 : Int))))))) = List.length (Go.Bv.strsV (Go.Bv.strsD (Prod.fst (Go.Bv.readF (List.set F (Int.toNat a) (UInt8.ofNat (Int.toNat (Go.bits Go.BinOp.xor Go.IntKind.u8 (↑(UInt8.toNat (List.getD F (Int.toNat a) (0 : UInt8))) : Int) (2 : Int))))))))) ∧ List.length (Prod.fst (Go.Bv.readF (List.set F (Int.toNat a) (UInt8.ofNat (Int.toNat (Go.bits Go.BinOp.xor Go.IntKind.u8 (↑(UInt8.toNat (List.getD F (Int.toNat a) (0 : UInt8))) : Int) (2 : Int))))))) ≤ (140737488355328 : Nat)) ∧ bif Decidable.decide (Go.Bv.strsV (Go.Bv.strsD (Prod.fst (Go.Bv.readF (List.set F (Int.toNat a) (UInt8.ofNat (Int.toNat (Go.bits Go.BinOp.xor Go.IntKind.u8 (↑(UInt8.toNat (List.getD F (Int.toNat a) (0 : UInt8))) : Int) (2 : Int)))))))) = Go.Bv.strsV es) then Ke Go.Exit.ret (Option.some (Go.Bv.VS.mk [((6 : Nat), Go.Bv.V.d (Go.Bv.D.bool Bool.false))] [] (0 : Nat) [] (215 : Nat))) else bif !Decidable.decide ((↑(Prod.snd (Prod.snd (Go.Bv.readF (List.set F (Int.toNat a) (UInt8.ofNat (Int.toNat (Go.bits Go.BinOp.xor Go.IntKind.u8 (↑(UInt8.toNat (List.getD F (Int.toNat a) (0 : UInt8))) : Int) (2 : Int)))))))) : Int) = (0 : Int)) then bif Decidable.decide ((↑(Prod.fst (Prod.snd (Go.Bv.readF (List.set F (Int.toNat a) (UInt8.ofNat (Int.toNat (Go.bits Go.BinOp.xor Go.IntKind.u8 (↑(UInt8.toNat (List.getD F (Int.toNat a) (0 : UInt8))) : Int) (2 : Int)))))))) : Int) < a) then Ke Go.Exit.ret (Option.some (Go.Bv.VS.mk [((6 : Nat), Go.Bv.V.d (Go.Bv.D.bool Bool.false))] [] (0 : Nat) [] (215 : Nat))) else ((0 : Int) ≤ (0 : Int) ∧ (0 : Int) ≤ a ∧ a ≤ (↑(List.length F) : Int)) ∧ List.length (List.drop (0 : Nat) (List.take (Int.toNat a) F)) ≤ (4294967280 : Nat) ∧ bif List.isEmpty (Prod.fst (Go.Bv.readF (List.drop (0 : Nat) (List.take (Int.toNat a) F)))) then bif !Decidable.decide ((↑(Prod.snd (Prod.snd (Go.Bv.readF (List.drop (0 : Nat) (List.take (Int.toNat a) F))))) : Int) = (122 : Int)) then Ke Go.Exit.ret (Option.some (Go.Bv.VS.mk [((6 : Nat), Go.Bv.V.d (Go.Bv.D.bool Bool.false))] [] (0 : Nat) [] (215 : Nat))) else bif !Decidable.decide ((↑(Prod.fst (Prod.snd (Go.Bv.readF (List.drop (0 : Nat) (List.take (Int.toNat a) F))))) : Int) = a) then Ke Go.Exit.ret (Option.some (Go.Bv.VS.mk [((6 : Nat), Go.Bv.V.d (Go.Bv.D.bool Bool.false))] [] (0 : Nat) [] (215 : Nat))) else Kn (Option.some (Go.Bv.VS.mk [((1 : Nat), Go.Bv.V.d (Go.Bv.D.str t))] [] (0 : Nat) [] (215 : Nat))) else bif !Decidable.decide ((↑(Prod.snd (Prod.snd (Go.Bv.readF (List.drop (0 : Nat) (List.take (Int.toNat a) F))))) : Int) = (122 : Int)) then Ke Go.Exit.ret (Option.some (Go.Bv.VS.mk [((6 : Nat), Go.Bv.V.d (Go.Bv.D.bool Bool.false))] [] (0 : Nat) [] (215 : Nat))) else bif !Decidable.decide ((↑(Prod.fst (Prod.snd (Go.Bv.readF (List.drop (0 : Nat) (List.take (Int.toNat a) F))))) : Int) = a) then Ke Go.Exit.ret (Option.some (Go.Bv.VS.mk [((6 : Nat), Go.Bv.V.d (Go.Bv.D.bool Bool.false))] [] (0 : Nat) [] (215 : Nat))) else Kn (Option.some (Go.Bv.VS.mk [((1 : Nat), Go.Bv.V.d (Go.Bv.D.str t))] [] (0 : Nat) [] (215 : Nat))) else ((0 : Int) ≤ (0 : Int) ∧ (0 : Int) ≤ a ∧ a ≤ (↑(List.length F) : Int)) ∧ List.length (List.drop (0 : Nat) (List.take (Int.toNat a) F)) ≤ (4294967280 : Nat) ∧ bif List.isEmpty (Prod.fst (Go.Bv.readF (List.drop (0 : Nat) (List.take (Int.toNat a) F)))) then bif !Decidable.decide ((↑(Prod.snd (Prod.snd (Go.Bv.readF (List.drop (0 : Nat) (List.take (Int.toNat a) F))))) : Int) = (122 : Int)) then Ke Go.Exit.ret (Option.some (Go.Bv.VS.mk [((6 : Nat), Go.Bv.V.d (Go.Bv.D.bool Bool.false))] [] (0 : Nat) [] (215 : Nat))) else bif !Decidable.decide ((↑(Prod.fst (Prod.snd (Go.Bv.readF (List.drop (0 : Nat) (List.take (Int.toNat a) F))))) : Int) = a) then Ke Go.Exit.ret (Option.some (Go.Bv.VS.mk [((6 : Nat), Go.Bv.V.d (Go.Bv.D.bool Bool.false))] [] (0 : Nat) [] (215 : Nat))) else Kn (Option.some (Go.Bv.VS.mk [((1 : Nat), Go.Bv.V.d (Go.Bv.D.str t))] [] (0 : Nat) [] (215 : Nat))) else bif !Decidable.decide ((↑(Prod.snd (Prod.snd (Go.Bv.readF (List.drop (0 : Nat) (List.take (Int.toNat a) F))))) : Int) = (122 : Int)) then Ke Go.Exit.ret (Option.some (Go.Bv.VS.mk [((6 : Nat), Go.Bv.V.d (Go.Bv.D.bool Bool.false))] [] (0 : Nat) [] (215 : Nat))) else bif !Decidable.decide ((↑(Prod.fst (Prod.snd (Go.Bv.readF (List.drop (0 : Nat) (List.take (Int.toNat a) F))))) : Int) = a) then Ke Go.Exit.ret (Option.some (Go.Bv.VS.mk [((6 : Nat), Go.Bv.V.d (Go.Bv.D.bool Bool.false))] [] (0 : Nat) [] (215 : Nat))) else Kn (Option.some (Go.Bv.VS.mk [((1 : Nat), Go.Bv.V.d (Go.Bv.D.str t))] [] (0 : Nat) [] (215 : Nat))) else bif !Decidable.decide ((↑(Prod.snd (Prod.snd (Go.Bv.readF (List.set F (Int.toNat a) (UInt8.ofNat (Int.toNat (Go.bits Go.BinOp.xor Go.IntKind.u8 (↑(UInt8.toNat (List.getD F (Int.toNat a) (0 : UInt8))) : Int) (2 : Int)))))))) : Int) = (0 : Int)) then bif Decidable.decide ((↑(Prod.fst (Prod.snd (Go.Bv.readF (List.set F (Int.toNat a) (UInt8.ofNat (Int.toNat (Go.bits Go.BinOp.xor Go.IntKind.u8 (↑(UInt8.toNat (List.getD F (Int.toNat a) (0 : UInt8))) : Int) (2 : Int)))))))) : Int) < a) then Ke Go.Exit.ret (Option.some (Go.Bv.VS.mk [((6 : Nat), Go.Bv.V.d (Go.Bv.D.bool Bool.false))] [] (0 : Nat) [] (215 : Nat))) else ((0 : Int) ≤ (0 : Int) ∧ (0 : Int) ≤ a ∧ a ≤ (↑(List.length F) : Int)) ∧ List.length (List.drop (0 : Nat) (List.take (Int.toNat a) F)) ≤ (4294967280 : Nat) ∧ bif List.isEmpty (Prod.fst (Go.Bv.readF (List.drop (0 : Nat) (List.take (Int.toNat a) F)))) then bif !Decidable.decide ((↑(Prod.snd (Prod.snd (Go.Bv.readF (List.drop (0 : Nat) (List.take (Int.toNat a) F))))) : Int) = (122 : Int)) then Ke Go.Exit.ret (Option.some (Go.Bv.VS.mk [((6 : Nat), Go.Bv.V.d (Go.Bv.D.bool Bool.false))] [] (0 : Nat) [] (215 : Nat))) else bif !Decidable.decide ((↑(Prod.fst (Prod.snd (Go.Bv.readF (List.drop (0 : Nat) (List.take (Int.toNat a) F))))) : Int) = a) then Ke Go.Exit.ret (Option.some (Go.Bv.VS.mk [((6 : Nat), Go.Bv.V.d (Go.Bv.D.bool Bool.false))] [] (0 : Nat) [] (215 : Nat))) else Kn (Option.some (Go.Bv.VS.mk [((1 : Nat), Go.Bv.V.d (Go.Bv.D.str t))] [] (0 : Nat) [] (215 : Nat))) else bif !Decidable.decide ((↑(Prod.snd (Prod.snd (Go.Bv.readF (List.drop (0 : Nat) (List.take (Int.toNat a) F))))) : Int) = (122 : Int)) then Ke Go.Exit.ret (Option.some (Go.Bv.VS.mk [((6 : Nat), Go.Bv.V.d (Go.Bv.D.bool Bool.false))] [] (0 : Nat) [] (215 : Nat))) else bif !Decidable.decide ((↑(Prod.fst (Prod.snd (Go.Bv.readF (List.drop (0 : Nat) (List.take (Int.toNat a) F))))) : Int) = a) then Ke Go.Exit.ret (Option.some (Go.Bv.VS.mk [((6 : Nat), Go.Bv.V.d (Go.Bv.D.bool Bool.false))] [] (0 : Nat) [] (215 : Nat))) else Kn (Option.some (Go.Bv.VS.mk [((1 : Nat), Go.Bv.V.d (Go.Bv.D.str t))] [] (0 : Nat) [] (215 : Nat))) else ((0 : Int) ≤ (0 : Int) ∧ (0 : Int) ≤ a ∧ a ≤ (↑(List.length F) : Int)) ∧ List.length (List.drop (0 : Nat) (List.take (Int.toNat a) F)) ≤ (4294967280 : Nat) ∧ bif List.isEmpty (Prod.fst (Go.Bv.readF (List.drop (0 : Nat) (List.take (Int.toNat a) F)))) then bif !Decidable.decide ((↑(Prod.snd (Prod.snd (Go.Bv.readF (List.drop (0 : Nat) (List.take (Int.toNat a) F))))) : Int) = (122 : Int)) then Ke Go.Exit.ret (Option.some (Go.Bv.VS.mk [((6 : Nat), Go.Bv.V.d (Go.Bv.D.bool Bool.false))] [] (0 : Nat) [] (215 : Nat))) else bif !Decidable.decide ((↑(Prod.fst (Prod.snd (Go.Bv.readF (List.drop (0 : Nat) (List.take (Int.toNat a) F))))) : Int) = a) then Ke Go.Exit.ret (Option.some (Go.Bv.VS.mk [((6 : Nat), Go.Bv.V.d (Go.Bv.D.bool Bool.false))] [] (0 : Nat) [] (215 : Nat))) else Kn (Option.some (Go.Bv.VS.mk [((1 : Nat), Go.Bv.V.d (Go.Bv.D.str t))] [] (0 : Nat) [] (215 : Nat))) else bif !Decidable.decide ((↑(Prod.snd (Prod.snd (Go.Bv.readF (List.drop (0 : Nat) (List.take (Int.toNat a) F))))) : Int) = (122 : Int)) then Ke Go.Exit.ret (Option.some (Go.Bv.VS.mk [((6 : Nat), Go.Bv.V.d (Go.Bv.D.bool Bool.false))] [] (0 : Nat) [] (215 : Nat))) else bif !Decidable.decide ((↑(Prod.fst (Prod.snd (Go.Bv.readF (List.drop (0 : Nat) (List.take (Int.toNat a) F))))) : Int) = a) then Ke Go.Exit.ret (Option.some (Go.Bv.VS.mk [((6 : Nat), Go.Bv.V.d (Go.Bv.D.bool Bool.false))] [] (0 : Nat) [] (215 : Nat))) else Kn (Option.some (Go.Bv.VS.mk [((1 : Nat), Go.Bv.V.d (Go.Bv.D.str t))] [] (0 : Nat) [] (215 : Nat))) else Kn (Option.some (Go.Bv.VS.mk [((1 : Nat), Go.Bv.V.d (Go.Bv.D.str t))] [] (0 : Nat) [] (215 : Nat))) else Kn (Option.some (Go.Bv.VS.mk [((1 : Nat), Go.Bv.V.d (Go.Bv.D.str t))] [] (0 : Nat) [] (215 : Nat))) else bif Decidable.decide ((0 : Int) < (↑(List.length F) : Int)) then Ke Go.Exit.ret (Option.some (Go.Bv.VS.mk [((6 : Nat), Go.Bv.V.d (Go.Bv.D.bool Bool.false))] [] (0 : Nat) [] (215 : Nat))) else bif !Decidable.decide (e = (2 : Int)) then bif !Decidable.decide (e = (121 : Int)) then Ke Go.Exit.ret (Option.some (Go.Bv.VS.mk [((6 : Nat), Go.Bv.V.d (Go.Bv.D.bool Bool.false))] [] (0 : Nat) [] (215 : Nat))) else Kn (Option.some (Go.Bv.VS.mk [((1 : Nat), Go.Bv.V.d (Go.Bv.D.str t))] [] (0 : Nat) [] (215 : Nat))) else Kn (Option.some (Go.Bv.VS.mk [((1 : Nat), Go.Bv.V.d (Go.Bv.D.str t))] [] (0 : Nat) [] (215 : Nat)))) = (roundC Tryz.prog xLaw iLaw 0 (fun _ => none) (nodeB Tryz.prog 3 [true, true, true, false]) 30 [1] [] [6] (byS b es t a F e) Kn Ke) := by kernel_rfl
theorem bytes_b (t : List UInt8) (Kn : Option Go.Bv.VS → Prop) (Ke : Go.Exit → Option Go.Bv.VS → Prop) : (List.length t ≤ (4294967280 : Nat) ∧ bif List.isEmpty (Prod.fst (Go.Bv.readF t)) then bif !Decidable.decide ((↑(Prod.snd (Prod.snd (Go.Bv.readF t))) : Int) = (0 : Int)) then bif !Decidable.decide ((↑(Prod.snd (Prod.snd (Go.Bv.readF t))) : Int) = (122 : Int)) then Ke Go.Exit.ret (Option.some (Go.Bv.VS.mk [((6 : Nat), Go.Bv.V.d (Go.Bv.D.bool Bool.false))] [] (0 : Nat) [] (215 : Nat))) else bif Decidable.decide ((↑(List.length t) : Int) < (↑(Prod.fst (Prod.snd (Go.Bv.readF t))) : Int)) then Ke Go.Exit.ret (Option.some (Go.Bv.VS.mk [((6 : Nat), Go.Bv.V.d (Go.Bv.D.bool Bool.false))] [] (0 : Nat) [] (215 : Nat))) else bif Decidable.decide ((↑(Prod.fst (Prod.snd (Go.Bv.readF t))) : Int) < (↑(List.length t) : Int)) then ((0 : Int) ≤ (0 : Int) ∧ (0 : Int) ≤ Go.IntKind.wrap Go.IntKind.i64 ((↑(Prod.fst (Prod.snd (Go.Bv.readF t))) : Int) + (1 : Int)) ∧ Go.IntKind.wrap Go.IntKind.i64 ((↑(Prod.fst (Prod.snd (Go.Bv.readF t))) : Int) + (1 : Int)) ≤ (↑(List.length t) : Int)) ∧ List.length (List.drop (0 : Nat) (List.take (Int.toNat (Go.IntKind.wrap Go.IntKind.i64 ((↑(Prod.fst (Prod.snd (Go.Bv.readF t))) : Int) + (1 : Int)))) t)) ≤ (4294967280 : Nat) ∧ bif List.isEmpty (Prod.fst (Go.Bv.readF (List.drop (0 : Nat) (List.take (Int.toNat (Go.IntKind.wrap Go.IntKind.i64 ((↑(Prod.fst (Prod.snd (Go.Bv.readF t))) : Int) + (1 : Int)))) t)))) then bif !Decidable.decide ((↑(Prod.snd (Prod.snd (Go.Bv.readF (List.drop (0 : Nat) (List.take (Int.toNat (Go.IntKind.wrap Go.IntKind.i64 ((↑(Prod.fst (Prod.snd (Go.Bv.readF t))) : Int) + (1 : Int)))) t))))) : Int) = (122 : Int)) then Ke Go.Exit.ret (Option.some (Go.Bv.VS.mk [((6 : Nat), Go.Bv.V.d (Go.Bv.D.bool Bool.false))] [] (0 : Nat) [] (215 : Nat))) else bif !Decidable.decide ((↑(Prod.fst (Prod.snd (Go.Bv.readF (List.drop (0 : Nat) (List.take (Int.toNat (Go.IntKind.wrap Go.IntKind.i64 ((↑(Prod.fst (Prod.snd (Go.Bv.readF t))) : Int) + (1 : Int)))) t))))) : Int) = (↑(Prod.fst (Prod.snd (Go.Bv.readF t))) : Int)) then Ke Go.Exit.ret (Option.some (Go.Bv.VS.mk [((6 : Nat), Go.Bv.V.d (Go.Bv.D.bool Bool.false))] [] (0 : Nat) [] (215 : Nat))) else ((0 : Int) ≤ (0 : Int) ∧ (0 : Int) ≤ (↑(Prod.fst (Prod.snd (Go.Bv.readF t))) : Int) ∧ (↑(Prod.fst (Prod.snd (Go.Bv.readF t))) : Int) ≤ (↑(List.length t) : Int)) ∧ List.length (List.drop (0 : Nat) (List.take (Int.toNat (↑(Prod.fst (Prod.snd (Go.Bv.readF t))) : Int)) t)) ≤ (4294967280 : Nat) ∧ bif List.isEmpty (Prod.fst (Go.Bv.readF (List.drop (0 : Nat) (List.take (Int.toNat (↑(Prod.fst (Prod.snd (Go.Bv.readF t))) : Int)) t)))) then bif Decidable.decide ((↑(Prod.snd (Prod.snd (Go.Bv.readF (List.drop (0 : Nat) (List.take (Int.toNat (↑(Prod.fst (Prod.snd (Go.Bv.readF t))) : Int)) t))))) : Int) = (122 : Int)) then bif Decidable.decide ((↑(Prod.fst (Prod.snd (Go.Bv.readF (List.drop (0 : Nat) (List.take (Int.toNat (↑(Prod.fst (Prod.snd (Go.Bv.readF t))) : Int)) t))))) : Int) = (↑(Prod.fst (Prod.snd (Go.Bv.readF t))) : Int)) then Ke Go.Exit.ret (Option.some (Go.Bv.VS.mk [((6 : Nat), Go.Bv.V.d (Go.Bv.D.bool Bool.true))] [] (0 : Nat) [] (215 : Nat))) else bif Decidable.decide ((↑(Prod.snd (Prod.snd (Go.Bv.readF (List.drop (0 : Nat) (List.take (Int.toNat (↑(Prod.fst (Prod.snd (Go.Bv.readF t))) : Int)) t))))) : Int) = (0 : Int)) then bif Decidable.decide ((↑(Prod.fst (Prod.snd (Go.Bv.readF t))) : Int) < (↑(List.length t) : Int)) then Ke Go.Exit.ret (Option.some (Go.Bv.VS.mk [((6 : Nat), Go.Bv.V.d (Go.Bv.D.bool Bool.true))] [] (0 : Nat) [] (215 : Nat))) else Ke Go.Exit.ret (Option.some (Go.Bv.VS.mk [((6 : Nat), Go.Bv.V.d (Go.Bv.D.bool Bool.false))] [] (0 : Nat) [] (215 : Nat))) else Ke Go.Exit.ret (Option.some (Go.Bv.VS.mk [((6 : Nat), Go.Bv.V.d (Go.Bv.D.bool Bool.false))] [] (0 : Nat) [] (215 : Nat))) else bif Decidable.decide ((↑(Prod.snd (Prod.snd (Go.Bv.readF (List.drop (0 : Nat) (List.take (Int.toNat (↑(Prod.fst (Prod.snd (Go.Bv.readF t))) : Int)) t))))) : Int) = (0 : Int)) then bif Decidable.decide ((↑(Prod.fst (Prod.snd (Go.Bv.readF t))) : Int) < (↑(List.length t) : Int)) then Ke Go.Exit.ret (Option.some (Go.Bv.VS.mk [((6 : Nat), Go.Bv.V.d (Go.Bv.D.bool Bool.true))] [] (0 : Nat) [] (215 : Nat))) else Ke Go.Exit.ret (Option.some (Go.Bv.VS.mk [((6 : Nat), Go.Bv.V.d (Go.Bv.D.bool Bool.false))] [] (0 : Nat) [] (215 : Nat))) else Ke Go.Exit.ret (Option.some (Go.Bv.VS.mk [((6 : Nat), Go.Bv.V.d (Go.Bv.D.bool Bool.false))] [] (0 : Nat) [] (215 : Nat))) else bif Decidable.decide ((↑(Prod.snd (Prod.snd (Go.Bv.readF (List.drop (0 : Nat) (List.take (Int.toNat (↑(Prod.fst (Prod.snd (Go.Bv.readF t))) : Int)) t))))) : Int) = (122 : Int)) then bif Decidable.decide ((↑(Prod.fst (Prod.snd (Go.Bv.readF (List.drop (0 : Nat) (List.take (Int.toNat (↑(Prod.fst (Prod.snd (Go.Bv.readF t))) : Int)) t))))) : Int) = (↑(Prod.fst (Prod.snd (Go.Bv.readF t))) : Int)) then Ke Go.Exit.ret (Option.some (Go.Bv.VS.mk [((6 : Nat), Go.Bv.V.d (Go.Bv.D.bool Bool.true))] [] (0 : Nat) [] (215 : Nat))) else bif Decidable.decide ((↑(Prod.snd (Prod.snd (Go.Bv.readF (List.drop (0 : Nat) (List.take (Int.toNat (↑(Prod.fst (Prod.snd (Go.Bv.readF t))) : Int)) t))))) : Int) = (0 : Int)) then bif Decidable.decide ((↑(Prod.fst (Prod.snd (Go.Bv.readF t))) : Int) < (↑(List.length t) : Int)) then Ke Go.Exit.ret (Option.some (Go.Bv.VS.mk [((6 : Nat), Go.Bv.V.d (Go.Bv.D.bool Bool.true))] [] (0 : Nat) [] (215 : Nat))) else Ke Go.Exit.ret (Option.some (Go.Bv.VS.mk [((6 : Nat), Go.Bv.V.d (Go.Bv.D.bool Bool.false))] [] (0 : Nat) [] (215 : Nat))) else Ke Go.Exit.ret (Option.some (Go.Bv.VS.mk [((6 : Nat), Go.Bv.V.d (Go.Bv.D.bool Bool.false))] [] (0 : Nat) [] (215 : Nat))) else bif Decidable.decide ((↑(Prod.snd (Prod.snd (Go.Bv.readF (List.drop (0 : Nat) (List.take (Int.toNat (↑(Prod.fst (Prod.snd (Go.Bv.readF t))) : Int)) t))))) : Int) = (0 : Int)) then bif Decidable.decide ((↑(Prod.fst (Prod.snd (Go.Bv.readF t))) : Int) < (↑(List.length t) : Int)) then Ke Go.Exit.ret (Option.some (Go.Bv.VS.mk [((6 : Nat), Go.Bv.V.d (Go.Bv.D.bool Bool.true))] [] (0 : Nat) [] (215 : Nat))) else Ke Go.Exit.ret (Option.some (Go.Bv.VS.mk [((6 : Nat), Go.Bv.V.d (Go.Bv.D.bool Bool.false))] [] (0 : Nat) [] (215 : Nat))) else Ke Go.Exit.ret (Option.some (Go.Bv.VS.mk [((6 : Nat), Go.Bv.V.d (Go.Bv.D.bool Bool.false))] [] (0 : Nat) [] (215 : Nat))) else bif !Decidable.decide ((↑(Prod.snd (Prod.snd (Go.Bv.readF (List.drop (0 : Nat) (List.take (Int.toNat (Go.IntKind.wrap Go.IntKind.i64 ((↑(Prod.fst (Prod.snd (Go.Bv.readF t))) : Int) + (1 : Int)))) t))))) : Int) = (122 : Int)) then Ke Go.Exit.ret (Option.some (Go.Bv.VS.mk [((6 : Nat), Go.Bv.V.d (Go.Bv.D.bool Bool.false))] [] (0 : Nat) [] (215 : Nat))) else bif !Decidable.decide ((↑(Prod.fst (Prod.snd (Go.Bv.readF (List.drop (0 : Nat) (List.take (Int.toNat (Go.IntKind.wrap Go.IntKind.i64 ((↑(Prod.fst (Prod.snd (Go.Bv.readF t))) : Int) + (1 : Int)))) t))))) : Int) = (↑(Prod.fst (Prod.snd (Go.Bv.readF t))) : Int)) then Ke Go.Exit.ret (Option.some (Go.Bv.VS.mk [((6 : Nat), Go.Bv.V.d (Go.Bv.D.bool Bool.false))] [] (0 : Nat) [] (215 : Nat))) else ((0 : Int) ≤ (0 : Int) ∧ (0 : Int) ≤ (↑(Prod.fst (Prod.snd (Go.Bv.readF t))) : Int) ∧ (↑(Prod.fst (Prod.snd (Go.Bv.readF t))) : Int) ≤ (↑(List.length t) : Int)) ∧ List.length (List.drop (0 : Nat) (List.take (Int.toNat (↑(Prod.fst (Prod.snd (Go.Bv.readF t))) : Int)) t)) ≤ (4294967280 : Nat) ∧ bif List.isEmpty (Prod.fst (Go.Bv.readF (List.drop (0 : Nat) (List.take (Int.toNat (↑(Prod.fst (Prod.snd (Go.Bv.readF t))) : Int)) t)))) then bif Decidable.decide ((↑(Prod.snd (Prod.snd (Go.Bv.readF (List.drop (0 : Nat) (List.take (Int.toNat (↑(Prod.fst (Prod.snd (Go.Bv.readF t))) : Int)) t))))) : Int) = (122 : Int)) then bif Decidable.decide ((↑(Prod.fst (Prod.snd (Go.Bv.readF (List.drop (0 : Nat) (List.take (Int.toNat (↑(Prod.fst (Prod.snd (Go.Bv.readF t))) : Int)) t))))) : Int) = (↑(Prod.fst (Prod.snd (Go.Bv.readF t))) : Int)) then Ke Go.Exit.ret (Option.some (Go.Bv.VS.mk [((6 : Nat), Go.Bv.V.d (Go.Bv.D.bool Bool.true))] [] (0 : Nat) [] (215 : Nat))) else bif Decidable.decide ((↑(Prod.snd (Prod.snd (Go.Bv.readF (List.drop (0 : Nat) (List.take (Int.toNat (↑(Prod.fst (Prod.snd (Go.Bv.readF t))) : Int)) t))))) : Int) = (0 : Int)) then bif Decidable.decide ((↑(Prod.fst (Prod.snd (Go.Bv.readF t))) : Int) < (↑(List.length t) : Int)) then Ke Go.Exit.ret (Option.some (Go.Bv.VS.mk [((6 : Nat), Go.Bv.V.d (Go.Bv.D.bool Bool.true))] [] (0 : Nat) [] (215 : Nat))) else Ke Go.Exit.ret (Option.some (Go.Bv.VS.mk [((6 : Nat), Go.Bv.V.d (Go.Bv.D.bool Bool.false))] [] (0 : Nat) [] (215 : Nat))) else Ke Go.Exit.ret (Option.some (Go.Bv.VS.mk [((6 : Nat), Go.Bv.V.d (Go.Bv.D.bool Bool.false))] [] (0 : Nat) [] (215 : Nat))) else bif Decidable.decide ((↑(Prod.snd (Prod.snd (Go.Bv.readF (List.drop (0 : Nat) (List.take (Int.toNat (↑(Prod.fst (Prod.snd (Go.Bv.readF t))) : Int)) t))))) : Int) = (0 : Int)) then bif Decidable.decide ((↑(Prod.fst (Prod.snd (Go.Bv.readF t))) : Int) < (↑(List.length t) : Int)) then Ke Go.Exit.ret (Option.some (Go.Bv.VS.mk [((6 : Nat), Go.Bv.V.d (Go.Bv.D.bool Bool.true))] [] (0 : Nat) [] (215 : Nat))) else Ke Go.Exit.ret (Option.some (Go.Bv.VS.mk [((6 : Nat), Go.Bv.V.d (Go.Bv.D.bool Bool.false))] [] (0 : Nat) [] (215 : Nat))) else Ke Go.Exit.ret (Option.some (Go.Bv.VS.mk [((6 : Nat), Go.Bv.V.d (Go.Bv.D.bool Bool.false))] [] (0 : Nat) [] (215 : Nat))) else bif Decidable.decide ((↑(Prod.snd (Prod.snd (Go.Bv.readF (List.drop (0 : Nat) (List.take (Int.toNat (↑(Prod.fst (Prod.snd (Go.Bv.readF t))) : Int)) t))))) : Int) = (122 : Int)) then bif Decidable.decide ((↑(Prod.fst (Prod.snd (Go.Bv.readF (List.drop (0 : Nat) (List.take (Int.toNat (↑(Prod.fst (Prod.snd (Go.Bv.readF t))) : Int)) t))))) : Int) = (↑(Prod.fst (Prod.snd (Go.Bv.readF t))) : Int)) then Ke Go.Exit.ret (Option.some (Go.Bv.VS.mk [((6 : Nat), Go.Bv.V.d (Go.Bv.D.bool Bool.true))] [] (0 : Nat) [] (215 : Nat))) else bif Decidable.decide ((↑(Prod.snd (Prod.snd (Go.Bv.readF (List.drop (0 : Nat) (List.take (Int.toNat (↑(Prod.fst (Prod.snd (Go.Bv.readF t))) : Int)) t))))) : Int) = (0 : Int)) then bif Decidable.decide ((↑(Prod.fst (Prod.snd (Go.Bv.readF t))) : Int) < (↑(List.length t) : Int)) then Ke Go.Exit.ret (Option.some (Go.Bv.VS.mk [((6 : Nat), Go.Bv.V.d (Go.Bv.D.bool Bool.true))] [] (0 : Nat) [] (215 : Nat))) else Ke Go.Exit.ret (Option.some (Go.Bv.VS.mk [((6 : Nat), Go.Bv.V.d (Go.Bv.D.bool Bool.false))] [] (0 : Nat) [] (215 : Nat))) else Ke Go.Exit.ret (Option.some (Go.Bv.VS.mk [((6 : Nat), Go.Bv.V.d (Go.Bv.D.bool Bool.false))] [] (0 : Nat) [] (215 : Nat))) else bif Decidable.decide ((↑(Prod.snd (Prod.snd (Go.Bv.readF (List.drop (0 : Nat) (List.take (Int.toNat (↑(Prod.fst (Prod.snd (Go.Bv.readF t))) : Int)) t))))) : Int) = (0 : Int)) then bif Decidable.decide ((↑(Prod.fst (Prod.snd (Go.Bv.readF t))) : Int) < (↑(List.length t) : Int)) then Ke Go.Exit.ret (Option.some (Go.Bv.VS.mk [((6 : Nat), Go.Bv.V.d (Go.Bv.D.bool Bool.true))] [] (0 : Nat) [] (215 : Nat))) else Ke Go.Exit.ret (Option.some (Go.Bv.VS.mk [((6 : Nat), Go.Bv.V.d (Go.Bv.D.bool Bool.false))] [] (0 : Nat) [] (215 : Nat))) else Ke Go.Exit.ret (Option.some (Go.Bv.VS.mk [((6 : Nat), Go.Bv.V.d (Go.Bv.D.bool Bool.false))] [] (0 : Nat) [] (215 : Nat))) else ((0 : Int) ≤ (0 : Int) ∧ (0 : Int) ≤ (↑(Prod.fst (Prod.snd (Go.Bv.readF t))) : Int) ∧ (↑(Prod.fst (Prod.snd (Go.Bv.readF t))) : Int) ≤ (↑(List.length t) : Int)) ∧ List.length (List.drop (0 : Nat) (List.take (Int.toNat (↑(Prod.fst (Prod.snd (Go.Bv.readF t))) : Int)) t)) ≤ (4294967280 : Nat) ∧ bif List.isEmpty (Prod.fst (Go.Bv.readF (List.drop (0 : Nat) (List.take (Int.toNat (↑(Prod.fst (Prod.snd (Go.Bv.readF t))) : Int)) t)))) then bif Decidable.decide ((↑(Prod.snd (Prod.snd (Go.Bv.readF (List.drop (0 : Nat) (List.take (Int.toNat (↑(Prod.fst (Prod.snd (Go.Bv.readF t))) : Int)) t))))) : Int) = (122 : Int)) then bif Decidable.decide ((↑(Prod.fst (Prod.snd (Go.Bv.readF (List.drop (0 : Nat) (List.take (Int.toNat (↑(Prod.fst (Prod.snd (Go.Bv.readF t))) : Int)) t))))) : Int) = (↑(Prod.fst (Prod.snd (Go.Bv.readF t))) : Int)) then Ke Go.Exit.ret (Option.some (Go.Bv.VS.mk [((6 : Nat), Go.Bv.V.d (Go.Bv.D.bool Bool.true))] [] (0 : Nat) [] (215 : Nat))) else bif Decidable.decide ((↑(Prod.snd (Prod.snd (Go.Bv.readF (List.drop (0 : Nat) (List.take (Int.toNat (↑(Prod.fst (Prod.snd (Go.Bv.readF t))) : Int)) t))))) : Int) = (0 : Int)) then bif Decidable.decide ((↑(Prod.fst (Prod.snd (Go.Bv.readF t))) : Int) < (↑(List.length t) : Int)) then Ke Go.Exit.ret (Option.some (Go.Bv.VS.mk [((6 : Nat), Go.Bv.V.d (Go.Bv.D.bool Bool.true))] [] (0 : Nat) [] (215 : Nat))) else Ke Go.Exit.ret (Option.some (Go.Bv.VS.mk [((6 : Nat), Go.Bv.V.d (Go.Bv.D.bool Bool.false))] [] (0 : Nat) [] (215 : Nat))) else Ke Go.Exit.ret (Option.some (Go.Bv.VS.mk [((6 : Nat), Go.Bv.V.d (Go.Bv.D.bool Bool.false))] [] (0 : Nat) [] (215 : Nat))) else bif Decidable.decide ((↑(Prod.snd (Prod.snd (Go.Bv.readF (List.drop (0 : Nat) (List.take (Int.toNat (↑(Prod.fst (Prod.snd (Go.Bv.readF t))) : Int)) t))))) : Int) = (0 : Int)) then bif Decidable.decide ((↑(Prod.fst (Prod.snd (Go.Bv.readF t))) : Int) < (↑(List.length t) : Int)) then Ke Go.Exit.ret (Option.some (Go.Bv.VS.mk [((6 : Nat), Go.Bv.V.d (Go.Bv.D.bool Bool.true))] [] (0 : Nat) [] (215 : Nat))) else Ke Go.Exit.ret (Option.some (Go.Bv.VS.mk [((6 : Nat), Go.Bv.V.d (Go.Bv.D.bool Bool.false))] [] (0 : Nat) [] (215 : Nat))) else Ke Go.Exit.ret (Option.some (Go.Bv.VS.mk [((6 : Nat), Go.Bv.V.d (Go.Bv.D.bool Bool.false))] [] (0 : Nat) [] (215 : Nat))) else bif Decidable.decide ((↑(Prod.snd (Prod.snd (Go.Bv.readF (List.drop (0 : Nat) (List.take (Int.toNat (↑(Prod.fst (Prod.snd (Go.Bv.readF t))) : Int)) t))))) : Int) = (122 : Int)) then bif Decidable.decide ((↑(Prod.fst (Prod.snd (Go.Bv.readF (List.drop (0 : Nat) (List.take (Int.toNat (↑(Prod.fst (Prod.snd (Go.Bv.readF t))) : Int)) t))))) : Int) = (↑(Prod.fst (Prod.snd (Go.Bv.readF t))) : Int)) then Ke Go.Exit.ret (Option.some (Go.Bv.VS.mk [((6 : Nat), Go.Bv.V.d (Go.Bv.D.bool Bool.true))] [] (0 : Nat) [] (215 : Nat))) else bif Decidable.decide ((↑(Prod.snd (Prod.snd (Go.Bv.readF (List.drop (0 : Nat) (List.take (Int.toNat (↑(Prod.fst (Prod.snd (Go.Bv.readF t))) : Int)) t))))) : Int) = (0 : Int)) then bif Decidable.decide ((↑(Prod.fst (Prod.snd (Go.Bv.readF t))) : Int) < (↑(List.length t) : Int)) then Ke Go.Exit.ret (Option.some (Go.Bv.VS.mk [((6 : Nat), Go.Bv.V.d (Go.Bv.D.bool Bool.true))] [] (0 : Nat) [] (215 : Nat))) else Ke Go.Exit.ret (Option.some (Go.Bv.VS.mk [((6 : Nat), Go.Bv.V.d (Go.Bv.D.bool Bool.false))] [] (0 : Nat) [] (215 : Nat))) else Ke Go.Exit.ret (Option.some (Go.Bv.VS.mk [((6 : Nat), Go.Bv.V.d (Go.Bv.D.bool Bool.false))] [] (0 : Nat) [] (215 : Nat))) else bif Decidable.decide ((↑(Prod.snd (Prod.snd (Go.Bv.readF (List.drop (0 : Nat) (List.take (Int.toNat (↑(Prod.fst (Prod.snd (Go.Bv.readF t))) : Int)) t))))) : Int) = (0 : Int)) then bif Decidable.decide ((↑(Prod.fst (Prod.snd (Go.Bv.readF t))) : Int) < (↑(List.length t) : Int)) then Ke Go.Exit.ret (Option.some (Go.Bv.VS.mk [((6 : Nat), Go.Bv.V.d (Go.Bv.D.bool Bool.true))] [] (0 : Nat) [] (215 : Nat))) else Ke Go.Exit.ret (Option.some (Go.Bv.VS.mk [((6 : Nat), Go.Bv.V.d (Go.Bv.D.bool Bool.false))] [] (0 : Nat) [] (215 : Nat))) else Ke Go.Exit.ret (Option.some (Go.Bv.VS.mk [((6 : Nat), Go.Bv.V.d (Go.Bv.D.bool Bool.false))] [] (0 : Nat) [] (215 : Nat))) else Bool.true = Bool.true ∧ (Prod.fst (([] : List (List Go.Bv.D)), ([] : List Nat)) = [] ∧ Bool.true = Bool.true ∧ (0 : Nat) ≤ (9223372036854775807 : Nat)) ∧ bif Decidable.decide ([(101 : UInt8), (110 : UInt8), (100 : UInt8), (32 : UInt8), (48 : UInt8), (32 : UInt8), (55 : UInt8), (10 : UInt8)] = t) then Ke Go.Exit.ret (Option.some (Go.Bv.VS.mk [((6 : Nat), Go.Bv.V.d (Go.Bv.D.bool Bool.true))] [] (0 : Nat) [] (215 : Nat))) else Ke Go.Exit.ret (Option.some (Go.Bv.VS.mk [((6 : Nat), Go.Bv.V.d (Go.Bv.D.bool Bool.false))] [] (0 : Nat) [] (215 : Nat))) else bif !Decidable.decide ((↑(Prod.snd (Prod.snd (Go.Bv.readF t))) : Int) = (0 : Int)) then bif !Decidable.decide ((↑(Prod.snd (Prod.snd (Go.Bv.readF t))) : Int) = (122 : Int)) then Ke Go.Exit.ret (Option.some (Go.Bv.VS.mk [((6 : Nat), Go.Bv.V.d (Go.Bv.D.bool Bool.false))] [] (0 : Nat) [] (215 : Nat))) else bif Decidable.decide ((0 : Int) < (↑(List.length (Prod.fst (Go.Bv.readF t))) : Int)) then Ke Go.Exit.ret (Option.some (Go.Bv.VS.mk [((6 : Nat), Go.Bv.V.d (Go.Bv.D.bool Bool.false))] [] (0 : Nat) [] (215 : Nat))) else bif Decidable.decide ((↑(List.length t) : Int) < (↑(Prod.fst (Prod.snd (Go.Bv.readF t))) : Int)) then Ke Go.Exit.ret (Option.some (Go.Bv.VS.mk [((6 : Nat), Go.Bv.V.d (Go.Bv.D.bool Bool.false))] [] (0 : Nat) [] (215 : Nat))) else bif Decidable.decide ((↑(Prod.fst (Prod.snd (Go.Bv.readF t))) : Int) < (↑(List.length t) : Int)) then ((0 : Int) ≤ (0 : Int) ∧ (0 : Int) ≤ Go.IntKind.wrap Go.IntKind.i64 ((↑(Prod.fst (Prod.snd (Go.Bv.readF t))) : Int) + (1 : Int)) ∧ Go.IntKind.wrap Go.IntKind.i64 ((↑(Prod.fst (Prod.snd (Go.Bv.readF t))) : Int) + (1 : Int)) ≤ (↑(List.length t) : Int)) ∧ List.length (List.drop (0 : Nat) (List.take (Int.toNat (Go.IntKind.wrap Go.IntKind.i64 ((↑(Prod.fst (Prod.snd (Go.Bv.readF t))) : Int) + (1 : Int)))) t)) ≤ (4294967280 : Nat) ∧ bif List.isEmpty (Prod.fst (Go.Bv.readF (List.drop (0 : Nat) (List.take (Int.toNat (Go.IntKind.wrap Go.IntKind.i64 ((↑(Prod.fst (Prod.snd (Go.Bv.readF t))) : Int) + (1 : Int)))) t)))) then bif !Decidable.decide ((↑(Prod.snd (Prod.snd (Go.Bv.readF (List.drop (0 : Nat) (List.take (Int.toNat (Go.IntKind.wrap Go.IntKind.i64 ((↑(Prod.fst (Prod.snd (Go.Bv.readF t))) : Int) + (1 : Int)))) t))))) : Int) = (122 : Int)) then Ke Go.Exit.ret (Option.some (Go.Bv.VS.mk [((6 : Nat), Go.Bv.V.d (Go.Bv.D.bool Bool.false))] [] (0 : Nat) [] (215 : Nat))) else bif !Decidable.decide ((↑(Prod.fst (Prod.snd (Go.Bv.readF (List.drop (0 : Nat) (List.take (Int.toNat (Go.IntKind.wrap Go.IntKind.i64 ((↑(Prod.fst (Prod.snd (Go.Bv.readF t))) : Int) + (1 : Int)))) t))))) : Int) = (↑(Prod.fst (Prod.snd (Go.Bv.readF t))) : Int)) then Ke Go.Exit.ret (Option.some (Go.Bv.VS.mk [((6 : Nat), Go.Bv.V.d (Go.Bv.D.bool Bool.false))] [] (0 : Nat) [] (215 : Nat))) else ((0 : Int) ≤ (0 : Int) ∧ (0 : Int) ≤ (↑(Prod.fst (Prod.snd (Go.Bv.readF t))) : Int) ∧ (↑(Prod.fst (Prod.snd (Go.Bv.readF t))) : Int) ≤ (↑(List.length t) : Int)) ∧ List.length (List.drop (0 : Nat) (List.take (Int.toNat (↑(Prod.fst (Prod.snd (Go.Bv.readF t))) : Int)) t)) ≤ (4294967280 : Nat) ∧ bif List.isEmpty (Prod.fst (Go.Bv.readF (List.drop (0 : Nat) (List.take (Int.toNat (↑(Prod.fst (Prod.snd (Go.Bv.readF t))) : Int)) t)))) then bif Decidable.decide ((↑(Prod.snd (Prod.snd (Go.Bv.readF (List.drop (0 : Nat) (List.take (Int.toNat (↑(Prod.fst (Prod.snd (Go.Bv.readF t))) : Int)) t))))) : Int) = (122 : Int)) then bif Decidable.decide ((↑(Prod.fst (Prod.snd (Go.Bv.readF (List.drop (0 : Nat) (List.take (Int.toNat (↑(Prod.fst (Prod.snd (Go.Bv.readF t))) : Int)) t))))) : Int) = (↑(Prod.fst (Prod.snd (Go.Bv.readF t))) : Int)) then Ke Go.Exit.ret (Option.some (Go.Bv.VS.mk [((6 : Nat), Go.Bv.V.d (Go.Bv.D.bool Bool.true))] [] (0 : Nat) [] (215 : Nat))) else bif Decidable.decide ((↑(Prod.snd (Prod.snd (Go.Bv.readF (List.drop (0 : Nat) (List.take (Int.toNat (↑(Prod.fst (Prod.snd (Go.Bv.readF t))) : Int)) t))))) : Int) = (0 : Int)) then bif Decidable.decide ((↑(Prod.fst (Prod.snd (Go.Bv.readF t))) : Int) < (↑(List.length t) : Int)) then Ke Go.Exit.ret (Option.some (Go.Bv.VS.mk [((6 : Nat), Go.Bv.V.d (Go.Bv.D.bool Bool.true))] [] (0 : Nat) [] (215 : Nat))) else Ke Go.Exit.ret (Option.some (Go.Bv.VS.mk [((6 : Nat), Go.Bv.V.d (Go.Bv.D.bool Bool.false))] [] (0 : Nat) [] (215 : Nat))) else Ke Go.Exit.ret (Option.some (Go.Bv.VS.mk [((6 : Nat), Go.Bv.V.d (Go.Bv.D.bool Bool.false))] [] (0 : Nat) [] (215 : Nat))) else bif Decidable.decide ((↑(Prod.snd (Prod.snd (Go.Bv.readF (List.drop (0 : Nat) (List.take (Int.toNat (↑(Prod.fst (Prod.snd (Go.Bv.readF t))) : Int)) t))))) : Int) = (0 : Int)) then bif Decidable.decide ((↑(Prod.fst (Prod.snd (Go.Bv.readF t))) : Int) < (↑(List.length t) : Int)) then Ke Go.Exit.ret (Option.some (Go.Bv.VS.mk [((6 : Nat), Go.Bv.V.d (Go.Bv.D.bool Bool.true))] [] (0 : Nat) [] (215 : Nat))) else Ke Go.Exit.ret (Option.some (Go.Bv.VS.mk [((6 : Nat), Go.Bv.V.d (Go.Bv.D.bool Bool.false))] [] (0 : Nat) [] (215 : Nat))) else Ke Go.Exit.ret (Option.some (Go.Bv.VS.mk [((6 : Nat), Go.Bv.V.d (Go.Bv.D.bool Bool.false))] [] (0 : Nat) [] (215 : Nat))) else bif Decidable.decide ((↑(Prod.snd (Prod.snd (Go.Bv.readF (List.drop (0 : Nat) (List.take (Int.toNat (↑(Prod.fst (Prod.snd (Go.Bv.readF t))) : Int)) t))))) : Int) = (122 : Int)) then bif Decidable.decide ((↑(Prod.fst (Prod.snd (Go.Bv.readF (List.drop (0 : Nat) (List.take (Int.toNat (↑(Prod.fst (Prod.snd (Go.Bv.readF t))) : Int)) t))))) : Int) = (↑(Prod.fst (Prod.snd (Go.Bv.readF t))) : Int)) then Ke Go.Exit.ret (Option.some (Go.Bv.VS.mk [((6 : Nat), Go.Bv.V.d (Go.Bv.D.bool Bool.true))] [] (0 : Nat) [] (215 : Nat))) else bif Decidable.decide ((↑(Prod.snd (Prod.snd (Go.Bv.readF (List.drop (0 : Nat) (List.take (Int.toNat (↑(Prod.fst (Prod.snd (Go.Bv.readF t))) : Int)) t))))) : Int) = (0 : Int)) then bif Decidable.decide ((↑(Prod.fst (Prod.snd (Go.Bv.readF t))) : Int) < (↑(List.length t) : Int)) then Ke Go.Exit.ret (Option.some (Go.Bv.VS.mk [((6 : Nat), Go.Bv.V.d (Go.Bv.D.bool Bool.true))] [] (0 : Nat) [] (215 : Nat))) else Ke Go.Exit.ret (Option.some (Go.Bv.VS.mk [((6 : Nat), Go.Bv.V.d (Go.Bv.D.bool Bool.false))] [] (0 : Nat) [] (215 : Nat))) else Ke Go.Exit.ret (Option.some (Go.Bv.VS.mk [((6 : Nat), Go.Bv.V.d (Go.Bv.D.bool Bool.false))] [] (0 : Nat) [] (215 : Nat))) else bif Decidable.decide ((↑(Prod.snd (Prod.snd (Go.Bv.readF (List.drop (0 : Nat) (List.take (Int.toNat (↑(Prod.fst (Prod.snd (Go.Bv.readF t))) : Int)) t))))) : Int) = (0 : Int)) then bif Decidable.decide ((↑(Prod.fst (Prod.snd (Go.Bv.readF t))) : Int) < (↑(List.length t) : Int)) then Ke Go.Exit.ret (Option.some (Go.Bv.VS.mk [((6 : Nat), Go.Bv.V.d (Go.Bv.D.bool Bool.true))] [] (0 : Nat) [] (215 : Nat))) else Ke Go.Exit.ret (Option.some (Go.Bv.VS.mk [((6 : Nat), Go.Bv.V.d (Go.Bv.D.bool Bool.false))] [] (0 : Nat) [] (215 : Nat))) else Ke Go.Exit.ret (Option.some (Go.Bv.VS.mk [((6 : Nat), Go.Bv.V.d (Go.Bv.D.bool Bool.false))] [] (0 : Nat) [] (215 : Nat))) else bif !Decidable.decide ((↑(Prod.snd (Prod.snd (Go.Bv.readF (List.drop (0 : Nat) (List.take (Int.toNat (Go.IntKind.wrap Go.IntKind.i64 ((↑(Prod.fst (Prod.snd (Go.Bv.readF t))) : Int) + (1 : Int)))) t))))) : Int) = (122 : Int)) then Ke Go.Exit.ret (Option.some (Go.Bv.VS.mk [((6 : Nat), Go.Bv.V.d (Go.Bv.D.bool Bool.false))] [] (0 : Nat) [] (215 : Nat))) else bif !Decidable.decide ((↑(Prod.fst (Prod.snd (Go.Bv.readF (List.drop (0 : Nat) (List.take (Int.toNat (Go.IntKind.wrap Go.IntKind.i64 ((↑(Prod.fst (Prod.snd (Go.Bv.readF t))) : Int) + (1 : Int)))) t))))) : Int) = (↑(Prod.fst (Prod.snd (Go.Bv.readF t))) : Int)) then Ke Go.Exit.ret (Option.some (Go.Bv.VS.mk [((6 : Nat), Go.Bv.V.d (Go.Bv.D.bool Bool.false))] [] (0 : Nat) [] (215 : Nat))) else ((0 : Int) ≤ (0 : Int) ∧ (0 : Int) ≤ (↑(Prod.fst (Prod.snd (Go.Bv.readF t))) : Int) ∧ (↑(Prod.fst (Prod.snd (Go.Bv.readF t))) : Int) ≤ (↑(List.length t) : Int)) ∧ List.length (List.drop (0 : Nat) (List.take (Int.toNat (↑(Prod.fst (Prod.snd (Go.Bv.readF t))) : Int)) t)) ≤ (4294967280 : Nat) ∧ bif List.isEmpty (Prod.fst (Go.Bv.readF (List.drop (0 : Nat) (List.take (Int.toNat (↑(Prod.fst (Prod.snd (Go.Bv.readF t))) : Int)) t)))) then bif Decidable.decide ((↑(Prod.snd (Prod.snd (Go.Bv.readF (List.drop (0 : Nat) (List.take (Int.toNat (↑(Prod.fst (Prod.snd (Go.Bv.readF t))) : Int)) t))))) : Int) = (122 : Int)) then bif Decidable.decide ((↑(Prod.fst (Prod.snd (Go.Bv.readF (List.drop (0 : Nat) (List.take (Int.toNat (↑(Prod.fst (Prod.snd (Go.Bv.readF t))) : Int)) t))))) : Int) = (↑(Prod.fst (Prod.snd (Go.Bv.readF t))) : Int)) then Ke Go.Exit.ret (Option.some (Go.Bv.VS.mk [((6 : Nat), Go.Bv.V.d (Go.Bv.D.bool Bool.true))] [] (0 : Nat) [] (215 : Nat))) else bif Decidable.decide ((↑(Prod.snd (Prod.snd (Go.Bv.readF (List.drop (0 : Nat) (List.take (Int.toNat (↑(Prod.fst (Prod.snd (Go.Bv.readF t))) : Int)) t))))) : Int) = (0 : Int)) then bif Decidable.decide ((↑(Prod.fst (Prod.snd (Go.Bv.readF t))) : Int) < (↑(List.length t) : Int)) then Ke Go.Exit.ret (Option.some (Go.Bv.VS.mk [((6 : Nat), Go.Bv.V.d (Go.Bv.D.bool Bool.true))] [] (0 : Nat) [] (215 : Nat))) else Ke Go.Exit.ret (Option.some (Go.Bv.VS.mk [((6 : Nat), Go.Bv.V.d (Go.Bv.D.bool Bool.false))] [] (0 : Nat) [] (215 : Nat))) else Ke Go.Exit.ret (Option.some (Go.Bv.VS.mk [((6 : Nat), Go.Bv.V.d (Go.Bv.D.bool Bool.false))] [] (0 : Nat) [] (215 : Nat))) else bif Decidable.decide ((↑(Prod.snd (Prod.snd (Go.Bv.readF (List.drop (0 : Nat) (List.take (Int.toNat (↑(Prod.fst (Prod.snd (Go.Bv.readF t))) : Int)) t))))) : Int) = (0 : Int)) then bif Decidable.decide ((↑(Prod.fst (Prod.snd (Go.Bv.readF t))) : Int) < (↑(List.length t) : Int)) then Ke Go.Exit.ret (Option.some (Go.Bv.VS.mk [((6 : Nat), Go.Bv.V.d (Go.Bv.D.bool Bool.true))] [] (0 : Nat) [] (215 : Nat))) else Ke Go.Exit.ret (Option.some (Go.Bv.VS.mk [((6 : Nat), Go.Bv.V.d (Go.Bv.D.bool Bool.false))] [] (0 : Nat) [] (215 : Nat))) else Ke Go.Exit.ret (Option.some (Go.Bv.VS.mk [((6 : Nat), Go.Bv.V.d (Go.Bv.D.bool Bool.false))] [] (0 : Nat) [] (215 : Nat))) else bif Decidable.decide ((↑(Prod.snd (Prod.snd (Go.Bv.readF (List.drop (0 : Nat) (List.take (Int.toNat (↑(Prod.fst (Prod.snd (Go.Bv.readF t))) : Int)) t))))) : Int) = (122 : Int)) then bif Decidable.decide ((↑(Prod.fst (Prod.snd (Go.Bv.readF (List.drop (0 : Nat) (List.take (Int.toNat (↑(Prod.fst (Prod.snd (Go.Bv.readF t))) : Int)) t))))) : Int) = (↑(Prod.fst (Prod.snd (Go.Bv.readF t))) : Int)) then Ke Go.Exit.ret (Option.some (Go.Bv.VS.mk [((6 : Nat), Go.Bv.V.d (Go.Bv.D.bool Bool.true))] [] (0 : Nat) [] (215 : Nat))) else bif Decidable.decide ((↑(Prod.snd (Prod.snd (Go.Bv.readF (List.drop (0 : Nat) (List.take (Int.toNat (↑(Prod.fst (Prod.snd (Go.Bv.readF t))) : Int)) t))))) : Int) = (0 : Int)) then bif Decidable.decide ((↑(Prod.fst (Prod.snd (Go.Bv.readF t))) : Int) < (↑(List.length t) : Int)) then Ke Go.Exit.ret (Option.some (Go.Bv.VS.mk [((6 : Nat), Go.Bv.V.d (Go.Bv.D.bool Bool.true))] [] (0 : Nat) [] (215 : Nat))) else Ke Go.Exit.ret (Option.some (Go.Bv.VS.mk [((6 : Nat), Go.Bv.V.d (Go.Bv.D.bool Bool.false))] [] (0 : Nat) [] (215 : Nat))) else Ke Go.Exit.ret (Option.some (Go.Bv.VS.mk [((6 : Nat), Go.Bv.V.d (Go.Bv.D.bool Bool.false))] [] (0 : Nat) [] (215 : Nat))) else bif Decidable.decide ((↑(Prod.snd (Prod.snd (Go.Bv.readF (List.drop (0 : Nat) (List.take (Int.toNat (↑(Prod.fst (Prod.snd (Go.Bv.readF t))) : Int)) t))))) : Int) = (0 : Int)) then bif Decidable.decide ((↑(Prod.fst (Prod.snd (Go.Bv.readF t))) : Int) < (↑(List.length t) : Int)) then Ke Go.Exit.ret (Option.some (Go.Bv.VS.mk [((6 : Nat), Go.Bv.V.d (Go.Bv.D.bool Bool.true))] [] (0 : Nat) [] (215 : Nat))) else Ke Go.Exit.ret (Option.some (Go.Bv.VS.mk [((6 : Nat), Go.Bv.V.d (Go.Bv.D.bool Bool.false))] [] (0 : Nat) [] (215 : Nat))) else Ke Go.Exit.ret (Option.some (Go.Bv.VS.mk [((6 : Nat), Go.Bv.V.d (Go.Bv.D.bool Bool.false))] [] (0 : Nat) [] (215 : Nat))) else ((0 : Int) ≤ (0 : Int) ∧ (0 : Int) ≤ (↑(Prod.fst (Prod.snd (Go.Bv.readF t))) : Int) ∧ (↑(Prod.fst (Prod.snd (Go.Bv.readF t))) : Int) ≤ (↑(List.length t) : Int)) ∧ List.length (List.drop (0 : Nat) (List.take (Int.toNat (↑(Prod.fst (Prod.snd (Go.Bv.readF t))) : Int)) t)) ≤ (4294967280 : Nat) ∧ bif List.isEmpty (Prod.fst (Go.Bv.readF (List.drop (0 : Nat) (List.take (Int.toNat (↑(Prod.fst (Prod.snd (Go.Bv.readF t))) : Int)) t)))) then bif Decidable.decide ((↑(Prod.snd (Prod.snd (Go.Bv.readF (List.drop (0 : Nat) (List.take (Int.toNat (↑(Prod.fst (Prod.snd (Go.Bv.readF t))) : Int)) t))))) : Int) = (122 : Int)) then bif Decidable.decide ((↑(Prod.fst (Prod.snd (Go.Bv.readF (List.drop (0 : Nat) (List.take (Int.toNat (↑(Prod.fst (Prod.snd (Go.Bv.readF t))) : Int)) t))))) : Int) = (↑(Prod.fst (Prod.snd (Go.Bv.readF t))) : Int)) then Ke Go.Exit.ret (Option.some (Go.Bv.VS.mk [((6 : Nat), Go.Bv.V.d (Go.Bv.D.bool Bool.true))] [] (0 : Nat) [] (215 : Nat))) else bif Decidable.decide ((↑(Prod.snd (Prod.snd (Go.Bv.readF (List.drop (0 : Nat) (List.take (Int.toNat (↑(Prod.fst (Prod.snd (Go.Bv.readF t))) : Int)) t))))) : Int) = (0 : Int)) then bif Decidable.decide ((↑(Prod.fst (Prod.snd (Go.Bv.readF t))) : Int) < (↑(List.length t) : Int)) then Ke Go.Exit.ret (Option.some (Go.Bv.VS.mk [((6 : Nat), Go.Bv.V.d (Go.Bv.D.bool Bool.true))] [] (0 : Nat) [] (215 : Nat))) else Ke Go.Exit.ret (Option.some (Go.Bv.VS.mk [((6 : Nat), Go.Bv.V.d (Go.Bv.D.bool Bool.false))] [] (0 : Nat) [] (215 : Nat))) else Ke Go.Exit.ret (Option.some (Go.Bv.VS.mk [((6 : Nat), Go.Bv.V.d (Go.Bv.D.bool Bool.false))] [] (0 : Nat) [] (215 : Nat))) else bif Decidable.decide ((↑(Prod.snd (Prod.snd (Go.Bv.readF (List.drop (0 : Nat) (List.take (Int.toNat (↑(Prod.fst (Prod.snd (Go.Bv.readF t))) : Int)) t))))) : Int) = (0 : Int)) then bif Decidable.decide ((↑(Prod.fst (Prod.snd (Go.Bv.readF t))) : Int) < (↑(List.length t) : Int)) then Ke Go.Exit.ret (Option.some (Go.Bv.VS.mk [((6 : Nat), Go.Bv.V.d (Go.Bv.D.bool Bool.true))] [] (0 : Nat) [] (215 : Nat))) else Ke Go.Exit.ret (Option.some (Go.Bv.VS.mk [((6 : Nat), Go.Bv.V.d (Go.Bv.D.bool Bool.false))] [] (0 : Nat) [] (215 : Nat))) else Ke Go.Exit.ret (Option.some (Go.Bv.VS.mk [((6 : Nat), Go.Bv.V.d (Go.Bv.D.bool Bool.false))] [] (0 : Nat) [] (215 : Nat))) else bif Decidable.decide ((↑(Prod.snd (Prod.snd (Go.Bv.readF (List.drop (0 : Nat) (List.take (Int.toNat (↑(Prod.fst (Prod.snd (Go.Bv.readF t))) : Int)) t))))) : Int) = (122 : Int)) then bif Decidable.decide ((↑(Prod.fst (Prod.snd (Go.Bv.readF (List.drop (0 : Nat) (List.take (Int.toNat (↑(Prod.fst (Prod.snd (Go.Bv.readF t))) : Int)) t))))) : Int) = (↑(Prod.fst (Prod.snd (Go.Bv.readF t))) : Int)) then Ke Go.Exit.ret (Option.some (Go.Bv.VS.mk [((6 : Nat), Go.Bv.V.d (Go.Bv.D.bool Bool.true))] [] (0 : Nat) [] (215 : Nat))) else bif Decidable.decide ((↑(Prod.snd (Prod.snd (Go.Bv.readF (List.drop (0 : Nat) (List.take (Int.toNat (↑(Prod.fst (Prod.snd (Go.Bv.readF t))) : Int)) t))))) : Int) = (0 : Int)) then bif Decidable.decide ((↑(Prod.fst (Prod.snd (Go.Bv.readF t))) : Int) < (↑(List.length t) : Int)) then Ke Go.Exit.ret (Option.some (Go.Bv.VS.mk [((6 : Nat), Go.Bv.V.d (Go.Bv.D.bool Bool.true))] [] (0 : Nat) [] (215 : Nat))) else Ke Go.Exit.ret (Option.some (Go.Bv.VS.mk [((6 : Nat), Go.Bv.V.d (Go.Bv.D.bool Bool.false))] [] (0 : Nat) [] (215 : Nat))) else Ke Go.Exit.ret (Option.some (Go.Bv.VS.mk [((6 : Nat), Go.Bv.V.d (Go.Bv.D.bool Bool.false))] [] (0 : Nat) [] (215 : Nat))) else bif Decidable.decide ((↑(Prod.snd (Prod.snd (Go.Bv.readF (List.drop (0 : Nat) (List.take (Int.toNat (↑(Prod.fst (Prod.snd (Go.Bv.readF t))) : Int)) t))))) : Int) = (0 : Int)) then bif Decidable.decide ((↑(Prod.fst (Prod.snd (Go.Bv.readF t))) : Int) < (↑(List.length t) : Int)) then Ke Go.Exit.ret (Option.some (Go.Bv.VS.mk [((6 : Nat), Go.Bv.V.d (Go.Bv.D.bool Bool.true))] [] (0 : Nat) [] (215 : Nat))) else Ke Go.Exit.ret (Option.some (Go.Bv.VS.mk [((6 : Nat), Go.Bv.V.d (Go.Bv.D.bool Bool.false))] [] (0 : Nat) [] (215 : Nat))) else Ke Go.Exit.ret (Option.some (Go.Bv.VS.mk [((6 : Nat), Go.Bv.V.d (Go.Bv.D.bool Bool.false))] [] (0 : Nat) [] (215 : Nat))) else List.length (Prod.fst (Go.Bv.readF t)) = List.length (Go.Bv.strsD (Prod.fst (Go.Bv.readF t))) ∧ (Go.Bv.strsD (Prod.fst (Go.Bv.readF t)) = Go.Bv.strsD (Go.Bv.strsV (Go.Bv.strsD (Prod.fst (Go.Bv.readF t)))) ∧ (List.all (Go.Bv.strsV (Go.Bv.strsD (Prod.fst (Go.Bv.readF t)))) fun (x : List UInt8) => Decidable.decide (List.length x ≤ (4294967280 : Nat))) = Bool.true ∧ List.length (Go.Bv.strsV (Go.Bv.strsD (Prod.fst (Go.Bv.readF t)))) ≤ (9223372036854775807 : Nat)) ∧ bif Decidable.decide (Prod.snd (Go.Bv.writeL (Go.Bv.strsV (Go.Bv.strsD (Prod.fst (Go.Bv.readF t))))) = (0 : Int)) then bif Decidable.decide (Prod.fst (Go.Bv.writeL (Go.Bv.strsV (Go.Bv.strsD (Prod.fst (Go.Bv.readF t))))) = t) then Ke Go.Exit.ret (Option.some (Go.Bv.VS.mk [((6 : Nat), Go.Bv.V.d (Go.Bv.D.bool Bool.true))] [] (0 : Nat) [] (215 : Nat))) else Ke Go.Exit.ret (Option.some (Go.Bv.VS.mk [((6 : Nat), Go.Bv.V.d (Go.Bv.D.bool Bool.false))] [] (0 : Nat) [] (215 : Nat))) else Ke Go.Exit.ret (Option.some (Go.Bv.VS.mk [((6 : Nat), Go.Bv.V.d (Go.Bv.D.bool Bool.false))] [] (0 : Nat) [] (215 : Nat)))) = (roundC Tryz.prog xLaw iLaw 0 (fun _ => none) (nodeB Tryz.prog 3 [true, true, true, true]) 31 [] [] [6] (byS2 t) Kn Ke) := by kernel_rfl
end Go.Proofs

namespace Go.Proofs
open Go Go.Bv
theorem xor_two : ((List.range 256).all fun n => decide (0 ≤ bits .xor .u8 (n : Int) 2 ∧ bits .xor .u8 (n : Int) 2 < 256 ∧ bits .xor .u8 (n : Int) 2 ≠ n)) = true := by kernel_rfl
theorem xor2 (b : UInt8) : 0 ≤ bits .xor .u8 (b.toNat : Int) 2 ∧ bits .xor .u8 (b.toNat : Int) 2 < 256 ∧ UInt8.ofNat (bits .xor .u8 (b.toNat : Int) 2).toNat ≠ b := by
  have h := List.all_eq_true.1 xor_two b.toNat (List.mem_range.2 b.toNat_lt)
  simp only [decide_eq_true_eq] at h
  refine ⟨h.1, h.2.1, fun e => h.2.2 ?_⟩
  have := congrArg UInt8.toNat e
  rw [UInt8.toNat_ofNat', Nat.mod_eq_of_lt (by omega)] at this
  omega
theorem set_turned (F : List UInt8) (k : Nat) (x : UInt8) (hk : k < F.length) (hx : x ≠ F.getD k 0) : (F.set k x).take k = F.take k ∧ F.set k x ≠ F := by
  refine ⟨List.take_set_of_le (Nat.le_refl _), fun e => hx ?_⟩
  have : (F.set k x)[k]? = some x := by rw [List.getElem?_set, if_pos rfl, if_pos hk]
  rw [e] at this
  rw [List.getD_eq_getElem?_getD, this]; rfl
theorem bytes_a_ok (b : Bool) (xs : List (List UInt8)) (t : List UInt8) (a : Int) (F : List UInt8) (e : Int) (hw : writeL xs = (F, e)) (hF : F.length ≤ 4294967280) (hl : xs.length ≤ 140737488355328) (Kn : Option VS → Prop) (Ke : Exit → Option VS → Prop) (hn : Kn (some (byS2 t))) :
    roundC Tryz.prog xLaw iLaw 0 (fun _ => none) (nodeB Tryz.prog 3 [true, true, true, false]) 30 [1] [] [6] (byS b (strsD xs) t a F e) Kn Ke := by
  rw [← bytes_a]
  have hsv : strsV [] = ([] : List (List UInt8)) := rfl
  simp only [strsV_D, strsD_len, List.drop_zero, hsv]
  cases he : decide (e = 0) with
  | true =>
    simp only [decide_eq_true_eq] at he
    subst he
    have hr := read_write hw
    have hread : ∀ k : Nat, a = (k : Int) → k < F.length →
        ((F.set k (UInt8.ofNat (bits BinOp.xor IntKind.u8 ((F.getD k 0).toNat : Int) 2).toNat)).length = F.length ∧ readF (F.take k) = ([], k, 122) ∧
        ((readF (F.set k (UInt8.ofNat (bits BinOp.xor IntKind.u8 ((F.getD k 0).toNat : Int) 2).toNat))).2.2 = 0 → (readF (F.set k (UInt8.ofNat (bits BinOp.xor IntKind.u8 ((F.getD k 0).toNat : Int) 2).toNat))).1 ≠ xs) ∧
        ((readF (F.set k (UInt8.ofNat (bits BinOp.xor IntKind.u8 ((F.getD k 0).toNat : Int) 2).toNat))).2.2 ≠ 0 → k ≤ (readF (F.set k (UInt8.ofNat (bits BinOp.xor IntKind.u8 ((F.getD k 0).toNat : Int) 2).toNat))).2.1)) := fun k _ hk => by
      obtain ⟨s1, s2⟩ := set_turned F k _ hk (xor2 (F.getD k 0)).2.2
      obtain ⟨t1, t2⟩ := file_turned hw hk s1 s2
      exact ⟨List.length_set, file_cut hw hk, t1, t2⟩
    simp only [hr, Int.natCast_zero, decide_true, Bool.not_true, cond_true, cond_false]
    refine ⟨hF, ?_⟩
    cases h0 : decide (0 ≤ a) with
    | false =>
      cases he : xs.isEmpty with
      | true =>
        obtain rfl : xs = [] := List.isEmpty_iff.1 he
        exact ⟨⟨trivial, trivial, by omega⟩, by simp only [decide_true, Bool.not_true, cond_false]; exact hn⟩
      | false => exact ⟨⟨trivial, trivial, trivial, hl⟩, hn⟩
    | true =>
      cases h1 : decide (a < (F.length : Int)) with
      | false =>
        cases he : xs.isEmpty with
        | true =>
          obtain rfl : xs = [] := List.isEmpty_iff.1 he
          exact ⟨⟨trivial, trivial, by omega⟩, by simp only [decide_true, Bool.not_true, cond_false, cond_true]; exact hn⟩
        | false => exact ⟨⟨trivial, trivial, trivial, hl⟩, hn⟩
      | true =>
        simp only [decide_eq_true_eq] at h0 h1
        obtain ⟨k, rfl⟩ : ∃ k : Nat, a = k := ⟨a.toNat, by omega⟩
        simp only [Int.toNat_natCast]
        have hk : k < F.length := by omega
        obtain ⟨g1, g2, g3, g4⟩ := hread k rfl hk
        have hx2 := xor2 (F.getD k 0)
        have htk : (F.take k).length ≤ 4294967280 := by rw [List.length_take]; omega
        simp only [g2, List.isEmpty_nil, cond_true, Int.cast_ofNat_Int, decide_true, Bool.not_true, cond_false, List.length_set]
        have h80 := readF_80 (F.set k (UInt8.ofNat (bits BinOp.xor IntKind.u8 ((F.getD k 0).toNat : Int) 2).toNat))
        clear hread hr hw g2
        obtain ⟨q, hq⟩ : ∃ q, readF (F.set k (UInt8.ofNat (bits BinOp.xor IntKind.u8 ((F.getD k 0).toNat : Int) 2).toNat)) = q := ⟨_, rfl⟩
        obtain ⟨l, m, g⟩ := q
        simp only [hq] at g3 g4 h80 ⊢
        have common : (g = 0 ∧ l ≠ xs) ∨ (g ≠ 0 ∧ k ≤ m) := by
          by_cases hg : g = 0
          · exact .inl ⟨hg, g3 hg⟩
          · exact .inr ⟨hg, g4 hg⟩
        have pre : ((0 : Int) ≤ (k : Int) ∧ (k : Int) < (F.length : Int)) := ⟨h0, h1⟩
        have pre3 : ((0 : Int) ≤ (0 : Int) ∧ (0 : Int) ≤ (k : Int) ∧ (k : Int) ≤ (F.length : Int)) := ⟨by omega, by omega, by omega⟩
        clear g3 g4
        cases he : xs.isEmpty with
        | true =>
          obtain rfl : xs = [] := List.isEmpty_iff.1 he
          simp only [decide_true, Bool.not_true, cond_true, cond_false]
          refine ⟨⟨trivial, trivial, by omega⟩, pre, hk, pre, ⟨hk, hx2.1, hx2.2.1⟩, trivial, hF, ?_⟩
          rcases common with ⟨rfl, h3⟩ | ⟨h3, h4⟩
          · cases hle : l.isEmpty with
            | true => exact absurd (List.isEmpty_iff.1 hle) h3
            | false =>
              have h5 : decide (l = []) = false := by simpa using h3
              simp only [Int.natCast_zero, decide_true, Bool.not_true, cond_true, cond_false, h5]
              exact ⟨⟨trivial, trivial, trivial, by omega⟩, pre3, htk, hn⟩
          · have h5 : decide ((g : Int) = 0) = false := by simp only [decide_eq_false_iff_not]; omega
            have h6 : decide ((m : Int) < (k : Int)) = false := by simp only [decide_eq_false_iff_not]; omega
            simp only [h5, h6, Bool.not_false, cond_true, cond_false]
            cases hle : l.isEmpty with
            | true => exact ⟨pre3, htk, hn⟩
            | false => exact ⟨pre3, htk, hn⟩
        | false =>
          refine ⟨⟨trivial, trivial, trivial, hl⟩, pre, hk, pre, ⟨hk, hx2.1, hx2.2.1⟩, trivial, hF, ?_⟩
          rcases common with ⟨rfl, h3⟩ | ⟨h3, h4⟩
          · have h5 : decide (l = xs) = false := by simpa using h3
            cases hle : l.isEmpty with
            | true =>
              obtain rfl : l = [] := List.isEmpty_iff.1 hle
              simp only [Int.natCast_zero, decide_true, Bool.not_true, cond_true, cond_false, h5]
              exact ⟨⟨trivial, trivial, by omega⟩, pre3, htk, hn⟩
            | false =>
              simp only [Int.natCast_zero, decide_true, Bool.not_true, cond_true, cond_false, h5]
              exact ⟨⟨trivial, trivial, trivial, by omega⟩, pre3, htk, hn⟩
          · have h5 : decide ((g : Int) = 0) = false := by simp only [decide_eq_false_iff_not]; omega
            have h6 : decide ((m : Int) < (k : Int)) = false := by simp only [decide_eq_false_iff_not]; omega
            simp only [h5, h6, Bool.not_false, cond_true, cond_false]
            cases hle : l.isEmpty with
            | true => exact ⟨pre3, htk, hn⟩
            | false => exact ⟨pre3, htk, hn⟩
  | false =>
    simp only [decide_eq_false_iff_not] at he
    have hFe : F = [] ∧ (e = 2 ∨ e = 121) := by
      unfold writeL at hw
      cases hd : decide (80 < xs.length) with
      | true => rw [hd] at hw; simp only [cond_true, Prod.mk.injEq] at hw; exact ⟨hw.1.symm, .inl hw.2.symm⟩
      | false =>
        rw [hd] at hw
        cases hb : xs.all writableL with
        | true => rw [hb] at hw; simp only [cond_true, cond_false, Prod.mk.injEq] at hw; exact absurd hw.2.symm he
        | false => rw [hb] at hw; simp only [cond_false, Prod.mk.injEq] at hw; exact ⟨hw.1.symm, .inr hw.2.symm⟩
    obtain ⟨rfl, h2⟩ := hFe
    simp only [List.length_nil]
    rcases h2 with rfl | rfl
    · exact hn
    · exact hn
def byTA : LoopT := fun s W Q => ∃ (b : Bool) (xs : List (List UInt8)) (t : List UInt8) (a : Int) (F : List UInt8) (e : Int), canonN 0 [0, 1, 2, 7, 8] s = some (byS b (strsD xs) t a F e) ∧ (writeL xs = (F, e) ∧ F.length ≤ 4294967280 ∧ xs.length ≤ 140737488355328) ∧ Q .normal (byS2 t) []
set_option maxRecDepth 100000 in
theorem byTA_ok : NodeOK Tryz.prog 0 none (nodeB Tryz.prog 3 [true, true, true, false]) byTA := by
  refine NodeOK.walk (C := fun _ => none) (p := 30) xLaw_ok iLaw_ok mixed [0, 1, 2, 7, 8] [1] [] [6] (fun p : Bool × List (List UInt8) × List UInt8 × Int × List UInt8 × Int => byS p.1 (strsD p.2.1) p.2.2.1 p.2.2.2.1 p.2.2.2.2.1 p.2.2.2.2.2)
    (fun p => writeL p.2.1 = (p.2.2.2.2.1, p.2.2.2.2.2) ∧ p.2.2.2.2.1.length ≤ 4294967280 ∧ p.2.1.length ≤ 140737488355328) (fun p e s => e = .normal ∧ s = byS2 p.2.2.1) ?_ ?_
  · rintro ⟨b, xs, t, a, F, e⟩ ⟨hw, hF, hl⟩
    exact bytes_a_ok b xs t a F e hw hF hl _ _ ⟨_, rfl, rfl, rfl⟩
  · intro s W Q hT
    obtain ⟨b, xs, t, a, F, e, h1, h2, h3⟩ := hT
    exact ⟨(b, xs, t, a, F, e), h1, h2, fun e' s' h => ⟨[], by obtain ⟨rfl, rfl⟩ := h; exact h3⟩⟩
theorem read_lens {t : List UInt8} (h : (readF t).2.2 = 0) : (readF t).1.all (fun x => decide (x.length ≤ 4294967280)) = true := by
  obtain ⟨_, h2, _⟩ := writeL_ok (write_read h)
  rw [List.all_eq_true] at h2 ⊢
  intro x hx
  have := h2 x hx
  rw [writableL_eq, Bool.and_eq_true, decide_eq_true_eq] at this
  rw [decide_eq_true_eq]; omega
theorem bytes_b_ok (t : List UInt8) (ht : t.length ≤ 4294967280) (Kn : Option VS → Prop) (Ke : Exit → Option VS → Prop) (hk : Ke .ret (some byE)) :
    roundC Tryz.prog xLaw iLaw 0 (fun _ => none) (nodeB Tryz.prog 3 [true, true, true, true]) 31 [] [] [6] (byS2 t) Kn Ke := by
  rw [← bytes_b]
  have hsv : strsV [] = ([] : List (List UInt8)) := rfl
  have h80 := readF_80 t
  simp only [strsV_D, strsD_len, List.drop_zero, hsv]
  refine ⟨ht, ?_⟩
  by_cases hg : (readF t).2.2 = 0
  · have hw := write_read hg
    have hl := read_lens hg
    have hp : (readF t).2.1 = 0 := by
      rcases readF_or t with h | h
      · exact h.2
      · rw [h.1] at hg; cases hg
    simp only [hw, hg, hp, Int.natCast_zero, decide_true, Bool.not_true, cond_true, cond_false]
    cases he : (readF t).1.isEmpty with
    | true =>
      have h0 := List.isEmpty_iff.1 he
      rw [h0] at hw
      have h1 : writeL [] = ([101, 110, 100, 32, 48, 32, 55, 10], 0) := by decide
      rw [h1] at hw
      obtain ⟨rfl, _⟩ := Prod.mk.inj hw
      simp only [decide_true, cond_true]
      exact ⟨trivial, ⟨trivial, trivial, by omega⟩, hk⟩
    | false => exact ⟨trivial, ⟨trivial, hl, by omega⟩, hk⟩
  · obtain ⟨g1, g2, g3, g4, g5⟩ := read_bad hg
    obtain ⟨n, hn⟩ : ∃ n, (readF t).2.1 = n := ⟨_, rfl⟩
    rw [hn] at g3 g4 g5
    simp only [hn, g1, g2]
    have w1 : IntKind.i64.wrap ((n : Int) + 1) = ((n + 1 : Nat) : Int) := by rw [wrap_in _ (by omega) (by omega)]; omega
    have d1 : decide ((t.length : Int) < (n : Int)) = false := by simp only [decide_eq_false_iff_not]; omega
    have htk : (t.take n).length ≤ 4294967280 := by rw [List.length_take]; omega
    have htk1 : (t.take (n + 1)).length ≤ 4294967280 := by rw [List.length_take]; omega
    simp only [w1, d1, Int.toNat_natCast, Int.cast_ofNat_Int, Int.reduceEq, decide_false, Bool.not_false, decide_true, Bool.not_true, cond_true, cond_false, List.isEmpty_nil]
    by_cases hlt : n < t.length
    · have d2 : decide ((n : Int) < (t.length : Int)) = true := by simp only [decide_eq_true_eq]; omega
      have pre1 : ((0 : Int) ≤ 0 ∧ (0 : Int) ≤ ((n + 1 : Nat) : Int) ∧ ((n + 1 : Nat) : Int) ≤ (t.length : Int)) := ⟨by omega, by omega, by omega⟩
      have pre2 : ((0 : Int) ≤ 0 ∧ (0 : Int) ≤ (n : Int) ∧ (n : Int) ≤ (t.length : Int)) := ⟨by omega, by omega, by omega⟩
      simp only [d2, g4 hlt, Int.cast_ofNat_Int, Int.reduceEq, decide_false, Bool.not_false, decide_true, Bool.not_true, cond_true, cond_false, List.isEmpty_nil]
      refine ⟨pre1, htk1, pre2, htk, ?_⟩
      rcases g5 with g5 | ⟨g5, _⟩
      · simp only [g5, Int.cast_ofNat_Int, decide_true, cond_true, List.isEmpty_nil]; exact hk
      · simp only [g5, Int.natCast_zero, Int.reduceEq, decide_false, decide_true, cond_true, cond_false]
        cases (readF (t.take n)).1.isEmpty with
        | true => exact hk
        | false => exact hk
    · have d2 : decide ((n : Int) < (t.length : Int)) = false := by simp only [decide_eq_false_iff_not]; omega
      have pre2 : ((0 : Int) ≤ 0 ∧ (0 : Int) ≤ (n : Int) ∧ (n : Int) ≤ (t.length : Int)) := ⟨by omega, by omega, by omega⟩
      rcases g5 with g5 | ⟨_, g5⟩
      · simp only [d2, g5, Int.cast_ofNat_Int, decide_true, cond_true, cond_false, List.isEmpty_nil]
        exact ⟨pre2, htk, hk⟩
      · exact absurd g5 hlt
def byTB : LoopT := fun s W Q => ∃ (t : List UInt8), canonN 0 [1] s = some (byS2 t) ∧ t.length ≤ 4294967280 ∧ Q .ret byE []
set_option maxRecDepth 100000 in
theorem byTB_ok : NodeOK Tryz.prog 0 none (nodeB Tryz.prog 3 [true, true, true, true]) byTB := by
  refine NodeOK.walk (C := fun _ => none) (p := 31) xLaw_ok iLaw_ok mixed [1] [] [] [6] (fun t : List UInt8 => byS2 t) (fun t => t.length ≤ 4294967280) (fun t e s => e = .ret ∧ s = byE) ?_ ?_
  · intro t ht
    exact bytes_b_ok t ht _ _ ⟨_, rfl, rfl, rfl⟩
  · intro s W Q hT
    obtain ⟨t, h1, h2, h3⟩ := hT
    exact ⟨t, h1, h2, fun e' s' h => ⟨[], by obtain ⟨rfl, rfl⟩ := h; exact h3⟩⟩
def cBy : Nat → Option LoopT := fun p => bif Nat.beq p 30 then some byTA else bif Nat.beq p 31 then some byTB else none
end Go.Proofs

namespace Go.Proofs
open Go Go.Bv
theorem bytes_body (b : Bool) (es : List (List Go.Bv.D)) (t : List UInt8) (a : Int) (K : Go.Bv.KC) : ((es = Go.Bv.strsD (Go.Bv.strsV es) ∧ (∀ (x : List UInt8), x ∈ Go.Bv.strsV es → List.length x ≤ (140737488355328 : Nat)) ∧ List.length (Go.Bv.strsV es) ≤ (140737488355328 : Nat)) ∧ bif Go.Bv.farB (Go.Bv.strsV es) then K (Go.Bv.V.d (Go.Bv.D.bool Bool.true)) [] [] else bif Decidable.decide ((3000 : Int) < (↑(List.length t) : Int)) then K (Go.Bv.V.d (Go.Bv.D.bool Bool.true)) [] [] else (List.all es fun (e : List Go.Bv.D) => List.length e == (1 : Nat)) = Bool.true ∧ (es = Go.Bv.strsD (Go.Bv.strsV es) ∧ (List.all (Go.Bv.strsV es) fun (x : List UInt8) => Decidable.decide (List.length x ≤ (4294967280 : Nat))) = Bool.true ∧ List.length (Go.Bv.strsV es) ≤ (9223372036854775807 : Nat)) ∧ Go.Bv.NodeOK Go.Proofs.Tryz.prog (0 : Nat) Option.none (Go.Bv.nodeB Go.Proofs.Tryz.prog (3 : Nat) [Bool.true, Bool.true, Bool.true, Bool.false]) Go.Proofs.byTA ∧ ∃ (b_1 : Bool), ∃ (xs : List (List UInt8)), ∃ (t_1 : List UInt8), ∃ (a_1 : Int), ∃ (F : List UInt8), ∃ (e : Int), Option.some (Go.Bv.VS.mk [((0 : Nat), Go.Bv.V.d (Go.Bv.D.slice b es)), ((1 : Nat), Go.Bv.V.d (Go.Bv.D.str t)), ((2 : Nat), Go.Bv.V.d (Go.Bv.D.int Go.IntKind.i64 a)), ((7 : Nat), Go.Bv.V.d (Go.Bv.D.str (Prod.fst (Go.Bv.writeL (Go.Bv.strsV es))))), ((8 : Nat), Go.Bv.V.d (Go.Bv.D.int Go.IntKind.i64 (Prod.snd (Go.Bv.writeL (Go.Bv.strsV es)))))] [] (0 : Nat) [] (215 : Nat)) = Option.some (Go.Bv.VS.mk [((0 : Nat), Go.Bv.V.d (Go.Bv.D.slice b_1 (Go.Bv.strsD xs))), ((1 : Nat), Go.Bv.V.d (Go.Bv.D.str t_1)), ((2 : Nat), Go.Bv.V.d (Go.Bv.D.int Go.IntKind.i64 a_1)), ((7 : Nat), Go.Bv.V.d (Go.Bv.D.str F)), ((8 : Nat), Go.Bv.V.d (Go.Bv.D.int Go.IntKind.i64 e))] [] (0 : Nat) [] (215 : Nat)) ∧ (Go.Bv.writeL xs = (F, e) ∧ List.length F ≤ (4294967280 : Nat) ∧ List.length xs ≤ (140737488355328 : Nat)) ∧ Go.Bv.NodeOK Go.Proofs.Tryz.prog (0 : Nat) Option.none (Go.Bv.nodeB Go.Proofs.Tryz.prog (3 : Nat) [Bool.true, Bool.true, Bool.true, Bool.true]) Go.Proofs.byTB ∧ ∃ (t : List UInt8), Option.some (Go.Bv.VS.mk [((1 : Nat), Go.Bv.V.d (Go.Bv.D.str t_1))] [] (0 : Nat) [] (215 : Nat)) = Option.some (Go.Bv.VS.mk [((1 : Nat), Go.Bv.V.d (Go.Bv.D.str t))] [] (0 : Nat) [] (215 : Nat)) ∧ List.length t ≤ (4294967280 : Nat) ∧ K (Go.Bv.V.d (Go.Bv.D.bool Bool.true)) [] []) = (bodyC Tryz.prog xLaw iLaw cBy 3 [.d (.slice b es), .d (.str t), .d (.int .i64 a)] [] K) := by kernel_rfl
theorem writeL_len (xs : List (List UInt8)) : (writeL xs).1.length ≤ 4294967280 := by
  unfold writeL
  cases hd : decide (80 < xs.length) with
  | true => simp
  | false =>
    simp only [decide_eq_false_iff_not] at hd
    cases hb : xs.all writableL with
    | false => simp
    | true =>
      have l1 := bodyL_len xs hb
      have l2 := lastZ_len (xs.length : Nat) (bodyL xs)
      simp only [cond_true, cond_false, List.length_append]
      have e : lastL xs.length (bodyL xs) = lastZ (xs.length : Nat) (bodyL xs) := rfl
      rw [e]; omega
theorem bytes_law (b : Bool) (xs : List (List UInt8)) (t : List UInt8) (a : Int) (hx : ∀ x, x ∈ xs → x.length ≤ 140737488355328) (hl : xs.length ≤ 140737488355328) :
    VSpec Tryz.prog 3 [.d (.slice b (strsD xs)), .d (.str t), .d (.int .i64 a)] [] (.d (.bool true)) [] := by
  refine VSpec.of_inl (bodyC_ok (C := cBy) xLaw_ok iLaw_ok mixed) ?_
  rw [← bytes_body]
  have hall : (strsD xs).all (fun e => e.length == 1) = true := by
    rw [List.all_eq_true]; intro e he
    obtain ⟨y, _, rfl⟩ := List.mem_map.1 he
    rfl
  simp only [strsV_D]
  refine ⟨⟨trivial, hx, hl⟩, ?_⟩
  cases hf : farB xs with
  | true => exact ⟨by first | trivial | rfl, by first | trivial | rfl⟩
  | false =>
    unfold farB at hf
    simp only [Bool.or_eq_false_iff, decide_eq_false_iff_not] at hf
    have hx3 := farN_mem xs 0 (by omega)
    have hx4 : ∀ x, x ∈ xs → x.length ≤ 4294967280 := fun x h => by have := hx3 x h; omega
    have hx5 : (xs.all fun x => decide (x.length ≤ 4294967280)) = true := by rw [List.all_eq_true]; intro x h; simpa using hx4 x h
    cases ht : decide ((3000 : Int) < (t.length : Int)) with
    | true => exact ⟨by first | trivial | rfl, by first | trivial | rfl⟩
    | false =>
      simp only [decide_eq_false_iff_not] at ht
      refine ⟨hall, ⟨trivial, hx5, by omega⟩, byTA_ok, b, xs, t, a, (writeL xs).1, (writeL xs).2, rfl, ⟨rfl, writeL_len xs, hl⟩, byTB_ok, t, rfl, by omega, by first | trivial | rfl, by first | trivial | rfl⟩
end Go.Proofs

namespace Go.Proofs
open Go Go.Bv Go.Lib Go.RowKit Go.ChangeShapes Go.WideShapes Go.ChangeAt
theorem allRel_three {g : Gh} {a b c : V} {x y z : Value} (h : RelV g a x) (k : RelV g b y) (l : RelV g c z) : AllRel g [a, b, c] #[x, y, z] :=
  ⟨rfl, fun i v w hi hw => by
    match i with
    | 0 => simp at hi hw; subst hi; subst hw; exact h
    | 1 => simp at hi hw; subst hi; subst hw; exact k
    | 2 => simp at hi hw; subst hi; subst hw; exact l
    | n + 3 => simp at hi⟩
theorem bytes_calls {W : World} (hg : WG W ∧ GloOK (memOf W)) {v0 : Value} {b : Bool} {xs : List (List UInt8)} (s : ByteArray) (a : Int) (hv : RelD (memOf W) (.slice b (strsD xs)) v0)
    (hx : ∀ x, x ∈ xs → x.length ≤ 140737488355328) (hl : xs.length ≤ 140737488355328) :
    Calls Tryz.prog 3 #[v0, .string s, .int .i64 a] W fun e W' => e = .returned (.bool true) ∧ Below W.heap.size W W' := by
  have hrel : RelH { M := memOf W, β := fun _ => none, sv := fun _ => none, glo := hg.2 } [] W := {
    wg := hg.1
    mem := fun _ _ _ h => h
    blk := fun id b hb => by cases hb
    inj := fun i j b b' k hi => by cases hi }
  refine (calls_bare (bytes_law b xs s.data.toList a hx hl) hrel (allRel_three (.d hv) (relStr _ s) (.d (.int _ _)))).mono ?_
  rintro e w' ⟨c, g', rfl, hr, hb⟩
  rw [rel_bool hr]; exact ⟨rfl, hb⟩
end Go.Proofs
