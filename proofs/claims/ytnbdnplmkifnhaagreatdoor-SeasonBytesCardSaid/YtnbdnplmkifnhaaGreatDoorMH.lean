/- A part of the proof: an abstract heap, a verified walk over the program, and plain laws over lists. Conditions: none beyond the statement. -/
import Derived.Test.YtnbdnplmkifnhaaGreatDoorMG
import Derived.Test.YtnbdnplmkifnhaaGreatDoorTie
import Derived.Test.YtnbdnplmkifnhaaGreatDoorCards
set_option linter.unusedVariables false
set_option linter.unusedSimpArgs false
namespace Go.Proofs.YtnbdnplmkifnhaaGreatDoor
open Go Go.Bv Go.Lib Go.RowKit Go.ChangeShapes Go.WideShapes Go.ChangeAt
theorem own : ownKnob Tryz.prog.godebug = none := by kernel_rfl
theorem laidOut : laidOutB Tryz.prog = true := by kernel_rfl
theorem weights_in {l : List Nat} (h : l.all (· ≤ reachBytes) = true) {n : Nat} (hn : n ∈ l) : n ≤ 140737488355328 := by
  have h1 : n ≤ reachBytes := by simpa using List.all_eq_true.1 h n hn
  exact Nat.le_trans h1 (by decide)
theorem weightsAll_strs {H : Type} : ∀ (ss : List ByteArray) (s : ByteArray), s ∈ ss → s.data.toList.length ∈ DataW.weightsAll (H := H) Tryz.prog 9 (strs ss)
  | x :: r, s, h => by
    simp only [strs, List.map_cons, DataW.weightsAll, DataW.weights, List.mem_append]
    cases h with
    | head => exact .inl (List.mem_singleton.2 rfl)
    | tail _ h => exact .inr (weightsAll_strs r s h)

set_option maxRecDepth 100000 in
theorem files_lifted (os : Os) (started : os.Started) (H : Type) (enc : TypeId × Value → H) :
    ReturnsInHanded {} Tryz.checked os 4 .any (fun w args => (Rows.seasonFilesSpec.pre enc Tryz.prog Tryz.f4 [] false w args ∧ laidMetH Tryz.prog Rows.seasonFilesRow.laid w) ∧ sizedMet enc Tryz.prog Tryz.f4 (OpenSpec.ofChange Rows.seasonFilesSpec) false w args)
      (Rows.seasonFilesSpec.post enc Tryz.prog Tryz.f4 false true false false) := by
  refine returnsInHanded_of_calls own started (by kernel_rfl)
    (ChangeSpec.witness_shaped (enc := enc) (C := Tryz.checked) (os := os) (X := fun w _ => laidMetH Tryz.prog Rows.seasonFilesRow.laid w) false (World.laidAll Tryz.prog os Rows.seasonFilesRow.laid) #[.slice none 0 0, .string ByteArray.empty] 8 (World.laidAll_os _ _ _)
      (World.shaped_of_ZipB (by kernel_rfl) (by kernel_rfl)) (by kernel_rfl) (by kernel_rfl) (by kernel_rfl)
      (by rw [MakeChecks.laidMetH_plain _ _ _ (by kernel_rfl)]; exact laidMet_laidAll _ (by kernel_rfl) (by kernel_rfl))) ?_
  intro w tape i _ hsh _ hok hpre hholds
  obtain ⟨_, _, _, fn', hfn', _, _, _, _, hval0⟩ := hok
  obtain rfl : fn' = Tryz.f4 := Option.some.inj (hfn'.symm.trans Tryz.func4)
  obtain ⟨⟨⟨ds, gs, before, hw, hc⟩, hx⟩, hz⟩ := hpre
  have hW := DataW.Whole.of_heap (w' := w.forCall tape i) (by rfl) hw
  have hweights := hz.weights hw
  have hL : laidMetH Tryz.prog Rows.seasonFilesRow.laid (w.forCall tape i) := hx.of_heap (by rfl)
  suffices h : Calls Tryz.prog 4 i.args (w.forCall tape i) fun e W' => ∃ v, e = .returned v ∧ Rows.seasonFilesSpec.post enc Tryz.prog Tryz.f4 false true false false (w.forCall tape i) i.args v W' by
    refine h.mono fun e W' ⟨v, he, hp⟩ => ?_
    subst he
    exact ChangeSpec.post_blind hp
  generalize w.forCall tape i = W at hsh hval0 hW hL ⊢
  generalize i.args = args at hval0 hW ⊢
  generalize w.heap.size = base at hval0
  clear hz hx hw hc hholds
  have hval : ∀ (j : Nat) t v, Tryz.f4.params[j]? = some t → args[j]? = some v → Value.okWide Tryz.prog W .any base t v := hval0
  have hglo := glo_of hL hsh
  have hW' := hW
  obtain ⟨p, q, hA0, hV, rfl, _, _⟩ := hW
  have hA : DataW.TrodAll enc Tryz.prog W 0 (fun _ => true) true Tryz.f4.params.toList args.toList ds p := hA0
  have hP : Tryz.f4.params.toList ++ (OpenSpec.ofChange Rows.seasonFilesSpec).bare.plain.varTypes Tryz.prog = [22, 9] := by kernel_rfl
  rw [hP] at hweights
  rw [Tryz.params4] at hA hval
  obtain ⟨v0, v1, d0, d1, p0, p1, rfl, rfl, rfl, h0, h1⟩ := trodAll_two hA
  have h0k := h0
  obtain ⟨s, rfl, rfl, rfl, hs⟩ := Go.ChangeMaps.open_string Tryz.underlying9 (hval 1 9 v1 rfl rfl) h1
  obtain ⟨a0, len, cap, rfl⟩ := okWide_slice Tryz.underlying22 (hval 0 22 v0 rfl rfl)
  obtain ⟨fuel, hf⟩ := h0
  have hlt : ∀ x ∈ p0, x.block < W.heap.size := fun x hx => by simpa using hW'.lt x (List.mem_append_left _ (List.mem_append_left _ hx))
  obtain ⟨rfl, rfl⟩ := trodVars_none hV
  simp only [List.append_nil] at hW' hweights
  have fin : ∀ W' : World, Below W.heap.size W W' → Rows.seasonFilesSpec.post enc Tryz.prog Tryz.f4 false true false false W #[.slice a0 len cap, .string s] (.bool true) W' := fun W' hb =>
    ⟨_, _, _, [], _, [], hW', trodAll_mk1 (shut_bool Tryz.underlying4 _), trodAll_mk2 (Below.trod laidOut (by kernel_rfl) (of_decide_eq_true (by kernel_rfl)) h0k hb hlt) (Go.ChangeMaps.shut_string Tryz.underlying9 hs), rfl, hb.frame _, fun h => by cases h⟩
  have done : ∀ (b : Bool) (xs : List (List UInt8)), RelD (memOf W) (.slice b (strsD xs)) (.slice a0 len cap) → (∀ x, x ∈ xs → x.length ≤ 140737488355328) → xs.length ≤ 140737488355328 →
      Calls Tryz.prog 4 #[.slice a0 len cap, .string s] W fun e W' => ∃ v, e = .returned v ∧ Rows.seasonFilesSpec.post enc Tryz.prog Tryz.f4 false true false false W #[.slice a0 len cap, .string s] v W' := fun b xs hr hx hl =>
    (files_calls hglo s hr hx hl).mono fun e W' ⟨he, hb⟩ => ⟨_, he, fin W' hb⟩
  rcases open_strings Tryz.underlying22 Tryz.underlying9 (by kernel_rfl) hf with ⟨hcs, hx⟩ | ⟨a, len', cap', ss, hcs, _, hl, hmx, hz, hx, hcell, hsz⟩
  · simp [Value.cells] at hcs
    obtain ⟨rfl, rfl, rfl⟩ := hcs
    exact done true [] .nils (fun x h => by cases h) (Nat.zero_le _)
  · simp [Value.cells] at hcs
    obtain ⟨rfl, rfl, rfl⟩ := hcs
    simp only [Prod.mk.injEq] at hx
    obtain ⟨rfl, rfl⟩ := hx
    simp only [if_true] at hz
    refine done false ((ss.take len).map (·.data.toList)) (rel_strs hl (by omega) hcell) (fun x hx => ?_) ?_
    · obtain ⟨y, hy, rfl⟩ := List.mem_map.1 hx
      refine weights_in hweights ?_
      have := weightsAll_strs (H := H) (ss.take len) y hy
      simp only [DataW.weightsEach, DataW.weights, Tryz.underlying22, List.mem_append, List.mem_cons]
      exact .inl (.inr (.inl this))
    · have hb : Tryz.prog.bytesOf 9 = 16 := by kernel_rfl
      have : ((strs (H := H) (ss.take len)).length + (strs (H := H) (ss.drop len)).length) * Tryz.prog.bytesOf 9 ≤ 140737488355328 := weights_in hweights (by
        simp only [DataW.weightsEach, DataW.weights, Tryz.underlying22, List.mem_append, List.mem_cons]
        exact .inl (.inl (by first | trivial | rfl)))
      rw [hb] at this
      simp only [strs, List.length_map] at this ⊢
      omega

end Go.Proofs.YtnbdnplmkifnhaaGreatDoor
