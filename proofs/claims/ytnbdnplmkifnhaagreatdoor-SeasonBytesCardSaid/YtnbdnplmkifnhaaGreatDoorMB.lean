/- A part of the proof: an abstract heap, a verified walk over the program, and plain laws over lists. Conditions: none beyond the statement. -/
import Derived.Test.YtnbdnplmkifnhaaGreatDoorMA
import Derived.Laws.StructEq
import Derived.Laws.RangeAny
set_option linter.unusedVariables false
set_option linter.unusedSimpArgs false
namespace Go.Bv
variable {P : Program} {ops : Array Oper} {o : Oper} {T : VS}

theorem exec_append {ρc : Operand → Value} {o : Oper} {s x : Operand} {ts : Array TypeId} {w w' : World} {c : Value} (ho : o.op = .call { callee := .builtin .append, args := #[s, x], argTypes := ts })
    (h : (Builtin.append_ ts o.type #[ρc s, ρc x]).run P w = .ok c w') : (execOp ρc o).run P w = .ok (.value c) w' := by
  unfold execOp
  simp only [ho, resolve, invoke, builtin, Sem.run_bind, Sem.run_pure, Result.andThen_ok, List.map_toArray, List.map_cons, List.map_nil, h]

theorem get_two {α : Type} {a b c : List α} {k : Nat} : (a ++ b ++ c)[k]? = if k < a.length then a[k]? else if k < a.length + b.length then b[k - a.length]? else c[k - (a.length + b.length)]? := by
  by_cases h1 : k < a.length
  · rw [if_pos h1, List.append_assoc, List.getElem?_append_left h1]
  · rw [if_neg h1]
    by_cases h2 : k < a.length + b.length
    · rw [if_pos h2, List.append_assoc, List.getElem?_append_right (by omega), List.getElem?_append_left (by omega)]
    · rw [if_neg h2, List.append_assoc, List.getElem?_append_right (by omega), List.getElem?_append_right (by omega)]
      congr 1; omega

theorem two_rel {M : Nat → Nat → Option Value} {sz : Nat} {es1 es2 : List (List D)} {olds news rest : List Value} (hl1 : ∀ e, e ∈ es1 → e.length = sz) (hl2 : ∀ e, e ∈ es2 → e.length = sz) (ho : olds.length = es1.length * sz) (hn : news.length = es2.length * sz)
    (h1 : ∀ (i j : Nat) (e : List D) (x : D) (u : Value), es1[i]? = some e → e[j]? = some x → olds[i * sz + j]? = some u → RelD M x u)
    (h2 : ∀ (i j : Nat) (e : List D) (x : D) (u : Value), es2[i]? = some e → e[j]? = some x → news[i * sz + j]? = some u → RelD M x u)
    (i j : Nat) (e : List D) (x : D) (c : Value) (hi : (es1 ++ es2)[i]? = some e) (hj : e[j]? = some x) (hc : (olds ++ news ++ rest)[i * sz + j]? = some c) : RelD M x c := by
  have hjl := (List.getElem?_eq_some_iff.1 hj).1
  rw [get_two] at hc
  by_cases hlt : i < es1.length
  · rw [List.getElem?_append_left hlt] at hi
    rw [hl1 e (List.mem_of_getElem? hi)] at hjl
    have hmul : (i + 1) * sz ≤ es1.length * sz := Nat.mul_le_mul_right _ hlt
    rw [Nat.succ_mul] at hmul
    rw [if_pos (by omega)] at hc
    exact h1 i j e x c hi hj hc
  · rw [List.getElem?_append_right (by omega)] at hi
    have hil := (List.getElem?_eq_some_iff.1 hi).1
    rw [hl2 e (List.mem_of_getElem? hi)] at hjl
    have hmul : (i - es1.length + 1) * sz ≤ es2.length * sz := Nat.mul_le_mul_right _ hil
    rw [Nat.succ_mul, Nat.sub_mul] at hmul
    have hge : es1.length * sz ≤ i * sz := Nat.mul_le_mul_right _ (by omega)
    rw [if_neg (by omega), if_pos (by omega)] at hc
    refine h2 (i - es1.length) j e x c hi hj ?_
    rw [← hc]; congr 1; rw [Nat.sub_mul]; omega

theorem Inv.drew {E : Ent} {g : Gh} {s : VS} {a : Act} {w : World} (h : Inv E g s a w) : Inv E g s a w.drew := h.world rfl rfl rfl rfl

theorem Inv.newRow {E : Ent} {g : Gh} {s : VS} {a : Act} {w : World} (h : Inv E g s a w) {id : Nat} (hf : s.fresh id) (hna : E.na ≤ s.nx) {t : TypeId} {sz fz cap : Nat} {es1 es2 : List (List D)} {olds news rest : List Value} {arr : Array Value}
    (hl1 : ∀ e, e ∈ es1 → e.length = sz) (hl2 : ∀ e, e ∈ es2 → e.length = sz) (ho : olds.length = es1.length * sz) (hn : news.length = es2.length * sz)
    (h1 : ∀ (i j : Nat) (e : List D) (x : D) (u : Value), es1[i]? = some e → e[j]? = some x → olds[i * sz + j]? = some u → RelD g.M x u)
    (h2 : ∀ (i j : Nat) (e : List D) (x : D) (u : Value), es2[i]? = some e → e[j]? = some x → news[i * sz + j]? = some u → RelD g.M x u)
    (harr : arr.toList = olds ++ news ++ rest) (hsize : arr.size = cap * sz) (hcap : es1.length + es2.length ≤ cap) (hfz : fz ≤ es1.length + es2.length) :
    Inv E (g.bind id w.heap.size (some (.slice (some ⟨w.heap.size, 0, none⟩) (es1.length + es2.length) cap))) { s with hp := (id, .row sz fz false (es1 ++ es2)) :: s.hp, us := id :: s.us } a (w.alloc (.cells arr t (0, 0))) := by
  refine h.alloc hf hna _ _ _ ⟨fun e => (by cases e), fun _ => .inr ⟨w.heap.size, arr, t, cap, Gh.bind_β _ _ _ _, ?_, heap_alloc_new _ _, hsize, ?_, ?_, ?_, fun i j e x c hi hj hc => ?_, fun o' hm => ?_⟩⟩
  · rw [Gh.bind_sv, List.length_append]
  · rw [List.length_append]; exact hcap
  · rw [List.length_append]; exact fun h => absurd hfz (Nat.not_le.2 h)
  · intro e he
    rcases List.mem_append.1 he with h | h
    · exact hl1 e h
    · exact hl2 e h
  · exact two_rel hl1 hl2 ho hn h1 h2 i j e x c hi hj (by rw [← harr]; simpa using hc)
  · obtain ⟨c, hc⟩ := Option.isSome_iff_exists.1 hm
    exact absurd (cell_lt (h.mem _ _ _ hc)) (Nat.lt_irrefl _)

structure AppTy (P : Program) (t e : TypeId) (sz bytes : Nat) : Prop where
  ht : P.underlying t = some (.slice e)
  hi : ∃ i z, P.info? e = some i ∧ i.zero = some z ∧ i.size = sz ∧ i.bytes = bytes ∧ z.cells.size = sz

def appTy (P : Program) (t : TypeId) : Option (TypeId × Nat × Nat) :=
  match P.underlying t with
  | some (.slice e) => match P.info? e with
    | some i => match i.zero with
      | some z => if z.cells.size = i.size ∧ i.size ≠ 0 then some (e, i.size, i.bytes) else none
      | none => none
    | none => none
  | _ => none
theorem appTy_ok {t e sz bytes : Nat} (h : appTy P t = some (e, sz, bytes)) : AppTy P t e sz bytes ∧ sz ≠ 0 := by
  unfold appTy at h
  split at h
  · rename_i e' hu
    split at h
    · rename_i i hi
      split at h
      · rename_i z hz
        split at h
        · rename_i hc
          cases h
          exact ⟨⟨hu, i, z, hi, hz, rfl, rfl, hc.1⟩, hc.2⟩
        · cases h
      · cases h
    · cases h
  · cases h

theorem q_append_none {ρ : Operand → V} {hg : Nat → Option Blk} {s x : Operand} {t e sz bytes : Nat} {es : List (List D)} {rd rd' : List Nat} (ht : appTy P t = some (e, sz, bytes)) (hs : slOf hg sz (ρ s) = some (es, rd)) (hx : slOf hg sz (ρ x) = some ([], rd')) :
    QOK P ρ hg (.call { callee := .builtin .append, args := #[s, x], argTypes := #[t, t] }) ⟨ρ s, napp rd rd', True⟩ := fun g ρc w o ho hcst hr hbl hm _ => by
  obtain ⟨⟨hu, i, z, hi, hz, h1, h2, h3⟩, hsz⟩ := appTy_ok ht
  have hsr := hr s (by simp [Op.operands, Call.operands])
  have hxr := hr x (by simp [Op.operands, Call.operands])
  obtain ⟨a, cap, hc, hle, hl, _⟩ := sl_rel hsr hs hsz (fun id hid b hb => hbl id (by rw [napp_eq]; exact List.mem_append_left _ hid) b hb) hm
  obtain ⟨a', cap', hc', hle', _, _⟩ := sl_rel hxr hx hsz (fun id hid b hb => hbl id (by rw [napp_eq]; exact List.mem_append_right _ hid) b hb) hm
  refine ⟨ρc s, exec_append ho ?_, hsr⟩
  rw [hc, hc']
  cases a with
  | none =>
    cases a' with
    | none => simp [Builtin.append_, run_underlying hu, sizeOf, typeInfo, hi, Builtin.lenOf, Builtin.firstCells, hle]
    | some a' => simp [Builtin.append_, run_underlying hu, sizeOf, typeInfo, hi, Builtin.lenOf, Builtin.firstCells, loadCells, loadCellsFrom, hle]
  | some a =>
    cases a' with
    | none => simp [Builtin.append_, run_underlying hu, sizeOf, typeInfo, hi, Builtin.lenOf, Builtin.firstCells, storeCells, hle]
    | some a' => simp [Builtin.append_, run_underlying hu, sizeOf, typeInfo, hi, Builtin.lenOf, Builtin.firstCells, loadCells, loadCellsFrom, storeCells, hle]

def fullS : V → Bool
  | .d (.slice true _) => true
  | .emp0 _ => true
  | .bsl _ _ _ len cap => len == cap
  | _ => false

theorem rd_mem {ops : Array Oper} {s T : VS} {o : Oper} {e : Eff} (ha : Agree ops s T o (.run e)) {E : Ent} {g : Gh} {a : Act} {w : World} (hi : Inv E g s a w) {rd : List Nat} (hsub : ∀ id, id ∈ rd → id ∈ e.rd) :
    ∀ id, id ∈ rd → ∀ b, hget T.hp id = some b → BlkRel g w id b := fun id hid b hb => hi.blk id b (by rw [ha.rd id (hsub id hid)]; exact hb)

theorem step_append_full {id : Nat} {s x : Operand} {t e sz bytes : Nat} {es es' : List (List D)} {rd rd' : List Nat} (ho : o.op = .call { callee := .builtin .append, args := #[s, x], argTypes := #[t, t] }) (hd : ∀ d, o.dst = some d → d < T.N)
    (ht : appTy P t = some (e, sz, bytes)) (hs : slOf (hget T.hp) sz (evalV T.tm s) = some (es, rd)) (hfull : fullS (evalV T.tm s) = true) (hx : slOf (hget T.hp) sz (evalV T.tm x) = some (es', rd')) (hne : es' ≠ [])
    (hb : (es.length + es'.length) * bytes ≤ 140737488355328) (h63 : es.length + es'.length ≤ 9223372036854775807) :
    StepOK P ops o { val := .sref id (es.length + es'.length), nw := [(id, .row sz 0 false (es ++ es'))], rd := napp rd rd' } T :=
  StepOK.of_val hd (fun c => by rw [ho]; exact fun e => by cases e) fun st ha E g a w hna hi hr => by
    obtain ⟨⟨hu, i, z, hii, hz, h1, h2, h3⟩, hsz⟩ := appTy_ok ht
    subst h1; subst h2
    have hf := ha.fresh id (by simp [It.nw, pfst])
    have hsr := hr s (by rw [ho]; simp [Op.operands, Call.operands])
    have hxr := hr x (by rw [ho]; simp [Op.operands, Call.operands])
    have hss := sl_rel (g := g) (w := w) hsr hs hsz (rd_mem ha hi (fun i h => by rw [napp_eq]; exact List.mem_append_left _ h)) hi.mem
    have hxs := sl_rel (g := g) (w := w) hxr hx hsz (rd_mem ha hi (fun i h => by rw [napp_eq]; exact List.mem_append_right _ h)) hi.mem
    obtain ⟨b, o', cap, news, hcx, hlex, hnl, hnews, hone, hl2, hn2⟩ := hxs.news hne
    have hm : 0 < es'.length := List.length_pos_iff.2 hne
    have hfin : ∀ (n : Nat) (olds : List Value) (cap' : Nat), (∀ e, e ∈ es → e.length = i.size) → olds.length = es.length * i.size → (∀ (i' j : Nat) (e : List D) (x : D) (u : Value), es[i']? = some e → e[j]? = some x → olds[i' * i.size + j]? = some u → RelD g.M x u) →
        n = es.length + es'.length → n ≤ cap' →
        Inv E (g.bind id w.heap.size (some (.slice (some ⟨w.heap.size, 0, none⟩) (es.length + es'.length) cap'))) { st with hp := (id, .row i.size 0 false (es ++ es')) :: st.hp, us := id :: st.us } a
          (w.drew.alloc (.cells (olds.toArray ++ news.toArray ++ Builtin.zeroCells z.cells (cap' - n)) e (0, 0))) := fun n olds cap' hl1 hol h1 hn hcap => by
      subst hn
      refine hi.drew.newRow hf hna (rest := (Builtin.zeroCells z.cells (cap' - (es.length + es'.length))).toList) hl1 hl2 hol hnl h1 hn2 (by simp) ?_ hcap (Nat.zero_le _)
      simp only [Array.size_append, List.size_toArray, size_zeroCells, h3, hol, hnl, ← Nat.add_mul]
      congr 1; omega
    have hrel : ∀ cap', es.length + es'.length ≤ cap' → RelV (g.bind id w.heap.size (some (.slice (some ⟨w.heap.size, 0, none⟩) (es.length + es'.length) cap'))) (.sref id (es.length + es'.length)) (.slice (some ⟨w.heap.size, 0, none⟩) (es.length + es'.length) cap') :=
      fun cap' hc => .sref (Gh.bind_sv _ _ _ _) hc (fun _ => ⟨w.heap.size, Gh.bind_β _ _ _ _, rfl⟩)
    by_cases hes : es = []
    · subst hes
      obtain ⟨ad, capS, hcs, hleS, hlS, _⟩ := hss
      have hcap0 : capS = 0 := by
        generalize hv : evalV T.tm s = v at hsr hfull hs
        rw [hcs] at hsr
        cases hsr with
        | d hd' =>
          cases hd' <;> first | (simp [fullS] at hfull; done) | skip
          · rfl
        | emp0t => rfl
        | emp0f => rfl
        | bsl hk hle had =>
          simp only [fullS, beq_iff_eq] at hfull
          exact hfull.symm
        | _ => simp [fullS] at hfull
      subst hcap0
      have hge := grownCap_ge w es'.length 0 e
      cases ad with
      | none =>
        have hrun := run_append_nil (P := P) w t o.type e i z hu hii hz ⟨b, o', none⟩ es'.length cap news hnl hnews hm (by simp at h63; omega) (by simp at hb; omega)
        have hfin' := hfin es'.length [] (grownCap w es'.length 0 e) (fun e h => by cases h) (by simp) (fun i j e x u h => by simp at h) (by simp) hge
        simp only [List.length_nil, Nat.zero_add, List.nil_append] at hfin' hrel ⊢
        refine ⟨_, _, _, exec_append ho (by rw [hcs, hcx]; exact hrun), hrel _ hge, ?_⟩
        have he : (([] : List Value).toArray ++ news.toArray ++ Builtin.zeroCells z.cells (grownCap w es'.length 0 e - es'.length)) = news.toArray ++ Builtin.zeroCells z.cells (grownCap w es'.length 0 e - es'.length) := by simp
        rw [he] at hfin'
        exact hfin'
      | some ad =>
        have hrun := run_append_grow (P := P) w t o.type e i z hu hii hz ad 0 0 [] (by simp) (fun j v h => by simp at h) ⟨b, o', none⟩ es'.length cap news hnl hnews (by omega) (by simp at h63 ⊢; omega) (by
          rw [Nat.zero_add, nextslicecap_zero hm]; simp at hb; omega)
        have hfin' := hfin es'.length [] (grownCap w es'.length 0 e) (fun e h => by cases h) (by simp) (fun i j e x u h => by simp at h) (by simp) hge
        simp only [List.length_nil, Nat.zero_add, List.nil_append] at hfin' hrel hrun ⊢
        refine ⟨_, _, _, exec_append ho (by rw [hcs, hcx]; exact hrun), hrel _ hge, hfin'⟩
    · obtain ⟨b1, o1, capS, olds, hcs, hleS, hol, holds, hone1, hl1, ho2⟩ := hss.news hes
      have hcapE : capS = es.length := by
        generalize hv : evalV T.tm s = v at hsr hfull hs
        rw [hcs] at hsr
        generalize hnn : es.length = nn at hsr
        have hpos : 0 < nn := by rw [← hnn]; exact List.length_pos_iff.2 hes
        cases hsr with
        | d hd' =>
          cases hd' <;> first | (simp [fullS] at hfull; done) | (exact absurd hpos (Nat.lt_irrefl 0))
        | emp0f => exact absurd hpos (Nat.lt_irrefl 0)
        | bsl hk hle had =>
          simp only [fullS, beq_iff_eq] at hfull
          exact hfull.symm
        | _ => simp [fullS] at hfull
      subst hcapE
      have hge := grownCap_ge w (es.length + es'.length) es.length e
      have hrun := run_append_grow (P := P) w t o.type e i z hu hii hz ⟨b1, o1, none⟩ es.length es.length olds hol holds ⟨b, o', none⟩ es'.length cap news hnl hnews (by omega) (by omega) (growslice_fits (by omega) hb)
      exact ⟨_, _, _, exec_append ho (by rw [hcs, hcx]; exact hrun), hrel _ hge, hfin _ olds _ hl1 hol ho2 rfl hge⟩
end Go.Bv

namespace Go.Bv
variable {P : Program} {ops : Array Oper} {o : Oper} {T : VS}

def rowS (sz : Nat) : V → Option (Nat × Nat)
  | .sref id n => some (id, n)
  | .ssub id sz' off len => if off = 0 ∧ sz' = sz then some (id, len) else none
  | _ => none

theorem rowS_rel {g : Gh} {v : V} {c : Value} {sz id n : Nat} (h : RelV g v c) (hv : rowS sz v = some (id, n)) :
    ∃ a m cap, g.sv id = some (.slice a m cap) ∧ m ≤ cap ∧ n ≤ m ∧ (0 < m → ∃ k, g.β id = some k ∧ a = some ⟨k, 0, none⟩) ∧ ∃ a', c = .slice a' n cap ∧ (a = none → a' = none) ∧ (∀ k, a = some ⟨k, 0, none⟩ → a' = some ⟨k, 0, none⟩) ∧ (a'.isSome = a.isSome) := by
  cases v with
  | sref id' n' =>
    simp only [rowS, Option.some.injEq, Prod.mk.injEq] at hv
    obtain ⟨rfl, rfl⟩ := hv
    cases h with
    | @sref _ _ cap a hsv hle h0 => exact ⟨a, _, cap, hsv, hle, Nat.le_refl _, h0, a, rfl, fun h => h, fun k h => h, rfl⟩
  | ssub id' sz' off len =>
    simp only [rowS] at hv
    split at hv
    · rename_i hc
      obtain ⟨rfl, rfl⟩ := hc
      cases hv
      cases h with
      | @ssub _ _ _ _ n0 cap a a' hsv hle h0 h1 h2 h3 =>
        refine ⟨a, n0, cap, hsv, hle, by omega, h0, a', rfl, h2, fun k hk => ?_, ?_⟩
        · obtain ⟨ad, h4, h5⟩ := h3 _ hk
          rw [h4, h5 (.inl rfl)]; simp [Addr.add]
        · cases a with
          | none => rw [h2 rfl]
          | some a0 => obtain ⟨ad, h4, _⟩ := h3 _ rfl; rw [h4]; rfl
    · cases hv
  | _ => simp [rowS] at hv

theorem run_room {w : World} (t ty e ty' : TypeId) (i : TypeInfo) (ht : P.underlying t = some (.slice e)) (hi : P.info? e = some i)
    (k sLen sCap : Nat) (cur : Array Value) (hg : w.heap[k]? = some (.cells cur ty' (0, 0)))
    (a : Addr) (m c : Nat) (news : List Value) (hl : news.length = m * i.size) (hnews : ∀ j u, news[j]? = some u → w.cell? (a.add j) = some u) (h1 : ∀ u ∈ news, u.oneCell' = true)
    (hroom : sLen + m ≤ sCap) (hfit : sLen * i.size + news.length ≤ cur.size) :
    (Builtin.append_ #[t, t] ty #[.slice (some ⟨k, 0, none⟩) sLen sCap, .slice (some a) m c]).run P w =
      .ok (.slice (some ⟨k, 0, none⟩) (sLen + m) sCap) (w.setRow k (cur.toList.take (sLen * i.size) ++ news ++ cur.toList.drop (sLen * i.size + news.length)).toArray) := by
  have hf := run_firstCells_some (P := P) w i.size m a m c news hl hnews
  have hst := run_storeCells_at P k (sLen * i.size) ty' news 0 cur w hg (by simpa using hfit) h1
  simp only [Nat.add_zero] at hst
  simp [Builtin.append_, run_underlying ht, sizeOf, typeInfo, hi, Builtin.lenOf, hroom, hf, Addr.add_lit, hst]

theorem step_append_row {id old n : Nat} {s x : Operand} {t e sz bytes fz : Nat} {nil : Bool} {es es' : List (List D)} {rd' : List Nat} (ho : o.op = .call { callee := .builtin .append, args := #[s, x], argTypes := #[t, t] }) (hd : ∀ d, o.dst = some d → d < T.N)
    (ht : appTy P t = some (e, sz, bytes)) (hs : rowS sz (evalV T.tm s) = some (old, n)) (hrow : hget T.hp old = some (.row sz fz nil es)) (hn : n ≤ es.length) (hfz : fz ≤ n)
    (hx : slOf (hget T.hp) sz (evalV T.tm x) = some (es', rd')) (hne : es' ≠ []) (hb : (n + es'.length) * bytes ≤ 140737488355328) (h63 : n + es'.length ≤ 9223372036854775807) :
    StepOK P ops o { val := .sref id (n + es'.length), wr := [(old, .dead)], nw := [(id, .row sz fz false (es.take n ++ es'))], rd := old :: rd' } T :=
  StepOK.of_val hd (fun c => by rw [ho]; exact fun e => by cases e) fun st ha E g a w hna hi hr => by
    obtain ⟨⟨hu, i, z, hii, hz, h1, h2, h3⟩, hsz⟩ := appTy_ok ht
    subst h1; subst h2
    have hf := ha.fresh id (by simp [It.nw, pfst])
    have hsr := hr s (by rw [ho]; simp [Op.operands, Call.operands])
    have hxr := hr x (by rw [ho]; simp [Op.operands, Call.operands])
    have hxs := sl_rel (g := g) (w := w) hxr hx hsz (rd_mem ha hi (fun i h => by simp [h])) hi.mem
    have hrow' : hget st.hp old = some (.row i.size fz nil es) := by rw [ha.rd old (by simp [It.rd])]; exact hrow
    have hblk := hi.blk old _ hrow'
    obtain ⟨b, o', cap, news, hcx, hlex, hnl, hnews, hone, hl2, hn2⟩ := hxs.news hne
    have hm : 0 < es'.length := List.length_pos_iff.2 hne
    obtain ⟨a0, m, capS, hsv, hmc, hnm, h0, a1, hcs, hnone, hsome, hiso⟩ := rowS_rel hsr hs
    have htl : (es.take n).length = n := by simp; omega
    have hdead := hi.dead old
    have hnewrel : ∀ cap', n + es'.length ≤ cap' → RelV (g.bind id w.heap.size (some (.slice (some ⟨w.heap.size, 0, none⟩) (n + es'.length) cap'))) (.sref id (n + es'.length)) (.slice (some ⟨w.heap.size, 0, none⟩) (n + es'.length) cap') :=
      fun cap' hc => .sref (Gh.bind_sv _ _ _ _) hc (fun _ => ⟨w.heap.size, Gh.bind_β _ _ _ _, rfl⟩)
    have hfin : ∀ (olds : List Value) (cap' : Nat), (∀ e, e ∈ es.take n → e.length = i.size) → olds.length = n * i.size → (∀ (i' j : Nat) (e : List D) (x : D) (u : Value), (es.take n)[i']? = some e → e[j]? = some x → olds[i' * i.size + j]? = some u → RelD g.M x u) →
        n + es'.length ≤ cap' →
        Inv E (g.bind id w.heap.size (some (.slice (some ⟨w.heap.size, 0, none⟩) (n + es'.length) cap'))) { st with hp := (id, .row i.size fz false (es.take n ++ es')) :: hset st.hp old .dead, us := id :: st.us } a
          (w.drew.alloc (.cells (olds.toArray ++ news.toArray ++ Builtin.zeroCells z.cells (cap' - (n + es'.length))) e (0, 0))) := fun olds cap' hl1 hol h1 hcap => by
      have := hdead.drew.newRow (id := id) (t := e) (fz := fz) (cap := cap') (arr := olds.toArray ++ news.toArray ++ Builtin.zeroCells z.cells (cap' - (n + es'.length))) (rest := (Builtin.zeroCells z.cells (cap' - (n + es'.length))).toList) hf hna hl1 hl2 (by rw [htl]; exact hol) hnl h1 hn2 (by simp) (by
        simp only [Array.size_append, List.size_toArray, size_zeroCells, h3, hol, hnl, ← Nat.add_mul]
        congr 1; omega) (by rw [htl]; exact hcap) (by omega)
      rw [htl] at this
      exact this
    have hempty : n = 0 → a1 = none ∨ (∃ ad, a1 = some ad) → capS = 0 → ∃ c w' g', (execOp a.eval o).run P w = .ok (.value c) w' ∧ RelV g' (.sref id (n + es'.length)) c ∧ Inv E g' { st with hp := (id, .row i.size fz false (es.take n ++ es')) :: hset st.hp old .dead, us := id :: st.us } a w' := by
      intro hn0 hor hc0
      subst hn0; subst hc0
      have hge := grownCap_ge w es'.length 0 e
      have hfin' := hfin [] (grownCap w es'.length 0 e) (fun e h => by simp at h) (by simp) (fun i j e x u h => by simp at h) (by simpa using hge)
      have hnr := hnewrel (grownCap w es'.length 0 e) (by simpa using hge)
      rcases hor with rfl | ⟨ad, rfl⟩
      · have hrun := run_append_nil (P := P) w t o.type e i z hu hii hz ⟨b, o', none⟩ es'.length cap news hnl hnews hm (by simp at h63; omega) (by simp at hb; omega)
        simp only [Nat.zero_add] at hfin' hnr ⊢
        refine ⟨_, _, _, exec_append ho (by rw [hcs, hcx]; exact hrun), hnr, ?_⟩
        have he : (([] : List Value).toArray ++ news.toArray ++ Builtin.zeroCells z.cells (grownCap w es'.length 0 e - es'.length)) = news.toArray ++ Builtin.zeroCells z.cells (grownCap w es'.length 0 e - es'.length) := by simp
        rw [he] at hfin'
        exact hfin'
      · have hrun := run_append_grow (P := P) w t o.type e i z hu hii hz ad 0 0 [] (by simp) (fun j v h => by simp at h) ⟨b, o', none⟩ es'.length cap news hnl hnews (by omega) (by simp at h63 ⊢; omega) (by
          rw [Nat.zero_add, nextslicecap_zero hm]; simp at hb; omega)
        simp only [Nat.zero_add] at hfin' hnr hrun ⊢
        exact ⟨_, _, _, exec_append ho (by rw [hcs, hcx]; exact hrun), hnr, hfin'⟩
    cases nil with
    | true =>
      obtain ⟨rfl, hsv', hβ⟩ := hblk.1 rfl
      rw [hsv] at hsv'; cases hsv'
      exact hempty (by simpa using hn) (.inl (hnone rfl)) rfl
    | false =>
      rcases hblk.2 rfl with ⟨rfl, _, hβ, a2, hsv'⟩ | ⟨k, arr, ty, cap', hk, hsv', hw, hasz, hec, hfe, hl1, hrel, hM⟩
      · rw [hsv] at hsv'; cases hsv'
        refine hempty (by simpa using hn) (.inr ?_) rfl
        exact Option.isSome_iff_exists.1 (by rw [hiso]; rfl)
      · rw [hsv] at hsv'; cases hsv'
        have ha1 := hsome k rfl
        subst ha1
        have hmul : n * i.size ≤ capS * i.size := Nat.mul_le_mul_right _ (by omega)
        have hal : arr.toList.length = capS * i.size := by simpa using hasz
        have hol : (arr.toList.take (n * i.size)).length = n * i.size := by simp; omega
        have hl1' : ∀ e, e ∈ es.take n → e.length = i.size := fun e he => hl1 e (List.mem_of_mem_take he)
        have hold : ∀ (i' j : Nat) (e : List D) (x : D) (u : Value), (es.take n)[i']? = some e → e[j]? = some x → (arr.toList.take (n * i.size))[i' * i.size + j]? = some u → RelD g.M x u := fun i' j e x u hi' hj hu => by
          rw [List.getElem?_take] at hi' hu
          split at hi'
          · split at hu
            · exact hrel i' j e x u hi' hj (by simpa using hu)
            · cases hu
          · cases hi'
        by_cases hroom : n + es'.length ≤ capS
        · have hmul2 : (n + es'.length) * i.size ≤ capS * i.size := Nat.mul_le_mul_right _ hroom
          rw [Nat.add_mul] at hmul2
          have hfit : n * i.size + news.length ≤ arr.size := by omega
          have hrun := run_room (P := P) (w := w) t o.type e ty i hu hii k n capS arr hw ⟨b, o', none⟩ es'.length cap news hnl hnews hone hroom hfit
          have hset := setRow_heap w k arr (arr.toList.take (n * i.size) ++ news ++ arr.toList.drop (n * i.size + news.length)).toArray ty (0, 0) hw
          have hmod := hi.mod (w' := w.setRow k (arr.toList.take (n * i.size) ++ news ++ arr.toList.drop (n * i.size + news.length)).toArray) (b' := .dead) hrow' rfl hk (setRow_sz _ _ _) (fun j hj => setRow_ne _ _ _ _ hj) rfl rfl rfl (fun o'' c' hm' => by
            have hlt := (hM o'' (by rw [hm']; rfl)).1
            have hle : fz * i.size ≤ n * i.size := Nat.mul_le_mul_right _ hfz
            have hold' := hi.mem _ _ _ hm'
            rw [cell_cells hw] at hold'
            rw [cell_cells hset, List.getElem?_toArray, seg_get _ _ _ _ (by omega), if_neg (by omega)]
            simpa using hold') (setRow_wg hw (by rw [List.size_toArray, seg_len _ _ _ (by omega)]; simp)) trivial
          refine ⟨_, _, _, exec_append ho (by rw [hcs, hcx]; exact hrun), ?_, hmod.rename (id := id) (k := k) hf hna (.row i.size fz false (es.take n ++ es')) (some (.slice (some ⟨k, 0, none⟩) (n + es'.length) capS)) (fun i' bi hi' hh hki => ?_) (hi.fr.own k ⟨old, _, hrow', rfl, hk⟩) ?_⟩
          · exact .sref (Gh.bind_sv _ _ _ _) hroom (fun _ => ⟨k, Gh.bind_β _ _ _ _, rfl⟩)
          · rw [hget_hset] at hi'
            split at hi'
            · cases hi'; cases hh
            · rename_i hne'
              have := hi.inj i' old bi _ k hi' hrow' hh rfl hki hk
              subst this
              exact hne' ⟨rfl, by rw [hrow']; rfl⟩
          · refine ⟨fun e => (by cases e), fun _ => .inr ⟨k, _, ty, capS, Gh.bind_β _ _ _ _, by rw [Gh.bind_sv, List.length_append, htl], hset, ?_, by rw [List.length_append, htl]; exact hroom, fun hf => (by rw [List.length_append, htl] at hf; omega), fun e' he' => ?_, fun i' j e' x' c' hi' hj hc' => ?_, fun o'' ho'' => ⟨(hM o'' ho'').1, (by
              have h1 := (hM o'' ho'').1
              have h2 : fz * i.size ≤ (n + es'.length) * i.size := Nat.mul_le_mul_right _ (by omega)
              rw [List.length_append, htl]; omega)⟩⟩⟩
            · rw [List.size_toArray, seg_len _ _ _ (by omega)]; exact hal
            · rcases List.mem_append.1 he' with h | h
              · exact hl1' e' h
              · exact hl2 e' h
            · exact two_rel hl1' hl2 (by rw [htl]; exact hol) hnl hold hn2 i' j e' x' c' hi' hj (by simpa using hc')
        · have hge := grownCap_ge w (n + es'.length) capS e
          have hrun := run_append_grow (P := P) w t o.type e i z hu hii hz ⟨k, 0, none⟩ n capS (arr.toList.take (n * i.size)) hol (fun j v hj => by
            rw [List.getElem?_take] at hj
            split at hj
            · rw [Addr.add_lit, Nat.zero_add, cell_cells hw]; simpa using hj
            · cases hj) ⟨b, o', none⟩ es'.length cap news hnl hnews (by omega) (by omega) (growslice_fits (by omega) hb)
          exact ⟨_, _, _, exec_append ho (by rw [hcs, hcx]; exact hrun), hnewrel _ hge, hfin _ _ hl1' hol hold hge⟩
end Go.Bv

namespace Go.Bv
variable {P : Program} {ops : Array Oper} {o : Oper} {T : VS}

def callable (P : Program) (f : FuncId) : Bool := match P.funcs[f]? with | some fn => fn.body.isSome && !(fn.name == "runtime.NumGoroutine") | none => false
theorem run_call {f : FuncId} (h : callable P f = true) (args : Array Value) (w : World) : (callFunc f args).run P w = .ok (.enter f args) w := by
  unfold callable at h
  cases hf : P.funcs[f]? with
  | none => rw [hf] at h; cases h
  | some fn =>
    rw [hf] at h
    simp only [Bool.and_eq_true, Bool.not_eq_true'] at h
    obtain ⟨h1, h2⟩ := h
    obtain ⟨c, hc⟩ := Option.isSome_iff_exists.1 h1
    have h2' : ¬ fn.name = "runtime.NumGoroutine" := by simpa using h2
    simp [callFunc, hf, h2', hc]

def inR (R : List Nat) (id : Nat) : Bool := (idx R id).isSome
mutual
def okV (R : List Nat) : V → Bool
  | .ptr id _ => inR R id
  | .rptr id _ _ _ => inR R id
  | .sref id _ => inR R id
  | .ssub id _ _ _ => inR R id
  | .bsl id _ _ _ _ => inR R id
  | .mapr id => inR R id
  | .iter id => inR R id
  | .yld id => inR R id
  | .fn _ a c => okL R a && okL R c
  | .iface _ v => okV R v
  | .agg cs => okL R cs
  | .tup cs => okL R cs
  | .junk => true
  | .d _ => true
  | .eptr _ _ => true
  | .emp0 _ => true
  | .glo _ _ => true
def okL (R : List Nat) : List V → Bool
  | [] => true
  | v :: r => okV R v && okL R r
end
def okM (R : List Nat) : List (V × V) → Bool
  | [] => true
  | (k, v) :: r => okV R k && okV R v && okM R r
def okT (R : List Nat) : List (Nat × V) → Bool
  | [] => true
  | (_, v) :: r => okV R v && okT R r
def okB (R : List Nat) : Blk → Bool
  | .dead => true
  | .box _ cs => okL R cs
  | .row .. => true
  | .map _ es => okM R es
  | .loop _ _ tm _ _ _ _ _ => okT R tm
  | .siter .. => true
  | .brow .. => true

theorem r1_back {R ν : List Nat} (hν : ∀ (i id : Nat), R[i]? = some id → ν[i]? = some id) {id : Nat} (h : inR R id = true) {k : Nat → V} (hk : ∀ j, mapV (nth ν) (k j) = r1 (nth ν) j k) : mapV (nth ν) (r1 (idx R) id k) = k id := by
  unfold inR at h
  obtain ⟨j, hj⟩ := Option.isSome_iff_exists.1 h
  have h1 := hν j id (idx_some hj)
  simp only [r1, hj, hk, nth_eq, h1]
mutual
theorem mapV_back {R ν : List Nat} (hν : ∀ (i id : Nat), R[i]? = some id → ν[i]? = some id) : ∀ v : V, okV R v = true → mapV (nth ν) (mapV (idx R) v) = v
  | .ptr id off, h => by simp only [mapV]; exact r1_back hν (by simpa [okV] using h) (fun j => by simp [mapV])
  | .rptr id _ _ _, h => by simp only [mapV]; exact r1_back hν (by simpa [okV] using h) (fun j => by simp [mapV])
  | .sref id _, h => by simp only [mapV]; exact r1_back hν (by simpa [okV] using h) (fun j => by simp [mapV])
  | .ssub id _ _ _, h => by simp only [mapV]; exact r1_back hν (by simpa [okV] using h) (fun j => by simp [mapV])
  | .bsl id _ _ _ _, h => by simp only [mapV]; exact r1_back hν (by simpa [okV] using h) (fun j => by simp [mapV])
  | .mapr id, h => by simp only [mapV]; exact r1_back hν (by simpa [okV] using h) (fun j => by simp [mapV])
  | .iter id, h => by simp only [mapV]; exact r1_back hν (by simpa [okV] using h) (fun j => by simp [mapV])
  | .yld id, h => by simp only [mapV]; exact r1_back hν (by simpa [okV] using h) (fun j => by simp [mapV])
  | .fn f a c, h => by
    simp only [okV, Bool.and_eq_true] at h
    simp only [mapV, mapL_back hν a h.1, mapL_back hν c h.2]
  | .iface t v, h => by simp only [okV] at h; simp only [mapV, mapV_back hν v h]
  | .agg cs, h => by simp only [okV] at h; simp only [mapV, mapL_back hν cs h]
  | .tup cs, h => by simp only [okV] at h; simp only [mapV, mapL_back hν cs h]
  | .junk, _ => by simp [mapV]
  | .d _, _ => by simp [mapV]
  | .eptr _ _, _ => by simp [mapV]
  | .emp0 _, _ => by simp [mapV]
  | .glo _ _, _ => by simp [mapV]
theorem mapL_back {R ν : List Nat} (hν : ∀ (i id : Nat), R[i]? = some id → ν[i]? = some id) : ∀ l : List V, okL R l = true → mapL (nth ν) (mapL (idx R) l) = l
  | [], _ => by simp [mapL]
  | v :: r, h => by
    simp only [okL, Bool.and_eq_true] at h
    simp only [mapL, mapV_back hν v h.1, mapL_back hν r h.2]
end
theorem mapB_back {R ν : List Nat} (hν : ∀ (i id : Nat), R[i]? = some id → ν[i]? = some id) (b : Blk) (h : okB R b = true) : mapB (nth ν) (mapB (idx R) b) = b := by
  cases b with
  | dead => rfl
  | box fz cs => simp only [okB] at h; simp only [mapB, mapL_back hν cs h]
  | row => rfl
  | siter => rfl
  | brow => rfl
  | map c0 es =>
    simp only [okB] at h
    simp only [mapB, Blk.map.injEq, true_and]
    induction es with
    | nil => rfl
    | cons p r ih =>
      obtain ⟨k, v⟩ := p
      simp only [okM, Bool.and_eq_true] at h
      simp only [mapM, mapV_back hν k h.1.1, mapV_back hν v h.1.2, ih h.2]
  | loop st pend tm N fn params assign body =>
    simp only [okB] at h
    have : mapT (nth ν) (mapT (idx R) tm) = tm := by
      induction tm with
      | nil => rfl
      | cons p r ih =>
        obtain ⟨k, v⟩ := p
        simp only [okT, Bool.and_eq_true] at h
        simp only [mapT, mapV_back hν v h.1, ih h.2]
    simp only [mapB, this]

def rangeFrom : Nat → Nat → List Nat
  | _, 0 => []
  | b, n + 1 => b :: rangeFrom (b + 1) n
theorem rangeFrom_get : ∀ (n b i : Nat), (rangeFrom b n)[i]? = if i < n then some (b + i) else none := by
  intro n
  induction n with
  | zero => intro b i; simp [rangeFrom]
  | succ n ih =>
    intro b i
    cases i with
    | zero => simp [rangeFrom]
    | succ i => simp only [rangeFrom, List.getElem?_cons_succ, ih, Nat.add_lt_add_iff_right]; rw [show b + 1 + i = b + (i + 1) from by omega]
theorem rangeFrom_len (n b : Nat) : (rangeFrom b n).length = n := by
  induction n generalizing b with
  | zero => rfl
  | succ n ih => simp [rangeFrom, ih]

theorem rangeFrom_nodup : ∀ (n b : Nat), (rangeFrom b n).Nodup := by
  intro n
  induction n with
  | zero => intro b; exact List.nodup_nil
  | succ n ih =>
    intro b
    refine List.nodup_cons.2 ⟨fun h => ?_, ih (b + 1)⟩
    obtain ⟨i, hi⟩ := List.getElem?_of_mem h
    rw [rangeFrom_get] at hi
    split at hi
    · injection hi with hi; omega
    · cases hi

def subH (hp : List (Nat × Blk)) (R : List Nat) : List Nat → List Blk
  | [] => []
  | id :: r => mapB (idx R) (match hget hp id with | some b => b | none => .dead) :: subH hp R r
theorem subH_get (hp : List (Nat × Blk)) (R : List Nat) : ∀ (l : List Nat) (j : Nat), (subH hp R l)[j]? = (l[j]?).map fun id => mapB (idx R) ((hget hp id).getD .dead) := by
  intro l
  induction l with
  | nil => intro j; simp [subH]
  | cons id r ih =>
    intro j
    cases j with
    | zero => simp only [subH, List.getElem?_cons_zero, Option.map_some]; cases hget hp id <;> rfl
    | succ j => simp only [subH, List.getElem?_cons_succ, ih]
theorem subH_len (hp : List (Nat × Blk)) (R l : List Nat) : (subH hp R l).length = l.length := by
  induction l with
  | nil => rfl
  | cons id r ih => simp [subH, ih]

def wrs (ν : List Nat) (ch : Nat → Bool) : Nat → List Nat → List Blk → List (Nat × Blk)
  | _, [], _ => []
  | _, _ :: _, [] => []
  | j, id :: r, b :: bs => bif ch j then (id, mapB (nth ν) b) :: wrs ν ch (j + 1) r bs else wrs ν ch (j + 1) r bs
def nws (ν : List Nat) : Nat → List Blk → List (Nat × Blk)
  | _, [] => []
  | base, b :: bs => (base, mapB (nth ν) b) :: nws ν (base + 1) bs
def callEff (R : List Nat) (base : Nat) (ch : Nat → Bool) (r : V) (H' : List Blk) : Eff :=
  let ν := napp R (rangeFrom base (H'.length - R.length))
  { val := mapV (nth ν) r, wr := wrs ν ch 0 R H', nw := nws ν base (H'.drop R.length), rd := R }

theorem nws_get (ν : List Nat) : ∀ (bs : List Blk) (base id : Nat), hget (nws ν base bs) id = if base ≤ id then (bs[id - base]?).map (mapB (nth ν)) else none := by
  intro bs
  induction bs with
  | nil => intro base id; simp [nws, hget]
  | cons b bs ih =>
    intro base id
    simp only [nws, hget_cons, ih]
    by_cases h : base = id
    · subst h; simp
    · rw [if_neg h]
      by_cases h2 : base ≤ id
      · rw [if_pos (by omega), if_pos h2, show id - base = (id - (base + 1)) + 1 from by omega]; simp
      · rw [if_neg (by omega), if_neg h2]
theorem nws_fst (ν : List Nat) : ∀ (bs : List Blk) (base : Nat), pfst (nws ν base bs) = rangeFrom base bs.length := by
  intro bs
  induction bs with
  | nil => intro base; rfl
  | cons b bs ih => intro base; simp [nws, pfst, ih, rangeFrom]
theorem happ_get (nw h : List (Nat × Blk)) (i : Nat) : hget (happ nw h) i = (hget nw i).or (hget h i) := by
  induction nw with
  | nil => simp [happ, hget]
  | cons p r ih =>
    obtain ⟨k, b⟩ := p
    simp only [happ, hget_cons, ih]
    split <;> simp
theorem wrs_fst {ν : List Nat} {ch : Nat → Bool} : ∀ (R : List Nat) (bs : List Blk) (j0 id : Nat), id ∈ pfst (wrs ν ch j0 R bs) → ∃ j, R[j]? = some id ∧ ch (j0 + j) = true := by
  intro R
  induction R with
  | nil => intro bs j0 id h; simp [wrs, pfst] at h
  | cons i r ih =>
    intro bs j0 id h
    cases bs with
    | nil => simp [wrs, pfst] at h
    | cons b bs =>
      simp only [wrs] at h
      cases hc : ch j0 with
      | true =>
        rw [hc, cond_true] at h
        simp only [pfst, List.mem_cons] at h
        rcases h with rfl | h
        · exact ⟨0, rfl, by simpa using hc⟩
        · obtain ⟨j, h1, h2⟩ := ih bs (j0 + 1) id h
          exact ⟨j + 1, h1, by rw [← h2]; congr 1; omega⟩
      | false =>
        rw [hc, cond_false] at h
        obtain ⟨j, h1, h2⟩ := ih bs (j0 + 1) id h
        exact ⟨j + 1, h1, by rw [← h2]; congr 1; omega⟩
theorem hsets_wrs {ν : List Nat} {ch : Nat → Bool} : ∀ (R : List Nat) (bs : List Blk) (j0 : Nat) (h : List (Nat × Blk)), R.Nodup → ∀ (j id : Nat) (b : Blk), R[j]? = some id → bs[j]? = some b → (hget h id).isSome = true →
    hget (hsets h (wrs ν ch j0 R bs)) id = if ch (j0 + j) = true then some (mapB (nth ν) b) else hget h id := by
  intro R
  induction R with
  | nil => intro bs j0 h _ j id b hj; simp at hj
  | cons i r ih =>
    intro bs j0 h hnd j id b hj hb hs
    obtain ⟨hni, hnd'⟩ := List.nodup_cons.1 hnd
    cases bs with
    | nil => simp at hb
    | cons b0 bs =>
      cases j with
      | zero =>
        simp only [List.getElem?_cons_zero, Option.some.injEq] at hj hb
        subst hj; subst hb
        have hnot : i ∉ pfst (wrs ν ch (j0 + 1) r bs) := fun hm => by
          obtain ⟨j, h1, _⟩ := wrs_fst _ _ _ _ hm
          exact hni (List.mem_of_getElem? h1)
        simp only [wrs, Nat.add_zero]
        cases hc : ch j0 with
        | true =>
          simp only [cond_true, hsets]
          rw [hsets_other hnot, hget_hset, if_pos ⟨rfl, hs⟩]; rfl
        | false => simp only [cond_false]; rw [hsets_other hnot]; rfl
      | succ j =>
        simp only [List.getElem?_cons_succ] at hj hb
        have hne : i ≠ id := fun e => hni (e ▸ List.mem_of_getElem? hj)
        simp only [wrs]
        cases hc : ch j0 with
        | true =>
          simp only [cond_true, hsets]
          have hh : hget (hset h i (mapB (nth ν) b0)) id = hget h id := by rw [hget_hset, if_neg (fun x => hne x.1)]
          rw [ih bs (j0 + 1) _ hnd' j id b hj hb (by rw [hh]; exact hs), hh, show j0 + 1 + j = j0 + (j + 1) from by omega]
        | false =>
          simp only [cond_false]
          rw [ih bs (j0 + 1) _ hnd' j id b hj hb hs, show j0 + 1 + j = j0 + (j + 1) from by omega]

theorem callVals {g g0 : Gh} {R : List Nat} (hren : Ren (idx R) g g0) {vs : List V} {cs : Array Value} (h : AllRel g vs cs) : AllRel g0 (mapL (idx R) vs) cs := by
  refine ⟨by rw [mapL_eq]; simpa using h.1, fun i v c hv hc => ?_⟩
  rw [mapL_eq, List.getElem?_map] at hv
  obtain ⟨v0, hv0, rfl⟩ := Option.map_eq_some_iff.1 hv
  exact (h.2 i v0 c hv0 hc).ren hren
theorem AllRel.append {g : Gh} {vs vs' : List V} {cs cs' : Array Value} (h : AllRel g vs cs) (h' : AllRel g vs' cs') : AllRel g (vs ++ vs') (cs ++ cs') := by
  refine ⟨by simp [h.1, h'.1], fun i v c hv hc => ?_⟩
  by_cases hi : i < vs.length
  · rw [List.getElem?_append_left hi] at hv
    rw [Array.getElem?_append_left (by rw [h.1]; exact hi)] at hc
    exact h.2 i v c hv hc
  · rw [List.getElem?_append_right (by omega)] at hv
    rw [Array.getElem?_append_right (by rw [h.1]; omega), h.1] at hc
    exact h'.2 _ v c hv hc

theorem call_inv {R : List Nat} {base : Nat} {ch : Nat → Bool} {H0 H' : List Blk} {r : V} {s : VS} {E : Ent} {g g0 : Gh} {a : Act} {w w' : World} {c : Value}
    (hi : Inv E g s a w) (hna : E.na ≤ s.nx) (hnd : R.Nodup) (hin : ∀ id, id ∈ R → (hget s.hp id).isSome = true) (hH0 : H0 = subH s.hp R R) (hlen : H0.length ≤ H'.length)
    (hch : ∀ (j id : Nat), R[j]? = some id → ch j = false → H'[j]? = H0[j]? ∧ okB R ((hget s.hp id).getD .dead) = true)
    (hfr : ∀ i, i < H'.length - R.length → s.fresh (base + i)) (hno : ∀ i, i < H'.length - R.length → base + i ∉ R)
    (hg0 : g0 = { M := g.M, β := fun j => (R[j]?).bind g.β, sv := fun j => (R[j]?).bind g.sv, glo := g.glo }) (hends : Ends g0 H0 w r H' c w') :
    ∃ g', g.le g' ∧ RelV g' (callEff R base ch r H').val c ∧ Inv E g' (s.mem (callEff R base ch r H')) a w' := by
  obtain ⟨g1, hrv, hrh, hfrc, hdom⟩ := hends
  have hHl : H0.length = R.length := by rw [hH0, subH_len]
  have hg0M : g0.M = g.M := by rw [hg0]
  have hg0β : ∀ (j id : Nat), R[j]? = some id → g0.β j = g.β id := fun j id h => by rw [hg0]; show (R[j]?).bind g.β = _; rw [h]; rfl
  have hg0s : ∀ (j id : Nat), R[j]? = some id → g0.sv j = g.sv id := fun j id h => by rw [hg0]; show (R[j]?).bind g.sv = _; rw [h]; rfl
  generalize hk : H'.length - R.length = k at hfr hno
  let ν := R ++ rangeFrom base k
  have hν : napp R (rangeFrom base (H'.length - R.length)) = ν := by rw [napp_eq, hk]
  have hνl : ν.length = H'.length := by show (R ++ rangeFrom base k).length = _; rw [List.length_append, rangeFrom_len]; omega
  have hνR : ∀ (j id : Nat), R[j]? = some id → ν[j]? = some id := fun j id h => by
    have := (List.getElem?_eq_some_iff.1 h).1
    show (R ++ rangeFrom base k)[j]? = _
    rw [List.getElem?_append_left this]; exact h
  have hνcase : ∀ (j id : Nat), ν[j]? = some id → R[j]? = some id ∨ (R.length ≤ j ∧ j - R.length < k ∧ id = base + (j - R.length)) := fun j id h => by
    have h' : (R ++ rangeFrom base k)[j]? = some id := h
    by_cases hj : j < R.length
    · rw [List.getElem?_append_left hj] at h'; exact .inl h'
    · rw [List.getElem?_append_right (by omega), rangeFrom_get] at h'
      split at h'
      · cases h'; exact .inr ⟨by omega, by assumption, rfl⟩
      · cases h'
  have hνn : ν.Nodup := by
    refine List.nodup_append.2 ⟨hnd, rangeFrom_nodup k base, fun a ha b hb e => ?_⟩
    subst e
    obtain ⟨i, hi'⟩ := List.getElem?_of_mem hb
    rw [rangeFrom_get] at hi'
    split at hi'
    · cases hi'; exact hno i (by assumption) ha
    · cases hi'
  have hidx : ∀ (id j : Nat), idx ν id = some j → ν[j]? = some id := fun id j h => idx_some h
  let g' : Gh := { M := g1.M, β := fun id => match idx ν id with | some j => g1.β j | none => g.β id, sv := fun id => match idx ν id with | some j => g1.sv j | none => g.sv id, glo := g1.glo }
  have hβν : ∀ (j id : Nat), ν[j]? = some id → g'.β id = g1.β j ∧ g'.sv id = g1.sv j := fun j id h => by
    have := idx_nth hνn h
    exact ⟨by show (match idx ν id with | some j => g1.β j | none => g.β id) = _; rw [this], by show (match idx ν id with | some j => g1.sv j | none => g.sv id) = _; rw [this]⟩
  have hβo : ∀ id, (∀ j, ν[j]? ≠ some id) → g'.β id = g.β id ∧ g'.sv id = g.sv id := fun id h => by
    have : idx ν id = none := by
      cases hx : idx ν id with
      | none => rfl
      | some j => exact absurd (hidx _ _ hx) (h j)
    exact ⟨by show (match idx ν id with | some j => g1.β j | none => g.β id) = _; rw [this], by show (match idx ν id with | some j => g1.sv j | none => g.sv id) = _; rw [this]⟩
  have hβR : ∀ (j id : Nat), R[j]? = some id → g'.β id = g.β id ∧ g'.sv id = g.sv id := fun j id h => by
    have hj : j < H0.length := by rw [hHl]; exact (List.getElem?_eq_some_iff.1 h).1
    obtain ⟨h1, h2⟩ := hβν j id (hνR j id h)
    exact ⟨by rw [h1, hfrc.leB j hj]; exact hg0β j id h, by rw [h2, hfrc.leS j hj]; exact hg0s j id h⟩
  have hβold : ∀ id, (∀ i, i < k → id ≠ base + i) → g'.β id = g.β id ∧ g'.sv id = g.sv id := fun id h => by
    by_cases hm : ∃ j : Nat, ν[j]? = some id
    · obtain ⟨j, hj⟩ := hm
      rcases hνcase j id hj with h1 | ⟨h1, h2, h3⟩
      · exact hβR j id h1
      · exact absurd h3 (h _ h2)
    · exact hβo id (fun j hj => hm ⟨j, hj⟩)
  have hnew : ∀ i, i < k → g.β (base + i) = none ∧ g.sv (base + i) = none := fun i h => ⟨hi.toRelS.fresh_β (hfr i h), hi.toRelS.fresh_sv (hfr i h)⟩
  have hle : g.le g' := by
    refine ⟨fun b o c h => hfrc.leM b o c (by show g0.M b o = _; rw [hg0M]; exact h), fun id x h => ?_, fun id x h => ?_⟩
    · rw [(hβold id (fun i hi' e => by rw [e, (hnew i hi').1] at h; cases h)).1]; exact h
    · rw [(hβold id (fun i hi' e => by rw [e, (hnew i hi').2] at h; cases h)).2]; exact h
  have hren : Ren (nth ν) g1 g' := by
    refine ⟨fun b o c h => h, fun j id x hj h => ?_, fun j id x hj h => ?_⟩
    · rw [nth_eq] at hj; rw [(hβν j id hj).1]; exact h
    · rw [nth_eq] at hj; rw [(hβν j id hj).2]; exact h
  have hownR : ∀ k', Owned g0 (enumB 0 H0) k' → ∃ id b, id ∈ R ∧ hget s.hp id = some b ∧ b.holds = true ∧ g.β id = some k' := fun k' ⟨j, b, h1, h2, h3⟩ => by
    rw [hget_enum0, hH0, subH_get] at h1
    obtain ⟨id, hid, rfl⟩ := Option.map_eq_some_iff.1 h1
    rw [mapB_holds] at h2
    obtain ⟨b0, hb0⟩ := Option.isSome_iff_exists.1 (hin id (List.mem_of_getElem? hid))
    rw [hb0] at h2
    exact ⟨id, b0, List.mem_of_getElem? hid, hb0, h2, by rw [← hg0β j id hid]; exact h3⟩
  have hownE : ∀ k', Owned g0 (enumB 0 H0) k' → E.O k' ∨ E.w0.heap.size ≤ k' := fun k' h => by
    obtain ⟨id, b, _, h1, h2, h3⟩ := hownR k' h
    exact hi.fr.own k' ⟨id, b, h1, h2, h3⟩
  have hfp : pfst (nws ν base (H'.drop R.length)) = rangeFrom base k := by rw [nws_fst]; congr 1; simp; omega

  have hat : ∀ id b, hget (happ (nws ν base (H'.drop R.length)) (hsets s.hp (wrs ν ch 0 R H'))) id = some b → (∃ j b1, ν[j]? = some id ∧ H'[j]? = some b1 ∧ b = mapB (nth ν) b1) ∨ ((∀ j, ν[j]? ≠ some id) ∧ hget s.hp id = some b) := fun id b hb => by
    rw [happ_get, nws_get] at hb
    by_cases hm : ∃ i, i < k ∧ id = base + i
    · obtain ⟨i, hik, rfl⟩ := hm
      rw [if_pos (by omega), show base + i - base = i from by omega, List.getElem?_drop] at hb
      have hb1 : H'[R.length + i]? = some H'[R.length + i] := List.getElem?_eq_getElem (by omega)
      rw [hb1] at hb
      simp only [Option.map_some, Option.some_or, Option.some.injEq] at hb
      refine .inl ⟨R.length + i, _, ?_, hb1, hb.symm⟩
      show (R ++ rangeFrom base k)[R.length + i]? = _
      rw [List.getElem?_append_right (by omega), rangeFrom_get, if_pos (by omega)]; congr 1; omega
    · have hno' : (if base ≤ id then ((H'.drop R.length)[id - base]?).map (mapB (nth ν)) else none) = none := by
        split
        · rename_i hge
          have : (H'.drop R.length)[id - base]? = none := by
            rw [List.getElem?_drop]
            refine List.getElem?_eq_none ?_
            have : ¬ (id - base < k) := fun h => hm ⟨id - base, h, by omega⟩
            omega
          rw [this]; rfl
        · rfl
      rw [hno'] at hb
      simp only [Option.none_or] at hb
      by_cases hR : ∃ j : Nat, R[j]? = some id
      · obtain ⟨j, hj⟩ := hR
        have hjl := (List.getElem?_eq_some_iff.1 hj).1
        obtain ⟨b1, hb1⟩ : ∃ b1, H'[j]? = some b1 := ⟨_, List.getElem?_eq_getElem (by omega)⟩
        rw [hsets_wrs R H' 0 s.hp hnd j id _ hj hb1 (hin id (List.mem_of_getElem? hj)), Nat.zero_add] at hb
        refine .inl ⟨j, _, hνR j id hj, hb1, ?_⟩
        cases hc : ch j with
        | true => rw [hc, if_pos rfl] at hb; cases hb; rfl
        | false =>
          rw [hc, if_neg (by simp)] at hb
          obtain ⟨h1, h2⟩ := hch j id hj hc
          rw [hb] at h2
          rw [hb1, hH0, subH_get, hj, Option.map_some, hb] at h1
          simp only [Option.getD_some, Option.some.injEq] at h1 h2
          rw [h1]
          exact (mapB_back hνR b h2).symm
      · have hnR : id ∉ pfst (wrs ν ch 0 R H') := fun h => by
          obtain ⟨j, h1, _⟩ := wrs_fst _ _ _ _ h
          exact hR ⟨j, h1⟩
        rw [hsets_other hnR] at hb
        refine .inr ⟨fun j hj => ?_, hb⟩
        rcases hνcase j id hj with h1 | ⟨h1, h2, h3⟩
        · exact hR ⟨j, h1⟩
        · exact hm ⟨_, h2, h3⟩
  have hkeep : ∀ k', k' < w.heap.size → ¬ Owned g0 (enumB 0 H0) k' → w'.heap[k']? = w.heap[k']? := fun k' h1 h2 => hfrc.kept k' h1 h2
  have hout : ∀ id b k', hget s.hp id = some b → b.holds = true → (∀ j, ν[j]? ≠ some id) → g.β id = some k' → k' < w.heap.size ∧ ¬ Owned g0 (enumB 0 H0) k' := fun id b k' h1 h2 h3 h4 => by
    refine ⟨hi.toRelH.lt h1 h2 h4, fun hown => ?_⟩
    obtain ⟨id2, b2, h5, h6, h7, h8⟩ := hownR k' hown
    have := hi.inj id id2 b b2 k' h1 h6 h2 h7 h4 h8
    subst this
    obtain ⟨j, hj⟩ := List.getElem?_of_mem h5
    exact h3 j (hνR j _ hj)
  have hheap : (s.mem (callEff R base ch r H')).hp = happ (nws ν base (H'.drop R.length)) (hsets s.hp (wrs ν ch 0 R H')) := by
    simp only [callEff, VS.mem, hν]
  have hus : (s.mem (callEff R base ch r H')).us = rangeFrom base k ++ s.us := by
    simp only [callEff, VS.mem, hν, napp_eq, hfp]
  refine ⟨g', hle, ?_, ?_⟩
  · show RelV g' (mapV (nth (napp R (rangeFrom base (H'.length - R.length)))) r) c
    rw [hν]
    exact hrv.ren hren
  · exact {
      wg := hrh.wg
      mem := hrh.mem
      blk := fun id b hb => by
        rw [hheap] at hb
        rcases hat id b hb with ⟨j, b1, h1, h2, rfl⟩ | ⟨h1, h2⟩
        · exact (hrh.blk j b1 (by rw [hget_enum0]; exact h2)).ren hren (by rw [nth_eq]; exact h1) (fun k x _ _ e => e) (fun k _ _ o c e => e) (fun e => by rw [(hβν j id h1).1]; exact e)
        · refine (hi.blk id b h2).step hle (fun k' x hh hk' e => ?_) (fun k' hh hk' o' c' hm => ?_) (fun e => by rw [(hβo id h1).1]; exact e)
          · obtain ⟨h3, h4⟩ := hout id b k' h2 hh h1 hk'
            rw [hkeep k' h3 h4]; exact e
          · obtain ⟨h3, h4⟩ := hout id b k' h2 hh h1 hk'
            rcases hfrc.mnew k' o' c' hm with h5 | h5 | h5
            · rw [← hg0M]; exact h5
            · exact absurd h5 h4
            · exact absurd h3 (Nat.not_lt.2 h5)
      inj := fun i j bi bj k' hgi hgj hbi hbj hki hkj => by
        rw [hheap] at hgi hgj
        rcases hat i bi hgi with ⟨ji, b1, h1, h2, rfl⟩ | ⟨h1, h2⟩
        · rw [mapB_holds] at hbi
          rw [(hβν ji i h1).1] at hki
          rcases hat j bj hgj with ⟨jj, b2, h3, h4, rfl⟩ | ⟨h3, h4⟩
          · rw [mapB_holds] at hbj
            rw [(hβν jj j h3).1] at hkj
            have := hrh.inj ji jj b1 b2 k' (by rw [hget_enum0]; exact h2) (by rw [hget_enum0]; exact h4) hbi hbj hki hkj
            subst this
            rw [h1] at h3; cases h3; rfl
          · rw [(hβo j h3).1] at hkj
            obtain ⟨h5, h6⟩ := hout j bj k' h4 hbj h3 hkj
            rcases hfrc.own k' ⟨ji, b1, by rw [hget_enum0]; exact h2, hbi, hki⟩ with h7 | h7
            · exact absurd h7 h6
            · exact absurd h5 (Nat.not_lt.2 h7)
        · rw [(hβo i h1).1] at hki
          rcases hat j bj hgj with ⟨jj, b2, h3, h4, rfl⟩ | ⟨h3, h4⟩
          · rw [mapB_holds] at hbj
            rw [(hβν jj j h3).1] at hkj
            obtain ⟨h5, h6⟩ := hout i bi k' h2 hbi h1 hki
            rcases hfrc.own k' ⟨jj, b2, by rw [hget_enum0]; exact h4, hbj, hkj⟩ with h7 | h7
            · exact absurd h7 h6
            · exact absurd h5 (Nat.not_lt.2 h7)
          · rw [(hβo j h3).1] at hkj
            exact hi.inj i j bi bj k' h2 h4 hbi hbj hki hkj
      tm := fun t => (hi.tm t).mono hle
      size := hi.size
      dom := fun id hid => by
        rw [hus]
        by_cases hm : ∃ i, i < k ∧ id = base + i
        · obtain ⟨i, hik, rfl⟩ := hm
          refine .inr (List.mem_append_left _ (List.mem_of_getElem? (i := i) ?_))
          rw [rangeFrom_get, if_pos hik]
        · obtain ⟨h1, h2⟩ := hβold id (fun i hik e => hm ⟨i, hik, e⟩)
          rw [h1, h2] at hid
          exact (hi.dom id hid).imp (fun h => h) (fun h => List.mem_append_right _ h)
      fr := {
        leM := fun b o c h => hle.1 b o c (hi.fr.leM b o c h)
        leB := fun i hlt => by
          rw [(hβold i (fun i' hik e => hfr i' hik (.inl (by omega)))).1]; exact hi.fr.leB i hlt
        leS := fun i hlt => by
          rw [(hβold i (fun i' hik e => hfr i' hik (.inl (by omega)))).2]; exact hi.fr.leS i hlt
        size := Nat.le_trans hi.fr.size hfrc.size
        os := hfrc.os.trans hi.fr.os
        output := hfrc.output.trans hi.fr.output
        tape := hfrc.tape.trans hi.fr.tape
        kept := fun k' hlt hn => by
          rw [hkeep k' (by have := hi.fr.size; omega) (fun ho => ?_)]
          · exact hi.fr.kept k' hlt hn
          · rcases hownE k' ho with h | h
            · exact hn h
            · omega
        own := fun k' ⟨id, b, h1, h2, h3⟩ => by
          rw [hheap] at h1
          rcases hat id b h1 with ⟨j, b1, h4, h5, rfl⟩ | ⟨h4, h5⟩
          · rw [mapB_holds] at h2
            rw [(hβν j id h4).1] at h3
            rcases hfrc.own k' ⟨j, b1, by rw [hget_enum0]; exact h5, h2, h3⟩ with h6 | h6
            · exact hownE k' h6
            · exact .inr (Nat.le_trans hi.fr.size h6)
          · rw [(hβo id h4).1] at h3
            exact hi.fr.own k' ⟨id, b, h5, h2, h3⟩
        mnew := fun b o c hm => by
          rcases hfrc.mnew b o c hm with h | h | h
          · exact hi.fr.mnew b o c (by rw [← hg0M]; exact h)
          · rcases hownE b h with h1 | h1
            · exact .inr (.inl h1)
            · exact .inr (.inr h1)
          · exact .inr (.inr (Nat.le_trans hi.fr.size h)) }
      marks := by
        obtain ⟨ms, h1, h2, h3⟩ := hi.marks
        refine ⟨ms, h1, h2, fun r hr => ?_⟩
        obtain ⟨h4, h5⟩ := h3 r hr
        refine ⟨?_, h5⟩
        rw [hkeep r (Array.getElem?_eq_some_iff.1 h4).1 (fun ho => ?_)]
        · exact h4
        · obtain ⟨id, b, _, h6, h7, h8⟩ := hownR r ho
          obtain ⟨x, h9, h10⟩ := (hi.blk id b h6).obj h7 h8
          rw [h4] at h9; cases h9
          exact h10 _ rfl }
end Go.Bv

namespace Go.Bv
variable {P : Program} {ops : Array Oper} {o : Oper} {T : VS}

theorem subH_congr {hp hp' : List (Nat × Blk)} {R : List Nat} : ∀ (l : List Nat), (∀ id, id ∈ l → hget hp id = hget hp' id) → subH hp R l = subH hp' R l := by
  intro l
  induction l with
  | nil => intro _; rfl
  | cons id r ih =>
    intro h
    simp only [subH, h id List.mem_cons_self, ih (fun i hi => h i (List.mem_cons_of_mem _ hi))]

theorem exec_call {P : Program} {ρc : Operand → Value} {o : Oper} {c : Call} {fx : Operand} {f : FuncId} {fs cs : Array Value} {w : World} (ho : o.op = .call c) (hc : c.callee = .value fx) (hf : ρc fx = .func (.func f) fs cs) (hcb : callable P f = true) :
    (execOp ρc o).run P w = .ok (.enter f (fs ++ c.args.map ρc ++ cs)) w := by
  unfold execOp
  rw [ho]
  simp only [resolve, hc, hf, Deferred.ofValue, Sem.run_bind, Sem.run_pure, Result.andThen_ok, invoke, run_call hcb]

theorem callsIn_rF {P : Program} {ro : Option Nat} {n : Nat} {f : FuncId} {args : Array Value} {w : World} {R : Ending → World → Prop} (h : Calls P f args w R) : CallsIn (rF ro) n P f args w R :=
  (callsIn_wide (n := n)).2 h

structure CallAt (P : Program) (T : VS) (o : Oper) (f : FuncId) (vs : List V) : Prop where
  run : ∀ (g : Gh) (a : Act) (w : World), (∀ x, x ∈ o.op.operands → RelV g (evalV T.tm x) (a.eval x)) → ∃ cargs, (execOp a.eval o).run P w = .ok (.enter f cargs) w ∧ AllRel g vs cargs
  nd : ∀ c, o.op ≠ .defer c

theorem callAt {c : Call} {fx : Operand} {f : FuncId} {first cap : List V} (ho : o.op = .call c) (hc : c.callee = .value fx) (hf : evalV T.tm fx = .fn (.func f) first cap) (hcb : callable P f = true) :
    CallAt P T o f (first ++ c.args.toList.map (evalV T.tm) ++ cap) := {
  nd := fun c' => by rw [ho]; exact fun e => by cases e
  run := fun g a w hr => by
    have hop : o.op.operands = #[fx] ++ c.args ∨ ∀ x, x ∈ (#[fx] ++ c.args : Array Operand) → x ∈ o.op.operands := .inr fun x hx => by
      rw [ho]; simp only [Op.operands, Call.operands, hc]; exact hx
    have hin : ∀ x, x ∈ (#[fx] ++ c.args : Array Operand) → x ∈ o.op.operands := fun x hx => by
      rcases hop with h | h
      · rw [h]; exact hx
      · exact h x hx
    have hfr := hr fx (hin fx (by simp))
    rw [hf] at hfr
    generalize hcv : a.eval fx = cv at hfr
    cases hfr with
    | fn _ _ _ fs cs h1 h2 hff hcc =>
      refine ⟨_, exec_call ho hc hcv hcb, AllRel.append (AllRel.append ⟨h1, hff⟩ ⟨by simp, fun i v x hv hx => ?_⟩) ⟨h2, hcc⟩⟩
      rw [List.getElem?_map] at hv
      obtain ⟨z, hz, rfl⟩ := Option.map_eq_some_iff.1 hv
      rw [Array.getElem?_map] at hx
      obtain ⟨z', hz', rfl⟩ := Option.map_eq_some_iff.1 hx
      simp only [Array.getElem?_toList] at hz
      rw [hz] at hz'; cases hz'
      exact hr z (hin z (by simp [Array.mem_of_getElem? hz])) }

theorem step_call {f : FuncId} {vs : List V} {R : List Nat} {base : Nat} {ch : Nat → Bool} {r : V} {H' : List Blk} (hca : CallAt P T o f vs) (hd : ∀ d, o.dst = some d → d < T.N) (hnd : R.Nodup)
    (hin : ∀ id, id ∈ R → (hget T.hp id).isSome = true) (hsp : VSpec P f (mapL (idx R) vs) (subH T.hp R R) r H')
    (hch : ∀ (j id : Nat), R[j]? = some id → ch j = false → H'[j]? = (subH T.hp R R)[j]? ∧ okB R ((hget T.hp id).getD .dead) = true) (hno : ∀ i, i < H'.length - R.length → base + i ∉ R) :
    StepOK P ops o (callEff R base ch r H') T := by
  intro s ha ro E g a w n K Q hna hi hK
  have hev : ∀ x, x ∈ o.op.operands → RelV g (evalV T.tm x) (a.eval x) := fun x hx => by
    have h1 := hi.toRelS.eval x
    cases x with
    | tmp t =>
      have ht : t ∈ o.looksAt ops := by
        simp only [Oper.looksAt, List.mem_append, List.mem_filterMap]
        exact .inl ⟨.tmp t, by simpa using hx, rfl⟩
      simp only [evalV] at h1 ⊢
      rw [← ha.tm t ht]; exact h1
    | const v => exact h1
    | global g => exact h1
    | func f => exact h1
  obtain ⟨cargs, hrun, hall⟩ := hca.run g a w hev
  have hrd : ∀ id, id ∈ R → hget s.hp id = hget T.hp id := fun id h => ha.rd id h
  have hsub : subH s.hp R R = subH T.hp R R := subH_congr R hrd
  obtain ⟨hlen, hspec⟩ := hsp
  rw [← hsub] at hlen hspec hch
  have hnwf : pfst (callEff R base ch r H').nw = rangeFrom base (H'.length - R.length) := by
    simp only [callEff, nws_fst, List.length_drop]
  have hfr : ∀ i, i < H'.length - R.length → s.fresh (base + i) := fun i h => ha.fresh _ (by
    show base + i ∈ pfst (callEff R base ch r H').nw
    rw [hnwf]
    exact List.mem_of_getElem? (i := i) (by rw [rangeFrom_get, if_pos h]))
  let g0 : Gh := { M := g.M, β := fun j => (R[j]?).bind g.β, sv := fun j => (R[j]?).bind g.sv, glo := g.glo }
  have hren : Ren (idx R) g g0 := by
    refine ⟨fun b o c h => h, fun id j k hj h => ?_, fun id j v hj h => ?_⟩
    · show (R[j]?).bind g.β = _; rw [idx_some hj]; exact h
    · show (R[j]?).bind g.sv = _; rw [idx_some hj]; exact h
  have hrel : RelH g0 (enumB 0 (subH s.hp R R)) w := {
    wg := hi.wg
    mem := hi.mem
    blk := fun j b hb => by
      rw [hget_enum0, subH_get] at hb
      obtain ⟨id, hid, rfl⟩ := Option.map_eq_some_iff.1 hb
      cases hg : hget s.hp id with
      | none => trivial
      | some b0 => exact (hi.blk id b0 hg).ren hren (idx_nth hnd hid) (fun _ _ _ _ e => e) (fun _ _ _ _ _ e => e) (fun e => by show (R[j]?).bind g.β = _; rw [hid]; exact e)
    inj := fun j j' b b' k hj hj' hh hh' hk hk' => by
      rw [hget_enum0, subH_get] at hj hj'
      obtain ⟨id, hid, rfl⟩ := Option.map_eq_some_iff.1 hj
      obtain ⟨id', hid', rfl⟩ := Option.map_eq_some_iff.1 hj'
      rw [mapB_holds] at hh hh'
      have hk1 : g.β id = some k := by have : (R[j]?).bind g.β = some k := hk; rw [hid] at this; exact this
      have hk2 : g.β id' = some k := by have : (R[j']?).bind g.β = some k := hk'; rw [hid'] at this; exact this
      cases hg : hget s.hp id with
      | none => rw [hg] at hh; cases hh
      | some b0 =>
        cases hg' : hget s.hp id' with
        | none => rw [hg'] at hh'; cases hh'
        | some b0' =>
          rw [hg] at hh; rw [hg'] at hh'
          have := hi.inj id id' b0 b0' k hg hg' hh hh' hk1 hk2
          subst this
          have h1 := idx_nth hnd hid
          rw [idx_nth hnd hid'] at h1
          injection h1 with h1; exact h1.symm }
  have hdom : Dom g0 (subH s.hp R R).length := fun j hj => by
    rw [subH_len]
    rcases hj with h | h
    · have h' : ((R[j]?).bind g.β).isSome = true := h
      cases hR : R[j]? with
      | none => rw [hR] at h'; cases h'
      | some id => exact (List.getElem?_eq_some_iff.1 hR).1
    · have h' : ((R[j]?).bind g.sv).isSome = true := h
      cases hR : R[j]? with
      | none => rw [hR] at h'; cases h'
      | some id => exact (List.getElem?_eq_some_iff.1 hR).1
  have hcalls := hspec g0 w cargs hrel hdom (callVals hren hall)
  refine ⟨fun _ _ => trivial, ?_⟩
  rw [Oper.semAt_eq _ _ _ hca.nd, hrun, Oper.uponIn_enter]
  refine ⟨fun h => (by rw [rF_depth] at h; cases h), callsIn_rF (hcalls.mono ?_)⟩
  rintro e w' ⟨c, rfl, hends⟩
  obtain ⟨g', _, h1, h2⟩ := call_inv hi hna hnd (fun id h => by rw [hrd id h]; exact hin id h) rfl hlen (fun j id h1 h2 => by
    rw [hrd id (List.mem_of_getElem? h1)]; exact hch j id h1 h2) hfr hno rfl hends
  refine hK g' _ w' ?_
  unfold VS.app
  cases hdd : o.dst with
  | none => exact h2
  | some d => exact h2.put h1 (by have := hd d hdd; show d < s.N; rw [ha.N]; exact this)
end Go.Bv

namespace Go.Bv
variable {P : Program} {ops : Array Oper} {o : Oper} {T : VS}

def Gh.ext (g : Gh) (k n : Nat) (arr : Array Value) (h : ∀ o c, g.M k o = some c → arr[o]? = some c) : Gh :=
  { M := fun b o => if b = k ∧ o < n then arr[o]? else g.M b o, β := g.β, sv := g.sv,
    glo := by
      have hle : ∀ b o c, g.M b o = some c → (if b = k ∧ o < n then arr[o]? else g.M b o) = some c := fun b o c hm => by
        split
        · rename_i hc; obtain ⟨rfl, _⟩ := hc; exact h o c hm
        · exact hm
      refine ⟨fun m e he j x hx => ?_, fun i hi => ?_⟩
      · obtain ⟨c, h1, h2⟩ := g.glo.1 m e he j x hx
        exact ⟨c, hle _ _ _ h1, h2.mono hle⟩
      · obtain ⟨m, hm⟩ := g.glo.2 i hi
        exact ⟨m, hle _ _ _ hm⟩ }
theorem Gh.le_ext {g : Gh} {k n : Nat} {arr : Array Value} {h : ∀ o c, g.M k o = some c → arr[o]? = some c} : g.le (g.ext k n arr h) :=
  ⟨fun b o c hm => by
    show (if b = k ∧ o < n then arr[o]? else g.M b o) = some c
    split
    · rename_i hc; obtain ⟨rfl, _⟩ := hc; exact h o c hm
    · exact hm, fun _ _ h => h, fun _ _ h => h⟩

theorem Inv.frz {E : Ent} {g : Gh} {s : VS} {a : Act} {w : World} (h : Inv E g s a w) {id k n : Nat} {b b' : Blk} {arr : Array Value} {t : TypeId} (hb : hget s.hp id = some b) (hh : b.holds = true) (hk : g.β id = some k)
    (hw : w.heap[k]? = some (.cells arr t (0, 0))) (hx : ∀ o c, g.M k o = some c → arr[o]? = some c) (hb' : BlkRel (g.ext k n arr hx) w id b') :
    Inv E (g.ext k n arr hx) { s with hp := hset s.hp id b' } a w := by
  have hle : g.le (g.ext k n arr hx) := Gh.le_ext
  have hcases : ∀ i bi, hget (hset s.hp id b') i = some bi → (i = id ∧ bi = b') ∨ (i ≠ id ∧ hget s.hp i = some bi) := fun i bi hi => by
    rw [hget_hset] at hi
    split at hi
    · rename_i hc; cases hi; exact .inl ⟨hc.1.symm, rfl⟩
    · rename_i hc
      refine .inr ⟨fun e => ?_, hi⟩
      subst e; exact hc ⟨rfl, by rw [hb]; rfl⟩
  have hMo : ∀ b' o', b' ≠ k → (g.ext k n arr hx).M b' o' = g.M b' o' := fun b' o' hne => by
    show (if b' = k ∧ o' < n then arr[o']? else g.M b' o') = _
    rw [if_neg (fun e => hne e.1)]
  exact {
    wg := h.wg
    mem := fun b1 o1 c hm => by
      have hm' : (if b1 = k ∧ o1 < n then arr[o1]? else g.M b1 o1) = some c := hm
      split at hm'
      · rename_i hc; obtain ⟨rfl, _⟩ := hc; rw [cell_cells hw]; exact hm'
      · exact h.mem _ _ _ hm'
    blk := fun i bi hi => by
      rcases hcases i bi hi with ⟨rfl, rfl⟩ | ⟨hne, hi'⟩
      · exact hb'
      · refine (h.blk i bi hi').step hle (fun _ _ _ _ e => e) (fun k' hh' hk' o' c' hm => ?_) (fun e => e)
        have hkk : k' ≠ k := fun e => by subst e; exact hne (h.inj i id bi b k' hi' hb hh' hh hk' hk)
        rw [hMo k' o' hkk] at hm; exact hm
    inj := fun i j bi bj k' hi hj hbi hbj hki hkj => by
      rcases hcases i bi hi with ⟨rfl, rfl⟩ | ⟨hne, hi'⟩
      · rcases hcases j bj hj with ⟨rfl, rfl⟩ | ⟨hne', hj'⟩
        · rfl
        · exact h.inj i j b bj k' hb hj' hh hbj hki hkj
      · rcases hcases j bj hj with ⟨rfl, rfl⟩ | ⟨hne', hj'⟩
        · exact h.inj i j bi b k' hi' hb hbi hh hki hkj
        · exact h.inj i j bi bj k' hi' hj' hbi hbj hki hkj
    tm := fun t => (h.tm t).mono hle
    size := h.size
    dom := h.dom
    fr := {
      leM := fun b o c hm => hle.1 _ _ _ (h.fr.leM b o c hm)
      leB := h.fr.leB
      leS := h.fr.leS
      size := h.fr.size
      os := h.fr.os
      output := h.fr.output
      tape := h.fr.tape
      kept := h.fr.kept
      own := fun k' ⟨i, bi, hi, hbi, hki⟩ => by
        rcases hcases i bi hi with ⟨rfl, rfl⟩ | ⟨hne, hi'⟩
        · exact h.fr.own k' ⟨i, b, hb, hh, hki⟩
        · exact h.fr.own k' ⟨i, bi, hi', hbi, hki⟩
      mnew := fun b1 o1 c hm => by
        by_cases e : b1 = k
        · subst e
          exact .inr (h.fr.own b1 ⟨id, b, hb, hh, hk⟩)
        · rw [hMo b1 o1 e] at hm
          exact h.fr.mnew b1 o1 c hm }
    marks := h.marks }

theorem Inv.frzRow {E : Ent} {g : Gh} {s : VS} {a : Act} {w : World} (h : Inv E g s a w) {id sz fz : Nat} {nil : Bool} {es : List (List D)} (hb : hget s.hp id = some (.row sz fz nil es)) :
    ∃ g', g.le g' ∧ Inv E g' { s with hp := hset s.hp id (.row sz (es.length + 1) nil es) } a w := by
  have hblk := h.blk id _ hb
  have plain : (∃ g', g.le g' ∧ g' = g) → BlkRel g w id (.row sz (es.length + 1) nil es) → (∀ k, g.β id ≠ some k) → ∃ g', g.le g' ∧ Inv E g' { s with hp := hset s.hp id (.row sz (es.length + 1) nil es) } a w := fun _ hb' hno => by
    have hcases : ∀ i bi, hget (hset s.hp id (.row sz (es.length + 1) nil es)) i = some bi → (i = id ∧ bi = .row sz (es.length + 1) nil es) ∨ (i ≠ id ∧ hget s.hp i = some bi) := fun i bi hi => by
      rw [hget_hset] at hi
      split at hi
      · rename_i hc; cases hi; exact .inl ⟨hc.1.symm, rfl⟩
      · rename_i hc
        refine .inr ⟨fun e => ?_, hi⟩
        subst e; exact hc ⟨rfl, by rw [hb]; rfl⟩
    exact ⟨g, Gh.le_refl g, {
      wg := h.wg
      mem := h.mem
      blk := fun i bi hi => by
        rcases hcases i bi hi with ⟨rfl, rfl⟩ | ⟨hne, hi'⟩
        · exact hb'
        · exact h.blk i bi hi'
      inj := fun i j bi bj k' hi hj hbi hbj hki hkj => by
        rcases hcases i bi hi with ⟨rfl, rfl⟩ | ⟨hne, hi'⟩
        · exact absurd hki (hno k')
        · rcases hcases j bj hj with ⟨rfl, rfl⟩ | ⟨hne', hj'⟩
          · exact absurd hkj (hno k')
          · exact h.inj i j bi bj k' hi' hj' hbi hbj hki hkj
      tm := h.tm
      size := h.size
      dom := h.dom
      fr := { leM := h.fr.leM, leB := h.fr.leB, leS := h.fr.leS, size := h.fr.size, os := h.fr.os, output := h.fr.output, tape := h.fr.tape, kept := h.fr.kept, mnew := h.fr.mnew
              own := fun k' ⟨i, bi, hi, hbi, hki⟩ => by
                rcases hcases i bi hi with ⟨rfl, rfl⟩ | ⟨hne, hi'⟩
                · exact absurd hki (hno k')
                · exact h.fr.own k' ⟨i, bi, hi', hbi, hki⟩ }
      marks := h.marks }⟩
  cases nil with
  | true =>
    obtain ⟨h1, h2, h3⟩ := hblk.1 rfl
    exact plain ⟨g, Gh.le_refl g, rfl⟩ ⟨fun _ => ⟨h1, h2, h3⟩, fun e => (by cases e)⟩ (fun k e => by rw [h3] at e; cases e)
  | false =>
    rcases hblk.2 rfl with ⟨h1, h2, h3, h4⟩ | ⟨k, arr, t, cap, h1, h2, h3, h4, h5, h6, h7, h8, h9⟩
    · exact plain ⟨g, Gh.le_refl g, rfl⟩ ⟨fun e => (by cases e), fun _ => .inl ⟨h1, h2, h3, h4⟩⟩ (fun k e => by rw [h3] at e; cases e)
    · have hx : ∀ o c, g.M k o = some c → arr[o]? = some c := fun o c hm => by rw [← cell_cells h3]; exact h.mem _ _ _ hm
      have hmul : es.length * sz ≤ cap * sz := Nat.mul_le_mul_right _ h5
      refine ⟨_, Gh.le_ext, h.frz (n := es.length * sz) hb rfl h1 h3 hx ⟨fun e => (by cases e), fun _ => .inr ⟨k, arr, t, cap, h1, h2, h3, h4, h5, fun _ o ho => ?_, h7, fun i j e x c hi hj hc => (h8 i j e x c hi hj hc).mono (Gh.le_ext (h := hx)).1, fun o ho => ?_⟩⟩⟩
      · show (if k = k ∧ o < es.length * sz then arr[o]? else g.M k o).isSome = true
        rw [if_pos ⟨rfl, ho⟩, Array.getElem?_eq_getElem (by omega)]; rfl
      · have ho' : (if k = k ∧ o < es.length * sz then arr[o]? else g.M k o).isSome = true := ho
        have hlt : o < es.length * sz := by
          by_cases hlt : o < es.length * sz
          · exact hlt
          · rw [if_neg (fun e => hlt e.2)] at ho'; exact (h9 o ho').2
        refine ⟨?_, hlt⟩
        rw [Nat.succ_mul]; omega

def frD (hg : Nat → Option Blk) : V → Option (D × List Nat)
  | .d x => some (x, [])
  | .emp0 nil => some (.slice nil [], [])
  | .sref id n => match hg id with
    | some (.row _ fz nil es) => if es.length < fz ∧ n = es.length then some (.slice nil es, [id]) else none
    | _ => none
  | .ssub id sz' off len => match hg id with
    | some (.row sz fz nil es) => if es.length < fz ∧ sz' = sz ∧ off + len ≤ es.length then some (.slice nil ((es.drop off).take len), [id]) else none
    | _ => none
  | .bsl id sz off len _ => match hg id with
    | some (.box true cs) => if (off + len) * sz ≤ cs.length then (chunk sz len (cs.drop (off * sz))).map fun es => (.slice false es, [id]) else none
    | _ => none
  | .iface t v => match frD hg v with | some (x, rd) => some (.iface t x, rd) | none => none
  | _ => none

theorem frD_rel {g : Gh} {w : World} {hg : Nat → Option Blk} (hm : ∀ b o c, g.M b o = some c → w.cell? ⟨b, o, none⟩ = some c) {v : V} {c : Value} {x : D} {rd : List Nat} (h : RelV g v c) (hf : frD hg v = some (x, rd))
    (hbl : ∀ id, id ∈ rd → ∀ b, hg id = some b → BlkRel g w id b) : RelD g.M x c := by
  induction h generalizing x rd with
  | d hd => simp only [frD, Option.some.injEq, Prod.mk.injEq] at hf; obtain ⟨rfl, rfl⟩ := hf; exact hd
  | emp0t => simp only [frD, Option.some.injEq, Prod.mk.injEq] at hf; obtain ⟨rfl, rfl⟩ := hf; exact .nils
  | emp0f a => simp only [frD, Option.some.injEq, Prod.mk.injEq] at hf; obtain ⟨rfl, rfl⟩ := hf; exact .emp a 0
  | iface t hv ih =>
    simp only [frD] at hf
    split at hf
    · rename_i y rd' he
      cases hf
      exact .iface t (ih he hbl)
    · cases hf
  | @sref id n cap a hsv hle h0 =>
    simp only [frD] at hf
    split at hf
    · rename_i sz fz nil es hb
      split at hf
      · rename_i hc
        obtain ⟨hfz, rfl⟩ := hc
        cases hf
        have hblk := hbl id (by simp) _ hb
        cases nil with
        | true =>
          obtain ⟨rfl, h2, _⟩ := hblk.1 rfl
          rw [hsv] at h2; cases h2
          exact .nils
        | false =>
          rcases hblk.2 rfl with ⟨rfl, _, _, a', h2⟩ | ⟨k, arr, t, cap', h1, h2, h3, h4, h5, h6, h7, h8, h9⟩
          · rw [hsv] at h2; cases h2
            exact .emp a' 0
          · rw [hsv] at h2; cases h2
            refine .slice sz es k 0 cap _ rfl hle h7 (fun i j hi hj => ?_) (fun i j e x c hi hj hc => ?_)
            · refine h6 hfz _ ?_
              have hmul : (i + 1) * sz ≤ es.length * sz := Nat.mul_le_mul_right _ hi
              rw [Nat.succ_mul] at hmul; omega
            · have h10 := hm _ _ _ hc
              rw [Nat.zero_add, cell_cells h3] at h10
              exact h8 i j e x c hi hj h10
      · cases hf
    · cases hf
  | @ssub id sz' off len n cap a a' hsv hle h0 h1' h2' h3' =>
    simp only [frD] at hf
    split at hf
    · rename_i sz fz nil es hb
      split at hf
      · rename_i hc
        obtain ⟨hfz, hszz, hol⟩ := hc
        subst hszz
        cases hf
        have hblk := hbl id (by simp) _ hb
        have hlen' : ((es.drop off).take len).length = len := by simp; omega
        cases nil with
        | true =>
          obtain ⟨rfl, h2, _⟩ := hblk.1 rfl
          rw [hsv] at h2; cases h2
          have : len = 0 := by simp at hol; omega
          subst this
          rw [h2' rfl, Nat.zero_sub]
          simp only [List.take_zero]
          exact .nils
        | false =>
          rcases Nat.eq_zero_or_pos len with hl0 | hpos
          · subst hl0
            simp only [List.take_zero]
            have hsome : ∃ ad, a' = some ad := by
              cases a with
              | none =>
                rcases hblk.2 rfl with ⟨rfl, _, _, a2, h2⟩ | ⟨k, arr, t, cap', h1, h2, h3, h4, h5, h6, h7, h8, h9⟩
                · rw [hsv] at h2; cases h2
                · rw [hsv] at h2; cases h2
              | some a0 => obtain ⟨ad, h4, _⟩ := h3' _ rfl; exact ⟨ad, h4⟩
            obtain ⟨ad, rfl⟩ := hsome
            exact .emp ad _
          · rcases hblk.2 rfl with ⟨rfl, _, _, a2, h2⟩ | ⟨k, arr, t, cap', h1, h2, h3, h4, h5, h6, h7, h8, h9⟩
            · simp at hol; omega
            · rw [hsv] at h2; cases h2
              obtain ⟨ad, rfl, had⟩ := h3' _ rfl
              rw [had (.inr hpos), Addr.add_lit]
              refine .slice sz' _ k _ (cap - off) len hlen'.symm (by omega) (fun e he => h7 e (List.mem_of_mem_drop (List.mem_of_mem_take he))) (fun i j hi hj => ?_) (fun i j e x c hi hj hc => ?_)
              · rw [hlen'] at hi
                refine h6 hfz _ ?_
                have hmul : (off + i + 1) * sz' ≤ es.length * sz' := Nat.mul_le_mul_right _ (by omega)
                rw [Nat.succ_mul, Nat.add_mul] at hmul; omega
              · have hil := (List.getElem?_eq_some_iff.1 hi).1
                rw [hlen'] at hil
                rw [List.getElem?_take, if_pos hil, List.getElem?_drop] at hi
                have h10 := hm _ _ _ hc
                rw [cell_cells h3] at h10
                exact h8 (off + i) j e x c hi hj (by rw [← h10]; congr 1; rw [Nat.add_mul]; omega)
      · cases hf
    · cases hf
  | @bsl id sz off len cap k ad hk hle had =>
    simp only [frD] at hf
    split at hf
    · rename_i cs hb
      split at hf
      · rename_i hol
        obtain ⟨es, hch, he⟩ := Option.map_eq_some_iff.1 hf
        cases he
        rw [Nat.add_mul] at hol
        obtain ⟨h1, h2, h3⟩ := chunk_get _ _ _ hch (by simp; omega)
        obtain ⟨k', arr, t, hk', hw, hszq, hr, _, hfull⟩ := hbl id (by simp) _ hb
        rw [hk] at hk'; cases hk'
        rcases Nat.eq_zero_or_pos len with hl0 | hpos
        · subst hl0
          have : es = [] := List.eq_nil_of_length_eq_zero h1
          subst this
          exact .emp ad cap
        · rw [had (.inr hpos)]
          refine .slice sz es k (off * sz) cap len h1.symm hle h2 (fun i j hi hj => hfull rfl _ ?_) (fun i j e x c hi hj hc => ?_)
          · have hmul : (i + 1) * sz ≤ len * sz := Nat.mul_le_mul_right _ (by omega)
            rw [Nat.succ_mul] at hmul; omega
          · have hcs := h3 i j e x hi hj
            rw [List.getElem?_drop] at hcs
            have hcs' : cs[off * sz + i * sz + j]? = some (.d x) := by rw [← hcs]; congr 1; omega
            have h10 := hm _ _ _ hc
            rw [cell_cells hw] at h10
            exact relV_d (hr _ _ _ hcs' h10).1
      · cases hf
    · cases hf
  | _ => simp [frD] at hf
end Go.Bv

namespace Go.Bv
variable {P : Program} {ops : Array Oper} {o : Oper} {T : VS}

def frDs (hg : Nat → Option Blk) : List V → Option (List D × List Nat)
  | [] => some ([], [])
  | v :: r => match frD hg v, frDs hg r with | some (x, rd), some (xs, rd') => some (x :: xs, napp rd rd') | _, _ => none
theorem frDs_get {hg : Nat → Option Blk} : ∀ (vs : List V) (ds : List D) (rd : List Nat), frDs hg vs = some (ds, rd) → ds.length = vs.length ∧ ∀ (i : Nat) (x : D), ds[i]? = some x → ∃ v rd', vs[i]? = some v ∧ frD hg v = some (x, rd') ∧ ∀ id, id ∈ rd' → id ∈ rd := by
  intro vs
  induction vs with
  | nil => intro ds rd h; simp only [frDs, Option.some.injEq, Prod.mk.injEq] at h; obtain ⟨rfl, rfl⟩ := h; exact ⟨rfl, fun i x h => by simp at h⟩
  | cons v r ih =>
    intro ds rd h
    simp only [frDs] at h
    split at h
    · rename_i x rd1 xs rd2 h1 h2
      cases h
      obtain ⟨h3, h4⟩ := ih _ _ h2
      refine ⟨by simp [h3], fun i y hy => ?_⟩
      cases i with
      | zero =>
        simp only [List.getElem?_cons_zero, Option.some.injEq] at hy
        subst hy
        exact ⟨v, rd1, rfl, h1, fun id hid => by rw [napp_eq]; exact List.mem_append_left _ hid⟩
      | succ i =>
        obtain ⟨v', rd', h5, h6, h7⟩ := h4 i y (by simpa using hy)
        exact ⟨v', rd', by simpa using h5, h6, fun id hid => by rw [napp_eq]; exact List.mem_append_right _ (h7 id hid)⟩
    · cases h

theorem Inv.frzBox {E : Ent} {g : Gh} {s : VS} {a : Act} {w : World} (h : Inv E g s a w) {id : Nat} {cs : List V} {ds : List D} {rd : List Nat} (hb : hget s.hp id = some (.box false cs)) (hds : frDs (hget s.hp) cs = some (ds, rd)) :
    ∃ g', g.le g' ∧ Inv E g' { s with hp := hset s.hp id (.box true (ds.map .d)) } a w := by
  obtain ⟨k, arr, t, h1, h2, h3, h4, h5⟩ := h.blk id _ hb
  obtain ⟨hl, hget'⟩ := frDs_get _ _ _ hds
  have hx : ∀ o c, g.M k o = some c → arr[o]? = some c := fun o c hm => by rw [← cell_cells h2]; exact h.mem _ _ _ hm
  have hle : g.le (g.ext k arr.size arr hx) := Gh.le_ext
  refine ⟨_, hle, h.frz (n := arr.size) hb rfl h1 h2 hx ⟨k, arr, t, h1, h2, by simp [hl, h3], fun i v c hv hc => ?_, fun e => (by cases e), fun _ o ho => ?_⟩⟩
  · rw [List.getElem?_map] at hv
    obtain ⟨x, hx', rfl⟩ := Option.map_eq_some_iff.1 hv
    obtain ⟨v0, rd', h6, h7, h8⟩ := hget' i x hx'
    have h9 := h4 i v0 c h6 hc
    exact ⟨.d ((frD_rel h.mem h9.1 h7 (fun id _ b hb => h.blk id b hb)).mono hle.1), h9.2⟩
  · rw [List.length_map, hl, ← h3] at ho
    show (if k = k ∧ o < arr.size then arr[o]? else g.M k o).isSome = true
    rw [if_pos ⟨rfl, ho⟩, Array.getElem?_eq_getElem ho]; rfl

theorem hsets_app (h F F' : List (Nat × Blk)) : hsets h (happ F F') = hsets (hsets h F) F' := by
  induction F generalizing h with
  | nil => rfl
  | cons p r ih => obtain ⟨i, b⟩ := p; simp only [happ, hsets, ih]

mutual

def frzV : Nat → List (Nat × Blk) → V → Option (List (Nat × Blk) × List Nat)
  | 0, _, _ => none
  | n + 1, hp, v =>
    match v with
    | .d _ => some ([], [])
    | .emp0 _ => some ([], [])
    | .sref id _ => match hget hp id with | some (.row sz _ nil es) => some ([(id, .row sz (es.length + 1) nil es)], [id]) | _ => none
    | .ssub id _ _ _ => match hget hp id with | some (.row sz _ nil es) => some ([(id, .row sz (es.length + 1) nil es)], [id]) | _ => none
    | .bsl id _ _ _ _ => match hget hp id with
      | some (.box true _) => some ([], [id])
      | some (.box false cs) => match frzVs n hp cs with
        | some (F, rd) => match hget (hsets hp F) id with
          | some (.box false cs') => match frDs (hget (hsets hp F)) cs' with
            | some (ds, rd') => some (happ F [(id, .box true (ds.map .d))], id :: napp rd rd')
            | none => none
          | _ => none
        | none => none
      | _ => none
    | .iface _ v => frzV n hp v
    | .agg cs => frzVs n hp cs
    | _ => none
def frzVs : Nat → List (Nat × Blk) → List V → Option (List (Nat × Blk) × List Nat)
  | 0, _, _ => none
  | _ + 1, _, [] => some ([], [])
  | n + 1, hp, v :: r => match frzV n hp v with
    | some (F, rd) => match frzVs n (hsets hp F) r with
      | some (F', rd') => some (happ F F', napp rd rd')
      | none => none
    | none => none
end

def FOK (hp : List (Nat × Blk)) (F : List (Nat × Blk)) (rd : List Nat) : Prop :=
  (∀ id, id ∈ pfst F → id ∈ rd) ∧ ∀ (s : VS), (∀ id, id ∈ rd → hget s.hp id = hget hp id) → ∀ (E : Ent) (g : Gh) (a : Act) (w : World), Inv E g s a w → ∃ g', g.le g' ∧ Inv E g' { s with hp := hsets s.hp F } a w
theorem FOK.nil (hp : List (Nat × Blk)) (rd : List Nat) : FOK hp [] rd := ⟨fun id h => by simp [pfst] at h, fun s _ E g a w h => ⟨g, Gh.le_refl g, h⟩⟩
theorem FOK.app {hp F F' : List (Nat × Blk)} {rd rd' : List Nat} (h : FOK hp F rd) (h' : FOK (hsets hp F) F' rd') : FOK hp (happ F F') (napp rd rd') := by
  refine ⟨fun id hid => ?_, fun s hs E g a w hi => ?_⟩
  · rw [napp_eq]
    rw [pfst_eq, happ_eq, List.map_append, List.mem_append] at hid
    rcases hid with hid | hid
    · exact List.mem_append_left _ (h.1 id (by rw [pfst_eq]; exact hid))
    · exact List.mem_append_right _ (h'.1 id (by rw [pfst_eq]; exact hid))
  · obtain ⟨g1, h1, h2⟩ := h.2 s (fun id hid => hs id (by rw [napp_eq]; exact List.mem_append_left _ hid)) E g a w hi
    obtain ⟨g2, h3, h4⟩ := h'.2 { s with hp := hsets s.hp F } (fun id hid => hsets_at (hs id (by rw [napp_eq]; exact List.mem_append_right _ hid))) E g1 a w h2
    exact ⟨g2, Gh.le_trans h1 h3, by rw [hsets_app]; exact h4⟩
theorem FOK.more {hp F : List (Nat × Blk)} {rd rd' : List Nat} (h : FOK hp F rd) (hs : ∀ id, id ∈ rd → id ∈ rd') : FOK hp F rd' :=
  ⟨fun id hid => hs id (h.1 id hid), fun s hs' E g a w hi => h.2 s (fun id hid => hs' id (hs id hid)) E g a w hi⟩

theorem frDs_congr {hg hg' : Nat → Option Blk} : ∀ (vs : List V) (ds : List D) (rd : List Nat), frDs hg vs = some (ds, rd) → (∀ id, id ∈ rd → hg' id = hg id) → frDs hg' vs = some (ds, rd) := by
  have one : ∀ (v : V) (x : D) (rd : List Nat), frD hg v = some (x, rd) → (∀ id, id ∈ rd → hg' id = hg id) → frD hg' v = some (x, rd) := by
    intro v
    induction v using V.rec (motive_2 := fun _ => True) with
    | iface t v ih =>
      intro x rd h hs
      simp only [frD] at h ⊢
      split at h
      · rename_i y rd' he
        cases h
        rw [ih _ _ he hs]
      · cases h
    | sref id n =>
      intro x rd h hs
      simp only [frD] at h ⊢
      have key : id ∈ rd := by
        split at h
        · split at h
          · cases h; simp
          · cases h
        · cases h
      rw [hs id key]; exact h
    | ssub id sz off len =>
      intro x rd h hs
      simp only [frD] at h ⊢
      have key : id ∈ rd := by
        split at h
        · split at h
          · cases h; simp
          · cases h
        · cases h
      rw [hs id key]; exact h
    | bsl id sz off len cap =>
      intro x rd h hs
      simp only [frD] at h ⊢
      have key : id ∈ rd := by
        split at h
        · split at h
          · obtain ⟨es, _, he⟩ := Option.map_eq_some_iff.1 h
            cases he; simp
          · cases h
        · cases h
      rw [hs id key]; exact h
    | d y => intro x rd h _; simpa [frD] using h
    | emp0 b => intro x rd h _; simpa [frD] using h
    | nil => trivial
    | cons => trivial
    | _ => intro x rd h _; simp [frD] at h
  intro vs
  induction vs with
  | nil => intro ds rd h _; simpa [frDs] using h
  | cons v r ih =>
    intro ds rd h hs
    simp only [frDs] at h ⊢
    split at h
    · rename_i x rd1 xs rd2 h1 h2
      cases h
      rw [one v x rd1 h1 (fun id hid => hs id (by rw [napp_eq]; exact List.mem_append_left _ hid)), ih xs rd2 h2 (fun id hid => hs id (by rw [napp_eq]; exact List.mem_append_right _ hid))]
    · cases h

theorem FOK.row {hp : List (Nat × Blk)} {id sz fz : Nat} {nil : Bool} {es : List (List D)} (hb : hget hp id = some (.row sz fz nil es)) : FOK hp [(id, .row sz (es.length + 1) nil es)] [id] :=
  ⟨fun i h => by simpa [pfst] using h, fun s hs E g a w hi => by
    simp only [hsets]
    exact hi.frzRow (by rw [hs id (by simp)]; exact hb)⟩
theorem FOK.box {hp : List (Nat × Blk)} {id : Nat} {cs : List V} {ds : List D} {rd : List Nat} (hb : hget hp id = some (.box false cs)) (hds : frDs (hget hp) cs = some (ds, rd)) : FOK hp [(id, .box true (ds.map .d))] (id :: rd) :=
  ⟨fun i h => by simp only [pfst, List.mem_singleton] at h; simp [h], fun s hs E g a w hi => by
    simp only [hsets]
    exact hi.frzBox (by rw [hs id (by simp)]; exact hb) (frDs_congr _ _ _ hds (fun id hid => hs id (by simp [hid])))⟩

theorem frz_ok : ∀ n, (∀ (hp : List (Nat × Blk)) (v : V) (F : List (Nat × Blk)) (rd : List Nat), frzV n hp v = some (F, rd) → FOK hp F rd) ∧
    (∀ (hp : List (Nat × Blk)) (vs : List V) (F : List (Nat × Blk)) (rd : List Nat), frzVs n hp vs = some (F, rd) → FOK hp F rd) := by
  intro n
  induction n with
  | zero => exact ⟨fun hp v F rd h => by simp [frzV] at h, fun hp vs F rd h => by cases vs <;> simp [frzVs] at h⟩
  | succ n ih =>
    constructor
    · intro hp v F rd h
      cases v with
      | d x => simp only [frzV, Option.some.injEq, Prod.mk.injEq] at h; obtain ⟨rfl, rfl⟩ := h; exact .nil _ _
      | emp0 b => simp only [frzV, Option.some.injEq, Prod.mk.injEq] at h; obtain ⟨rfl, rfl⟩ := h; exact .nil _ _
      | sref id m =>
        simp only [frzV] at h
        split at h
        · rename_i sz fz nil es hb; cases h; exact .row hb
        · cases h
      | ssub id sz off len =>
        simp only [frzV] at h
        split at h
        · rename_i sz fz nil es hb; cases h; exact .row hb
        · cases h
      | bsl id sz off len cap =>
        simp only [frzV] at h
        split at h
        · cases h; exact .nil _ _
        · rename_i cs hb
          split at h
          · rename_i F1 rd1 h1
            split at h
            · rename_i cs' hb'
              split at h
              · rename_i ds rd2 h2
                cases h
                have hF1 := ih.2 _ _ _ _ h1
                have := hF1.app (FOK.box hb' h2)
                refine this.more (fun i hi => ?_)
                simp only [napp_eq, List.mem_append, List.mem_cons] at hi ⊢
                rcases hi with h | h | h
                · exact .inr (.inl h)
                · exact .inl h
                · exact .inr (.inr h)
              · cases h
            · cases h
          · cases h
        · cases h
      | iface t v => simp only [frzV] at h; exact ih.1 _ _ _ _ h
      | agg cs => simp only [frzV] at h; exact ih.2 _ _ _ _ h
      | _ => simp [frzV] at h
    · intro hp vs F rd h
      cases vs with
      | nil => simp only [frzVs, Option.some.injEq, Prod.mk.injEq] at h; obtain ⟨rfl, rfl⟩ := h; exact .nil _ _
      | cons v r =>
        simp only [frzVs] at h
        split at h
        · rename_i F1 rd1 h1
          split at h
          · rename_i F2 rd2 h2
            cases h
            exact (ih.1 _ _ _ _ h1).app (ih.2 _ _ _ _ h2)
          · cases h
        · cases h

theorem StepOK.frz {F : List (Nat × Blk)} {rd : List Nat} {e : Eff} (hF : FOK T.hp F rd) (h : StepOK P ops o e { T with hp := hsets T.hp F }) :
    StepOK P ops o { val := e.val, wr := happ F e.wr, nw := e.nw, rd := napp rd e.rd } T := by
  intro s ha ro E g a w n K Q hna hi hK
  obtain ⟨g1, h1, h2⟩ := hF.2 s (fun id hid => ha.rd id (by simp only [It.rd, napp_eq]; exact List.mem_append_left _ hid)) E g a w hi
  refine h { s with hp := hsets s.hp F } ⟨ha.tm, fun id hid => hsets_at (ha.rd id (by simp only [It.rd, napp_eq]; exact List.mem_append_right _ hid)), fun id hid => ha.fresh id hid, ha.N, ha.nx⟩ ro E g1 a w n K Q hna h2 (fun g' a' w' hi' => hK g' a' w' ?_)
  have : s.app o { val := e.val, wr := happ F e.wr, nw := e.nw, rd := napp rd e.rd } = { s with hp := hsets s.hp F }.app o e := by
    simp only [VS.app, VS.mem, hsets_app]
  rw [this]; exact hi'
theorem step_store_row {t : TypeId} {x y : Operand} {id sz i off fz : Nat} {nil : Bool} {es : List (List D)} {e : List D} {vs : List V} {ds : List D} {rd2 : List Nat} (ho : o.op = .store t x y) (hd : ∀ d, o.dst = some d → d < T.N) (hx : evalV T.tm x = .rptr id sz i off)
    (hb : hget T.hp id = some (.row sz fz nil es)) (he : es[i]? = some e) (hfz : fz ≤ i) (hv : cellsV (evalV T.tm y) = some vs) (hds : frDs (hget T.hp) vs = some (ds, rd2)) (hz : szOf P t = vs.length) (hn : vs.length ≠ 0) (hl : off + vs.length ≤ sz) :
    StepOK P ops o { val := .junk, wr := [(id, .row sz fz nil (setE es i (setD e off ds)))], rd := id :: rd2 } T :=
  StepOK.of_skip hd (fun c => by rw [ho]; exact fun e => by cases e) rfl fun s ha E g a w hna hi hr => by
    have hxr := hr x (by rw [ho]; simp [Op.operands])
    have hyr := cells_rel (hr y (by rw [ho]; simp [Op.operands])) hv
    rw [hx] at hxr
    have hb' : hget s.hp id = some (.row sz fz nil es) := by rw [ha.rd id (by simp [It.rd])]; exact hb
    obtain ⟨hdl, hdg⟩ := frDs_get _ _ _ hds
    generalize hc : a.eval x = c at hxr
    cases hxr with
    | @rptr _ _ _ _ k hk =>
      have hblk := hi.blk id _ hb'
      have hil := (List.getElem?_eq_some_iff.1 he).1
      cases nil with
      | true => have := (hblk.1 rfl).2.2; rw [hk] at this; cases this
      | false =>
        rcases hblk.2 rfl with ⟨_, _, h3, _⟩ | ⟨k', arr, ty, cap, h1, h2, h3, h4, h5, h6, h7, h8, h9⟩
        · rw [hk] at h3; cases h3
        · rw [hk] at h1; cases h1
          have hcl : (a.eval y).cells.toList.length = vs.length := by simpa using hyr.1
          have hone : ∀ v ∈ (a.eval y).cells.toList, v.oneCell' = true := fun v hv' => by
            obtain ⟨j, hj⟩ := List.getElem?_of_mem hv'
            have hlt := (List.getElem?_eq_some_iff.1 hj).1
            have hvs : vs[j]? = some vs[j] := List.getElem?_eq_getElem (by omega)
            exact (hyr.2 j _ v hvs (by simpa using hj)).2
          have hmul : (i + 1) * sz ≤ cap * sz := Nat.mul_le_mul_right _ (by omega)
          rw [Nat.succ_mul] at hmul
          have hst := run_storeCells_at P k (i * sz + off) ty (a.eval y).cells.toList 0 arr w h3 (by rw [hcl]; simp only [Nat.add_zero]; omega) hone
          simp only [Nat.add_zero] at hst
          have hal : arr.toList.length = cap * sz := by simpa using h4
          have hesz : e.length = sz := h7 e (List.mem_of_getElem? he)
          refine ⟨_, g, ?_, hi.mod (w' := w.setRow k (arr.toList.take (i * sz + off) ++ (a.eval y).cells.toList ++ arr.toList.drop (i * sz + off + (a.eval y).cells.toList.length)).toArray) hb' rfl hk (setRow_sz _ _ _) (fun j hj => setRow_ne _ _ _ _ hj) rfl rfl rfl (fun o' c' hm => ?_) (setRow_wg h3 (by rw [List.size_toArray, seg_len _ _ _ (by omega)]; simp)) ?_⟩
          · unfold execOp; rw [ho]
            have hsz := run_sizeOf' (P := P) (w := w) hz hn
            have hne : ¬ (a.eval y).cells.size ≠ vs.length := by simpa using hyr.1
            simp only [Instr.storeAt, Instr.sureAddr, hc, storeVar, Sem.run_bind, Sem.run_pure, Result.andThen_ok, hsz, if_neg hne, hst]
          · have hlt := (h9 o' (by rw [hm]; rfl)).1
            have hle : fz * sz ≤ i * sz := Nat.mul_le_mul_right _ hfz
            have hold := hi.mem _ _ _ hm
            rw [cell_cells h3] at hold
            rw [cell_cells (setRow_heap w k arr _ ty _ h3), List.getElem?_toArray, seg_get _ _ _ _ (by omega), if_neg (by omega)]
            simpa using hold
          · refine ⟨fun e => (by cases e), fun _ => .inr ⟨k, _, ty, cap, hk, by rw [setE_len]; exact h2, setRow_heap w k arr _ ty _ h3, ?_, by rw [setE_len]; exact h5, fun hf => (by rw [setE_len] at hf; omega), fun e' he' => ?_, fun i' j e' x' c' hi' hj' hc' => ?_, fun o' ho' => (by rw [setE_len]; exact h9 o' ho')⟩⟩
            · rw [List.size_toArray, seg_len _ _ _ (by omega)]; exact hal
            · obtain ⟨i', hi'⟩ := List.getElem?_of_mem he'
              rw [setE_get] at hi'
              split at hi'
              · cases hi'; rw [setD_len]; exact hesz
              · exact h7 e' (List.mem_of_getElem? hi')
            · rw [setE_get] at hi'
              rw [List.getElem?_toArray, seg_get _ _ _ _ (by omega)] at hc'
              split at hi'
              · rename_i hii
                obtain ⟨rfl, _⟩ := hii
                cases hi'
                rw [setD_get] at hj'
                by_cases hin : off ≤ j ∧ j < off + ds.length ∧ j < e.length
                · rw [if_pos hin] at hj'
                  rw [if_pos (by omega)] at hc'
                  obtain ⟨v0, rd', hv0, hfr, hsub⟩ := hdg _ _ hj'
                  have hrel := (hyr.2 (j - off) _ c' hv0 (by rw [← Array.getElem?_toList, ← hc']; congr 1; omega)).1
                  exact frD_rel hi.mem hrel hfr (fun i2 hi2 b2 hb2 => hi.blk i2 b2 (by rw [ha.rd i2 (by simp [It.rd, hsub i2 hi2])]; exact hb2))
                · rw [if_neg hin] at hj'
                  have hjl := (List.getElem?_eq_some_iff.1 hj').1
                  rw [if_neg (by omega)] at hc'
                  exact h8 i' j e x' c' he hj' (by simpa using hc')
              · rename_i hii
                have hne : i' ≠ i := fun e => hii ⟨e, hil⟩
                have hi'l := (List.getElem?_eq_some_iff.1 hi').1
                have hjl : j < sz := by rw [← h7 e' (List.mem_of_getElem? hi')]; exact (List.getElem?_eq_some_iff.1 hj').1
                have hout : ¬ (i * sz + off ≤ i' * sz + j ∧ i' * sz + j < i * sz + off + (a.eval y).cells.toList.length) := fun hin => by
                  rcases Nat.lt_or_gt_of_ne hne with h | h
                  · have := Nat.mul_le_mul_right sz (show i' + 1 ≤ i from h)
                    rw [Nat.succ_mul] at this; omega
                  · have := Nat.mul_le_mul_right sz (show i + 1 ≤ i' from h)
                    rw [Nat.succ_mul] at this; omega
                rw [if_neg hout] at hc'
                exact h8 i' j e' x' c' hi' hj' (by simpa using hc')
end Go.Bv

namespace Go.Bv

def intBinE (op : BinOp) (k : IntKind) (a b : Int) : Option D :=
  match op with
  | .add => some (.int k (k.wrap (a + b)))
  | .sub => some (.int k (k.wrap (a - b)))
  | .mul => some (.int k (k.wrap (a * b)))
  | .quo => if b = 0 then none else some (.int k (k.wrap (a.tdiv b)))
  | .rem => if b = 0 then none else some (.int k (a.tmod b))
  | .and => some (.int k (bits .and k a b))
  | .or => some (.int k (bits .or k a b))
  | .xor => some (.int k (bits .xor k a b))
  | .andNot => some (.int k (bits .andNot k a b))
  | .eql => some (.bool (decide (a = b)))
  | .neq => some (.bool (!decide (a = b)))
  | .lss => some (.bool (decide (a < b)))
  | .leq => some (.bool (decide (a ≤ b)))
  | .gtr => some (.bool (decide (b < a)))
  | .geq => some (.bool (decide (b ≤ a)))
  | .shl => if 0 ≤ b then some (.int k (k.wrap (a * 2 ^ (min b.toNat k.bits)))) else none
  | .shr => if 0 ≤ b then some (.int k (a / 2 ^ (min b.toNat k.bits))) else none
def strLt : List UInt8 → List UInt8 → Bool
  | [], [] => false
  | [], _ :: _ => true
  | _ :: _, [] => false
  | x :: xs, y :: ys => if x = y then strLt xs ys else decide (x < y)
def strBinE (op : BinOp) (a b : List UInt8) : Option D :=
  match op with
  | .add => if a.length + b.length ≤ 9223372036854775807 then some (.str (a ++ b)) else none
  | .eql => some (.bool (decide (a = b)))
  | .neq => some (.bool (!decide (a = b)))
  | _ => none

abbrev QR := Option (V × List Nat)

def eqD : D → D → Option Bool
  | .bool a, .bool b => some (a == b)
  | .int k a, .int k' b => if k = k' then some (decide (a = b)) else none
  | .str a, .str b => some (decide (a = b))
  | _, _ => none
def eqDs : List V → List V → Option Bool
  | [], [] => some true
  | .d a :: r, .d b :: r' => match eqD a b, eqDs r r' with | some x, some y => some (x && y) | _, _ => none
  | _, _ => none

def binE (P : Program) (op : BinOp) (t : TypeId) (x y : Operand) (hg : Nat → Option Blk) (a b : V) : QR :=
  match a, b with
  | .d (.int k m), .d (.int k' n) =>
    match op with
    | .shl | .shr => (intBinE op k m n).map fun d => (.d d, [])
    | _ => if k = k' then (intBinE op k m n).map fun d => (.d d, []) else none
  | .d (.str m), .d (.str n) => (strBinE op m n).map fun d => (.d d, [])
  | .d (.bool m), .d (.bool n) =>
    match P.underlying t, op with
    | some .bool, .eql => some (.d (.bool (m == n)), [])
    | some .bool, .neq => some (.d (.bool (!(m == n))), [])
    | _, _ => none
  | .sref id _, _ =>
    match y, nilTy P t, hg id, op with
    | .const (.slice none 0 0), some 0, some (.row _ _ nil _), .eql => some (.d (.bool nil), [id])
    | .const (.slice none 0 0), some 0, some (.row _ _ nil _), .neq => some (.d (.bool !nil), [id])
    | _, _, _, _ => none
  | a, _ =>
    match y, nilTy P t with
    | .const z, some k =>
      if nilLit z = some k then
        match nilOf a with
        | some (k', b) => if k' = k then
            match op with
            | .eql => some (.d (.bool b), [])
            | .neq => some (.d (.bool !b), [])
            | _ => none
          else none
        | none => none
      else none
    | _, _ => none

def bndE (ρ : Operand → V) (x : Option Operand) (d : Int) : Option Int := bndV ρ x d

def qE (P : Program) (ρ : Operand → V) (hg : Nat → Option Blk) : Op → QR
  | .move x => some (ρ x, [])
  | .assign x => some (ρ x, [])
  | .pick c x y => match ρ c with | .d (.bool b) => some (cond b (ρ x) (ρ y), []) | _ => none
  | .extract x i => match ρ x with | .tup vs => (getV vs i).map fun v => (v, []) | _ => none
  | .makeFunc f a c => some (.fn f (a.toList.map ρ) (c.toList.map ρ), [])
  | .makeInterface t x => match isIfc P t with | some false => some (mkIface t (ρ x), []) | _ => none
  | .nilCheck x => if isPtr (ρ x) = true then some (ρ x, []) else match ρ x with | .fn (.func _) _ _ => some (ρ x, []) | _ => none
  | .load t x =>
    match aggOf P t with
    | none => none
    | some ag =>
      match ρ x with
      | .ptr id off => match hg id with | some (.box _ cs) => (loadC ag (szOf P t) cs off).map fun v => (v, [id]) | _ => none
      | .eptr e off => (loadD ag (szOf P t) e off).map fun v => (v, [])
      | .rptr id sz i off => match hg id with | some (.row sz' _ _ es) => if sz' = sz ∧ i < es.length then (loadD ag (szOf P t) (es.getD i []) off).map fun v => (v, [id]) else none | _ => none
      | .glo m off => match gtab m with | some e => (loadD ag (szOf P t) e off).map fun v => (v, []) | none => none
      | _ => none
  | .fieldAddr s x f => match fieldOf P s f with | some (fo, ft) => if szOf P ft ≠ 0 then (addOff (ρ x) fo).map fun v => (v, []) else none | none => none
  | .field s x f => match fieldOf P s f with
    | some (fo, ft) => match aggOf P ft, ρ x with | some ag, .agg vs => (loadC ag (szOf P ft) vs fo).map fun v => (v, []) | _, _ => none
    | none => none
  | .indexAddr t x i =>
    match ρ i with
    | .d (.int _ n) =>
      match arrOf P t with
      | some (m, e) => if 0 ≤ n ∧ n < m ∧ szOf P e ≠ 0 then (addOff (ρ x) (n.toNat * szOf P e)).map fun v => (v, []) else none
      | none =>
        match elemOf' P t with
        | some e =>
          if szOf P e ≠ 0 then
            match ρ x with
            | .d (.slice _ es) => if 0 ≤ n ∧ n < es.length ∧ (es.getD n.toNat []).length = szOf P e then some (.eptr (es.getD n.toNat []) 0, []) else none
            | .sref id len => if 0 ≤ n ∧ n < len then some (.rptr id (szOf P e) n.toNat 0, []) else none
            | .ssub id sz off len => if sz = szOf P e ∧ 0 ≤ n ∧ n < len then some (.rptr id (szOf P e) (off + n.toNat) 0, []) else none
            | .bsl id sz off len cap => if sz = szOf P e ∧ 0 ≤ n ∧ n < len then some (.ptr id ((off + n.toNat) * szOf P e), []) else none
            | _ => none
          else none
        | none => none
    | _ => none
  | .index t x i =>
    match ρ x, ρ i with
    | .d (.str l), .d (.int _ n) => if isStr P t = true ∧ 0 ≤ n ∧ n < l.length then some (.d (.int .u8 ((l.getD n.toNat 0).toNat : Int)), []) else none
    | _, _ => none
  | .slice t x lo hi none =>
    match ρ x with
    | .d (.str s) => match bndV ρ lo 0, bndV ρ hi s.length with
      | some l, some h => if isStr P t = true ∧ 0 ≤ l ∧ l ≤ h ∧ h ≤ s.length then some (.d (.str ((s.take h.toNat).drop l.toNat)), []) else none
      | _, _ => none
    | .d (.slice nil es) => match elemOf' P t, bndV ρ lo 0, bndV ρ hi es.length with
      | some e, some l, some h => if szOf P e ≠ 0 ∧ 0 ≤ l ∧ l ≤ h ∧ h ≤ es.length ∧ es.all (fun y => y.length == szOf P e) = true then some (.d (.slice nil ((es.take h.toNat).drop l.toNat)), []) else none
      | _, _, _ => none
    | .sref id len => match elemOf' P t, bndV ρ lo 0, bndV ρ hi len with
      | some e, some l, some h => if szOf P e ≠ 0 ∧ 0 ≤ l ∧ l ≤ h ∧ h ≤ len then some (.ssub id (szOf P e) l.toNat (h.toNat - l.toNat), []) else none
      | _, _, _ => none
    | .ssub id sz off len => match elemOf' P t, bndV ρ lo 0, bndV ρ hi len with
      | some e, some l, some h => if sz = szOf P e ∧ szOf P e ≠ 0 ∧ 0 ≤ l ∧ l ≤ h ∧ h ≤ len then some (.ssub id (szOf P e) (off + l.toNat) (h.toNat - l.toNat), []) else none
      | _, _, _ => none
    | .bsl id sz off len cap => match elemOf' P t, bndV ρ lo 0, bndV ρ hi len with
      | some e, some l, some h => if sz = szOf P e ∧ szOf P e ≠ 0 ∧ 0 ≤ l ∧ l ≤ h ∧ h ≤ len then some (.bsl id (szOf P e) (off + l.toNat) (h.toNat - l.toNat) (cap - l.toNat), []) else none
      | _, _, _ => none
    | _ => none
  | .slice t x none (some h) (some m) =>
    match ρ h, ρ m, elemOf' P t with
    | .d (.int _ 0), .d (.int _ 0), some e =>
      if szOf P e ≠ 0 then
        match ρ x with
        | .d (.slice nil _) => some (.emp0 nil, [])
        | .sref id _ => match hg id with | some (.row _ _ nil _) => some (.emp0 nil, [id]) | _ => none
        | _ => none
      else none
    | _, _, _ => none
  | .binOp op t x y _ => binE P op t x y hg (ρ x) (ρ y)
  | .unOp .not _ x => match ρ x with | .d (.bool b) => some (.d (.bool !b), []) | _ => none
  | .unOp .neg _ x => match ρ x with | .d (.int k n) => some (.d (.int k (k.wrap (0 - n))), []) | _ => none
  | .unOp .xor _ x => match ρ x with | .d (.int k n) => some (.d (.int k (bits .xor k (if k.signed then -1 else k.max) n)), []) | _ => none
  | .convert s t x =>
    match ρ x with
    | .d (.int k n) => match intOf' P t with
      | some k' => if (P.underlying s).isSome = true then some (.d (.int k' (k'.wrap n)), []) else none
      | none => if isStr P t = true ∧ (intOf' P s).isSome = true then some (.d (.str (Utf8.encode n).data.toList), []) else none
    | .d (.str l) => if isStr P s = true ∧ isStr P t = true then some (.d (.str l), []) else none
    | _ => none
  | .typeAssert x _ t true =>
    match isIfc P t, ifaceOf (ρ x) with
    | some false, some (t', v) => if t' = t then some (.tup [v, .d (.bool true)], []) else match zeroOf P t with | some z => some (.tup [constV z, .d (.bool false)], []) | none => none
    | _, _ => none
  | .build t parts =>
    match zeroOf P t, placeOf P t with
    | some z, some place => match cellsV (constV z) with
      | some cs => (fillV place cs (partsV ρ parts.toList)).map fun cs' => (.agg cs', [])
      | none => none
    | _, _ => none
  | .call { callee := .builtin .len, args := args, argTypes := ts } =>
    match args.toList, ts.toList with
    | [x], [t] =>
      match ρ x with
      | .d (.str l) => if isStr P t = true then some (.d (.int .i64 l.length), []) else none
      | .mapr id => match hg id, mapOf P t with | some (.map _ es), some _ => some (.d (.int .i64 es.length), [id]) | _, _ => none
      | v => match lenS v, elemOf' P t with | some n, some _ => some (.d (.int .i64 n), []) | _, _ => none
    | _, _ => none
  | .call { callee := .builtin .cap, args := args, argTypes := ts } =>
    match args.toList, ts.toList with
    | [x], [t] => match elemOf' P t, ρ x with
      | some _, .d (.slice true _) => some (.d (.int .i64 0), [])
      | some _, .emp0 _ => some (.d (.int .i64 0), [])
      | some _, .bsl _ _ _ _ cap => some (.d (.int .i64 cap), [])
      | _, _ => none
    | _, _ => none
  | .call { callee := .builtin .min, args := args, argTypes := _ } =>
    match args.toList with
    | [x, y] => match ρ x, ρ y with | .d (.int k a), .d (.int k' b) => if k = k' then some (.d (.int k (min a b)), []) else none | _, _ => none
    | _ => none
  | .call { callee := .builtin .max, args := args, argTypes := _ } =>
    match args.toList with
    | [x, y] => match ρ x, ρ y with | .d (.int k a), .d (.int k' b) => if k = k' then some (.d (.int k (max a b)), []) else none | _, _ => none
    | _ => none
  | _ => none

def kindOK : TypeDesc → D → Bool
  | .int _, .int _ _ => true
  | .string, .str _ => true
  | .bool, .bool _ => true
  | _, _ => false
def fldsOK (P : Program) : Nat → List Field → List V → Bool
  | _, [], [] => true
  | i, f :: fs, .d x :: vs => (f.offset == i) && (f.name != "_") && (match P.underlying f.type with | some d => kindOK d x | none => false) && fldsOK P (i + 1) fs vs
  | _, _, _ => false
def keyOK (P : Program) (kt : TypeId) : V → Bool
  | .d x => match P.underlying kt with | some d => kindOK d x | none => false
  | .agg vs => match P.underlying kt with | some (.struct fs) => !P.stoodInHeld kt && fldsOK P 0 fs.toList vs | _ => false
  | _ => false

def keyEq : V → V → Option Bool
  | .d a, .d b => eqD a b
  | .agg a, .agg b => eqDs a b
  | _, _ => none
def findK (k : V) : List (V × V) → Nat → Option (Option (Nat × V))
  | [], _ => some none
  | (k', v) :: r, i => match keyEq k k' with | some true => some (some (i, v)) | some false => findK k r (i + 1) | none => none
def setM : List (V × V) → Nat → V × V → List (V × V)
  | [], _, _ => []
  | _ :: r, 0, p => p :: r
  | x :: r, i + 1, p => x :: setM r i p

def winS (sz : Nat) : V → Option (Nat × Nat × Nat)
  | .sref id n => some (id, 0, n)
  | .ssub id sz' off len => if sz' = sz then some (id, off, len) else none
  | _ => none

def repE : Nat → List D → List (List D)
  | 0, _ => []
  | n + 1, e => e :: repE n e

def mE (P : Program) (ρ : Operand → V) (hg : Nat → Option Blk) (base : Nat) : Op → Option Eff
  | .box _ x => (cellsV (ρ x)).map fun vs => { val := .ptr base 0, nw := [(base, .box false vs)] }
  | .alloc elem => match zeroOf P elem with
    | some z => (cellsV (constV z)).map fun vs => { val := .ptr base 0, nw := [(base, .box false vs)] }
    | none => none
  | .buildSlice t len parts =>
    match elemOf' P t with
    | some e => match zeroOf P e with
      | some z => match cellsV (constV z) with
        | some cs =>
          if szOf P e = cs.length ∧ cs.length ≠ 0 ∧ len * cs.length ≤ 16777216 then
            (fillV (fun i => some (i * cs.length, cs.length)) (repV len cs) (partsV ρ parts.toList)).map fun cs' => { val := .bsl base cs.length 0 len len, nw := [(base, .box false cs')] }
          else none
        | none => none
      | none => none
    | none => none
  | .store t x y =>
    match cellsV (ρ y) with
    | none => none
    | some vs =>
      if szOf P t = vs.length ∧ vs.length ≠ 0 then
        match ρ x with
        | .ptr id off => match hg id with
          | some (.box false cs) => if off + vs.length ≤ cs.length then some { val := .junk, wr := [(id, .box false (setAll cs off vs))], rd := [id] } else none
          | _ => none
        | .rptr id sz i off => match hg id, frDs hg vs with
          | some (.row sz' fz nil es), some (ds, rd2) => match es[i]? with
            | some e => if sz' = sz ∧ fz ≤ i ∧ off + vs.length ≤ sz then some { val := .junk, wr := [(id, .row sz fz nil (setE es i (setD e off ds)))], rd := id :: rd2 } else none
            | none => none
          | _, _ => none
        | _ => none
      else none
  | .makeSlice t l c =>
    match appTy P t, ρ l, ρ c with
    | some (e, sz, bytes), .d (.int _ n), .d (.int _ m) =>
      match zeroOf P e with
      | some z => match cellsV (constV z) with
        | some cs => match toDs cs with
          | some ds => if 0 ≤ n ∧ n ≤ m ∧ (bytes : Int) * m ≤ 281474976710656 ∧ m ≤ 9223372036854775807 then
              some { val := .sref base n.toNat, nw := [(base, .row sz 0 false (repE n.toNat ds))] } else none
          | none => none
        | none => none
      | none => none
    | _, _, _ => none
  | .makeMap t none => match mapOf P t with | some _ => some { val := .mapr base, nw := [(base, .map 0 [])] } | none => none
  | .lookup t x k ok =>
    match mapOf P t with
    | some (kt, et) =>
      match ρ x with
      | .mapr id => match hg id with
        | some (.map c0 es) => match (if keyOK P kt (ρ k) = true then findK (ρ k) es 0 else none) with
          | some (some (_, v)) => some { val := if ok then .tup [v, .d (.bool true)] else v, rd := [id] }
          | some none => match zeroOf P et with
            | some z => some { val := if ok then .tup [constV z, .d (.bool false)] else constV z, rd := [id] }
            | none => none
          | none => none
        | _ => none
      | _ => none
    | none => none
  | .insert t m k x => match mapOf P t, ρ m with
    | some (kt, _), .mapr id => match hg id with
      | some (.map c0 es) => match (if keyOK P kt (ρ k) = true then findK (ρ k) es 0 else none) with
        | some (some (i, _)) => some { val := .junk, wr := [(id, .map c0 (setM es i (ρ k, ρ x)))], rd := [id] }
        | some none => some { val := .junk, wr := [(id, .map c0 (es ++ [(ρ k, ρ x)]))], rd := [id] }
        | none => none
      | _ => none
    | _, _ => none
  | .mapUpdate t m k x => match mapOf P t, ρ m with
    | some (kt, _), .mapr id => match hg id with
      | some (.map c0 es) => match (if keyOK P kt (ρ k) = true then findK (ρ k) es 0 else none) with
        | some (some (i, _)) => some { val := .junk, wr := [(id, .map c0 (setM es i (ρ k, ρ x)))], rd := [id] }
        | some none => some { val := .junk, wr := [(id, .map c0 (es ++ [(ρ k, ρ x)]))], rd := [id] }
        | none => none
      | _ => none
    | _, _ => none
  | .mapEntry t m k => match mapOf P t, ρ m with
    | some (kt, et), .mapr id => match hg id, zeroOf P et with
      | some (.map c0 es), some z => match (if keyOK P kt (ρ k) = true then findK (ρ k) es 0 else none) with
        | some (some (i, v)) => some { val := .tup [v, .d (.int .i64 (c0 + i : Nat))], wr := [(id, .map c0 (setM es i (ρ k, v)))], rd := [id] }
        | some none => some { val := .tup [constV z, .d (.int .i64 (c0 + es.length : Nat))], wr := [(id, .map c0 (es ++ [(ρ k, constV z)]))], rd := [id] }
        | none => none
      | _, _ => none
    | _, _ => none
  | .entryStore t m s x => match ρ m, ρ s with
    | .mapr id, .d (.int _ n) => match hg id with
      | some (.map c0 es) => match es[n.toNat - c0]? with
        | some (k, _) => if (c0 : Int) ≤ n then some { val := .junk, wr := [(id, .map c0 (setM es (n.toNat - c0) (k, ρ x)))], rd := [id] } else none
        | none => none
      | _ => none
    | _, _ => none
  | .call { callee := .builtin .copy, args := args, argTypes := ts } =>
    match args.toList, ts.toList with
    | [x, y], [t, t'] =>
      match appTy P t with
      | some (_, sz, _) =>
        match slOf hg sz (ρ y), winS sz (ρ x) with
        | some (es', rd'), some (id, off, len) => match hg id with
          | some (.row sz' fz nil es) =>
            if sz' = sz ∧ off + len ≤ es.length ∧ (fz ≤ off ∨ min es'.length len = 0) then
              some { val := .d (.int .i64 (min es'.length len : Nat)), wr := [(id, .row sz fz nil (es.take off ++ es'.take (min es'.length len) ++ es.drop (off + min es'.length len)))], rd := id :: rd' }
            else none
          | _ => none
        | _, _ => none
      | none => none
    | _, _ => none
  | .call { callee := .builtin .clear, args := args, argTypes := ts } =>
    match args.toList, ts.toList with
    | [x], [t] => match ρ x with
      | .mapr id => match hg id, mapOf P t with
        | some (.map c0 es), some _ => some { val := .tup [], wr := [(id, .map (c0 + es.length) [])], rd := [id] }
        | _, _ => none
      | v => match appTy P t with
        | some (e, sz, _) =>
          match winS sz v with
          | some (id, off, len) => match hg id, zeroOf P e with
            | some (.row sz' fz nil es), some z => match cellsV (constV z) with
              | some cs => match toDs cs with
                | some ds => if sz' = sz ∧ off + len ≤ es.length ∧ (fz ≤ off ∨ len = 0) then
                    some { val := .tup [], wr := [(id, .row sz fz nil (es.take off ++ repE len ds ++ es.drop (off + len)))], rd := [id] } else none
                | none => none
              | none => none
            | _, _ => none
          | none => match lenS v with | some 0 => some { val := .tup [] } | _ => none
        | none => none
    | _, _ => none
  | .range t x => match ρ x with
    | .d (.str l) => if isStr P t = true then some { val := .iter base, nw := [(base, .siter l 0)] } else none
    | _ => none
  | .next it true => match ρ it with
    | .iter id => match hg id with
      | some (.siter l pos) =>
        if pos < l.length then
          let c := Utf8.decode ⟨l.toArray⟩ pos
          some { val := .tup [.d (.bool true), .d (.int .i64 pos), .d (.int .i32 c.1)], wr := [(id, .siter l (pos + c.2))], rd := [id] }
        else some { val := .tup [.d (.bool false)], rd := [id] }
      | _ => none
    | _ => none
  | .call { callee := .builtin .append, args := args, argTypes := ts } =>
    match args.toList, ts.toList with
    | [s, x], [t, t'] =>
      if t = t' then
        match appTy P t with
        | some (e, sz, bytes) =>
          match slOf hg sz (ρ x) with
          | some (es', rd') =>
            if es'.isEmpty then
              match slOf hg sz (ρ s) with
              | some (es, rd) => some { val := ρ s, rd := napp rd rd' }
              | none => none
            else if fullS (ρ s) then
              match slOf hg sz (ρ s) with
              | some (es, rd) => if (es.length + es'.length) * bytes ≤ 140737488355328 ∧ es.length + es'.length ≤ 9223372036854775807 then
                  some { val := .sref base (es.length + es'.length), nw := [(base, .row sz 0 false (es ++ es'))], rd := napp rd rd' } else none
              | none => none
            else
              match rowS sz (ρ s) with
              | some (old, n) => match hg old with
                | some (.row sz' fz nil es) => if sz' = sz ∧ n ≤ es.length ∧ fz ≤ n ∧ (n + es'.length) * bytes ≤ 140737488355328 ∧ n + es'.length ≤ 9223372036854775807 then
                    some { val := .sref base (n + es'.length), wr := [(old, .dead)], nw := [(base, .row sz fz false (es.take n ++ es'))], rd := old :: rd' } else none
                | _ => none
              | none => none
          | none => none
        | none => none
      else
        match appTy P t, intOf' P t', ρ x with
        | some (e, sz, bytes), some _, .d (.int .i64 n) =>
          match zeroOf P e with
          | some z => match cellsV (constV z) with
            | some cs => match toDs cs, slOf hg sz (ρ s) with
              | some ds, some (es, rd) =>
                if 0 < n ∧ fullS (ρ s) = true ∧ ds.length = sz ∧ (es.length + n.toNat) * bytes ≤ 140737488355328 ∧ es.length + n.toNat ≤ 9223372036854775807 then
                  some { val := .sref base (es.length + n.toNat), nw := [(base, .row sz 0 false (es ++ repE n.toNat ds))], rd := rd }
                else none
              | _, _ => none
            | none => none
          | none => none
        | _, _, _ => none
    | _, _ => none
  | op => (qE P ρ hg op).map fun p => { val := p.1, rd := p.2 }

end Go.Bv

namespace Go.Bv

def mE_box (P : Program) (ρ : Operand → V) (hg : Nat → Option Blk) (base : Nat) (x : Operand) : Option Eff :=
  (cellsV (ρ x)).map fun vs => { val := .ptr base 0, nw := [(base, .box false vs)] }
def mE_alloc (P : Program) (ρ : Operand → V) (hg : Nat → Option Blk) (base : Nat) (elem : TypeId) : Option Eff :=
  match zeroOf P elem with
    | some z => (cellsV (constV z)).map fun vs => { val := .ptr base 0, nw := [(base, .box false vs)] }
    | none => none
def mE_buildSlice (P : Program) (ρ : Operand → V) (hg : Nat → Option Blk) (base : Nat) (t : TypeId) (len : Nat) (parts : Array (Nat × Operand)) : Option Eff :=
      match elemOf' P t with
    | some e => match zeroOf P e with
      | some z => match cellsV (constV z) with
        | some cs =>
          if szOf P e = cs.length ∧ cs.length ≠ 0 ∧ len * cs.length ≤ 16777216 then
            (fillV (fun i => some (i * cs.length, cs.length)) (repV len cs) (partsV ρ parts.toList)).map fun cs' => { val := .bsl base cs.length 0 len len, nw := [(base, .box false cs')] }
          else none
        | none => none
      | none => none
    | none => none
def mE_store (P : Program) (ρ : Operand → V) (hg : Nat → Option Blk) (base : Nat) (t : TypeId) (x : Operand) (y : Operand) : Option Eff :=
      match cellsV (ρ y) with
    | none => none
    | some vs =>
      if szOf P t = vs.length ∧ vs.length ≠ 0 then
        match ρ x with
        | .ptr id off => match hg id with
          | some (.box false cs) => if off + vs.length ≤ cs.length then some { val := .junk, wr := [(id, .box false (setAll cs off vs))], rd := [id] } else none
          | _ => none
        | .rptr id sz i off => match hg id, frDs hg vs with
          | some (.row sz' fz nil es), some (ds, rd2) => match es[i]? with
            | some e => if sz' = sz ∧ fz ≤ i ∧ off + vs.length ≤ sz then some { val := .junk, wr := [(id, .row sz fz nil (setE es i (setD e off ds)))], rd := id :: rd2 } else none
            | none => none
          | _, _ => none
        | _ => none
      else none
def mE_makeSlice (P : Program) (ρ : Operand → V) (hg : Nat → Option Blk) (base : Nat) (t : TypeId) (l : Operand) (c : Operand) : Option Eff :=
      match appTy P t, ρ l, ρ c with
    | some (e, sz, bytes), .d (.int _ n), .d (.int _ m) =>
      match zeroOf P e with
      | some z => match cellsV (constV z) with
        | some cs => match toDs cs with
          | some ds => if 0 ≤ n ∧ n ≤ m ∧ (bytes : Int) * m ≤ 281474976710656 ∧ m ≤ 9223372036854775807 then
              some { val := .sref base n.toNat, nw := [(base, .row sz 0 false (repE n.toNat ds))] } else none
          | none => none
        | none => none
      | none => none
    | _, _, _ => none
def mE_makeMap (P : Program) (ρ : Operand → V) (hg : Nat → Option Blk) (base : Nat) (t : TypeId) : Option Eff :=
  match mapOf P t with | some _ => some { val := .mapr base, nw := [(base, .map 0 [])] } | none => none
def mE_lookup (P : Program) (ρ : Operand → V) (hg : Nat → Option Blk) (base : Nat) (t : TypeId) (x : Operand) (k : Operand) (ok : Bool) : Option Eff :=
      match mapOf P t with
    | some (kt, et) =>
      match ρ x with
      | .mapr id => match hg id with
        | some (.map c0 es) => match (if keyOK P kt (ρ k) = true then findK (ρ k) es 0 else none) with
          | some (some (_, v)) => some { val := if ok then .tup [v, .d (.bool true)] else v, rd := [id] }
          | some none => match zeroOf P et with
            | some z => some { val := if ok then .tup [constV z, .d (.bool false)] else constV z, rd := [id] }
            | none => none
          | none => none
        | _ => none
      | _ => none
    | none => none
def mE_insert (P : Program) (ρ : Operand → V) (hg : Nat → Option Blk) (base : Nat) (t : TypeId) (m : Operand) (k : Operand) (x : Operand) : Option Eff :=
  match mapOf P t, ρ m with
    | some (kt, _), .mapr id => match hg id with
      | some (.map c0 es) => match (if keyOK P kt (ρ k) = true then findK (ρ k) es 0 else none) with
        | some (some (i, _)) => some { val := .junk, wr := [(id, .map c0 (setM es i (ρ k, ρ x)))], rd := [id] }
        | some none => some { val := .junk, wr := [(id, .map c0 (es ++ [(ρ k, ρ x)]))], rd := [id] }
        | none => none
      | _ => none
    | _, _ => none
def mE_mapUpdate (P : Program) (ρ : Operand → V) (hg : Nat → Option Blk) (base : Nat) (t : TypeId) (m : Operand) (k : Operand) (x : Operand) : Option Eff :=
  match mapOf P t, ρ m with
    | some (kt, _), .mapr id => match hg id with
      | some (.map c0 es) => match (if keyOK P kt (ρ k) = true then findK (ρ k) es 0 else none) with
        | some (some (i, _)) => some { val := .junk, wr := [(id, .map c0 (setM es i (ρ k, ρ x)))], rd := [id] }
        | some none => some { val := .junk, wr := [(id, .map c0 (es ++ [(ρ k, ρ x)]))], rd := [id] }
        | none => none
      | _ => none
    | _, _ => none
def mE_mapEntry (P : Program) (ρ : Operand → V) (hg : Nat → Option Blk) (base : Nat) (t : TypeId) (m : Operand) (k : Operand) : Option Eff :=
  match mapOf P t, ρ m with
    | some (kt, et), .mapr id => match hg id, zeroOf P et with
      | some (.map c0 es), some z => match (if keyOK P kt (ρ k) = true then findK (ρ k) es 0 else none) with
        | some (some (i, v)) => some { val := .tup [v, .d (.int .i64 (c0 + i : Nat))], wr := [(id, .map c0 (setM es i (ρ k, v)))], rd := [id] }
        | some none => some { val := .tup [constV z, .d (.int .i64 (c0 + es.length : Nat))], wr := [(id, .map c0 (es ++ [(ρ k, constV z)]))], rd := [id] }
        | none => none
      | _, _ => none
    | _, _ => none
def mE_entryStore (P : Program) (ρ : Operand → V) (hg : Nat → Option Blk) (base : Nat) (t : TypeId) (m : Operand) (s : Operand) (x : Operand) : Option Eff :=
  match ρ m, ρ s with
    | .mapr id, .d (.int _ n) => match hg id with
      | some (.map c0 es) => match es[n.toNat - c0]? with
        | some (k, _) => if (c0 : Int) ≤ n then some { val := .junk, wr := [(id, .map c0 (setM es (n.toNat - c0) (k, ρ x)))], rd := [id] } else none
        | none => none
      | _ => none
    | _, _ => none
def mE_copy (P : Program) (ρ : Operand → V) (hg : Nat → Option Blk) (base : Nat) (args : Array Operand) (ts : Array TypeId) : Option Eff :=
      match args.toList, ts.toList with
    | [x, y], [t, t'] =>
      match appTy P t with
      | some (_, sz, _) =>
        match slOf hg sz (ρ y), winS sz (ρ x) with
        | some (es', rd'), some (id, off, len) => match hg id with
          | some (.row sz' fz nil es) =>
            if sz' = sz ∧ off + len ≤ es.length ∧ (fz ≤ off ∨ min es'.length len = 0) then
              some { val := .d (.int .i64 (min es'.length len : Nat)), wr := [(id, .row sz fz nil (es.take off ++ es'.take (min es'.length len) ++ es.drop (off + min es'.length len)))], rd := id :: rd' }
            else none
          | _ => none
        | _, _ => none
      | none => none
    | _, _ => none
def mE_clear (P : Program) (ρ : Operand → V) (hg : Nat → Option Blk) (base : Nat) (args : Array Operand) (ts : Array TypeId) : Option Eff :=
      match args.toList, ts.toList with
    | [x], [t] => match ρ x with
      | .mapr id => match hg id, mapOf P t with
        | some (.map c0 es), some _ => some { val := .tup [], wr := [(id, .map (c0 + es.length) [])], rd := [id] }
        | _, _ => none
      | v => match appTy P t with
        | some (e, sz, _) =>
          match winS sz v with
          | some (id, off, len) => match hg id, zeroOf P e with
            | some (.row sz' fz nil es), some z => match cellsV (constV z) with
              | some cs => match toDs cs with
                | some ds => if sz' = sz ∧ off + len ≤ es.length ∧ (fz ≤ off ∨ len = 0) then
                    some { val := .tup [], wr := [(id, .row sz fz nil (es.take off ++ repE len ds ++ es.drop (off + len)))], rd := [id] } else none
                | none => none
              | none => none
            | _, _ => none
          | none => match lenS v with | some 0 => some { val := .tup [] } | _ => none
        | none => none
    | _, _ => none
def mE_range (P : Program) (ρ : Operand → V) (hg : Nat → Option Blk) (base : Nat) (t : TypeId) (x : Operand) : Option Eff :=
  match ρ x with
    | .d (.str l) => if isStr P t = true then some { val := .iter base, nw := [(base, .siter l 0)] } else none
    | _ => none
def mE_next (P : Program) (ρ : Operand → V) (hg : Nat → Option Blk) (base : Nat) (it : Operand) : Option Eff :=
  match ρ it with
    | .iter id => match hg id with
      | some (.siter l pos) =>
        if pos < l.length then
          let c := Utf8.decode ⟨l.toArray⟩ pos
          some { val := .tup [.d (.bool true), .d (.int .i64 pos), .d (.int .i32 c.1)], wr := [(id, .siter l (pos + c.2))], rd := [id] }
        else some { val := .tup [.d (.bool false)], rd := [id] }
      | _ => none
    | _ => none
def mE_append (P : Program) (ρ : Operand → V) (hg : Nat → Option Blk) (base : Nat) (args : Array Operand) (ts : Array TypeId) : Option Eff :=
      match args.toList, ts.toList with
    | [s, x], [t, t'] =>
      if t = t' then
        match appTy P t with
        | some (e, sz, bytes) =>
          match slOf hg sz (ρ x) with
          | some (es', rd') =>
            if es'.isEmpty then
              match slOf hg sz (ρ s) with
              | some (es, rd) => some { val := ρ s, rd := napp rd rd' }
              | none => none
            else if fullS (ρ s) then
              match slOf hg sz (ρ s) with
              | some (es, rd) => if (es.length + es'.length) * bytes ≤ 140737488355328 ∧ es.length + es'.length ≤ 9223372036854775807 then
                  some { val := .sref base (es.length + es'.length), nw := [(base, .row sz 0 false (es ++ es'))], rd := napp rd rd' } else none
              | none => none
            else
              match rowS sz (ρ s) with
              | some (old, n) => match hg old with
                | some (.row sz' fz nil es) => if sz' = sz ∧ n ≤ es.length ∧ fz ≤ n ∧ (n + es'.length) * bytes ≤ 140737488355328 ∧ n + es'.length ≤ 9223372036854775807 then
                    some { val := .sref base (n + es'.length), wr := [(old, .dead)], nw := [(base, .row sz fz false (es.take n ++ es'))], rd := old :: rd' } else none
                | _ => none
              | none => none
          | none => none
        | none => none
      else
        match appTy P t, intOf' P t', ρ x with
        | some (e, sz, bytes), some _, .d (.int .i64 n) =>
          match zeroOf P e with
          | some z => match cellsV (constV z) with
            | some cs => match toDs cs, slOf hg sz (ρ s) with
              | some ds, some (es, rd) =>
                if 0 < n ∧ fullS (ρ s) = true ∧ ds.length = sz ∧ (es.length + n.toNat) * bytes ≤ 140737488355328 ∧ es.length + n.toNat ≤ 9223372036854775807 then
                  some { val := .sref base (es.length + n.toNat), nw := [(base, .row sz 0 false (es ++ repE n.toNat ds))], rd := rd }
                else none
              | _, _ => none
            | none => none
          | none => none
        | _, _, _ => none
    | _, _ => none
def qE_move (P : Program) (ρ : Operand → V) (hg : Nat → Option Blk) (base : Nat) (x : Operand) : QR :=
  some (ρ x, [])
def qE_assign (P : Program) (ρ : Operand → V) (hg : Nat → Option Blk) (base : Nat) (x : Operand) : QR :=
  some (ρ x, [])
def qE_pick (P : Program) (ρ : Operand → V) (hg : Nat → Option Blk) (base : Nat) (c : Operand) (x : Operand) (y : Operand) : QR :=
  match ρ c with | .d (.bool b) => some (cond b (ρ x) (ρ y), []) | _ => none
def qE_extract (P : Program) (ρ : Operand → V) (hg : Nat → Option Blk) (base : Nat) (x : Operand) (i : Nat) : QR :=
  match ρ x with | .tup vs => (getV vs i).map fun v => (v, []) | _ => none
def qE_makeFunc (P : Program) (ρ : Operand → V) (hg : Nat → Option Blk) (base : Nat) (f : Fn) (a : Array Operand) (c : Array Operand) : QR :=
  some (.fn f (a.toList.map ρ) (c.toList.map ρ), [])
def qE_makeInterface (P : Program) (ρ : Operand → V) (hg : Nat → Option Blk) (base : Nat) (t : TypeId) (x : Operand) : QR :=
  match isIfc P t with | some false => some (mkIface t (ρ x), []) | _ => none
def qE_nilCheck (P : Program) (ρ : Operand → V) (hg : Nat → Option Blk) (base : Nat) (x : Operand) : QR :=
  if isPtr (ρ x) = true then some (ρ x, []) else match ρ x with | .fn (.func _) _ _ => some (ρ x, []) | _ => none
def qE_load (P : Program) (ρ : Operand → V) (hg : Nat → Option Blk) (base : Nat) (t : TypeId) (x : Operand) : QR :=
      match aggOf P t with
    | none => none
    | some ag =>
      match ρ x with
      | .ptr id off => match hg id with | some (.box _ cs) => (loadC ag (szOf P t) cs off).map fun v => (v, [id]) | _ => none
      | .eptr e off => (loadD ag (szOf P t) e off).map fun v => (v, [])
      | .rptr id sz i off => match hg id with | some (.row sz' _ _ es) => if sz' = sz ∧ i < es.length then (loadD ag (szOf P t) (es.getD i []) off).map fun v => (v, [id]) else none | _ => none
      | .glo m off => match gtab m with | some e => (loadD ag (szOf P t) e off).map fun v => (v, []) | none => none
      | _ => none
def qE_fieldAddr (P : Program) (ρ : Operand → V) (hg : Nat → Option Blk) (base : Nat) (s : TypeId) (x : Operand) (f : Nat) : QR :=
  match fieldOf P s f with | some (fo, ft) => if szOf P ft ≠ 0 then (addOff (ρ x) fo).map fun v => (v, []) else none | none => none
def qE_field (P : Program) (ρ : Operand → V) (hg : Nat → Option Blk) (base : Nat) (s : TypeId) (x : Operand) (f : Nat) : QR :=
  match fieldOf P s f with
    | some (fo, ft) => match aggOf P ft, ρ x with | some ag, .agg vs => (loadC ag (szOf P ft) vs fo).map fun v => (v, []) | _, _ => none
    | none => none
def qE_indexAddr (P : Program) (ρ : Operand → V) (hg : Nat → Option Blk) (base : Nat) (t : TypeId) (x : Operand) (i : Operand) : QR :=
      match ρ i with
    | .d (.int _ n) =>
      match arrOf P t with
      | some (m, e) => if 0 ≤ n ∧ n < m ∧ szOf P e ≠ 0 then (addOff (ρ x) (n.toNat * szOf P e)).map fun v => (v, []) else none
      | none =>
        match elemOf' P t with
        | some e =>
          if szOf P e ≠ 0 then
            match ρ x with
            | .d (.slice _ es) => if 0 ≤ n ∧ n < es.length ∧ (es.getD n.toNat []).length = szOf P e then some (.eptr (es.getD n.toNat []) 0, []) else none
            | .sref id len => if 0 ≤ n ∧ n < len then some (.rptr id (szOf P e) n.toNat 0, []) else none
            | .ssub id sz off len => if sz = szOf P e ∧ 0 ≤ n ∧ n < len then some (.rptr id (szOf P e) (off + n.toNat) 0, []) else none
            | .bsl id sz off len cap => if sz = szOf P e ∧ 0 ≤ n ∧ n < len then some (.ptr id ((off + n.toNat) * szOf P e), []) else none
            | _ => none
          else none
        | none => none
    | _ => none
def qE_index (P : Program) (ρ : Operand → V) (hg : Nat → Option Blk) (base : Nat) (t : TypeId) (x : Operand) (i : Operand) : QR :=
      match ρ x, ρ i with
    | .d (.str l), .d (.int _ n) => if isStr P t = true ∧ 0 ≤ n ∧ n < l.length then some (.d (.int .u8 ((l.getD n.toNat 0).toNat : Int)), []) else none
    | _, _ => none
def qE_slice2 (P : Program) (ρ : Operand → V) (hg : Nat → Option Blk) (base : Nat) (t : TypeId) (x : Operand) (lo : Option Operand) (hi : Option Operand) : QR :=
      match ρ x with
    | .d (.str s) => match bndV ρ lo 0, bndV ρ hi s.length with
      | some l, some h => if isStr P t = true ∧ 0 ≤ l ∧ l ≤ h ∧ h ≤ s.length then some (.d (.str ((s.take h.toNat).drop l.toNat)), []) else none
      | _, _ => none
    | .d (.slice nil es) => match elemOf' P t, bndV ρ lo 0, bndV ρ hi es.length with
      | some e, some l, some h => if szOf P e ≠ 0 ∧ 0 ≤ l ∧ l ≤ h ∧ h ≤ es.length ∧ es.all (fun y => y.length == szOf P e) = true then some (.d (.slice nil ((es.take h.toNat).drop l.toNat)), []) else none
      | _, _, _ => none
    | .sref id len => match elemOf' P t, bndV ρ lo 0, bndV ρ hi len with
      | some e, some l, some h => if szOf P e ≠ 0 ∧ 0 ≤ l ∧ l ≤ h ∧ h ≤ len then some (.ssub id (szOf P e) l.toNat (h.toNat - l.toNat), []) else none
      | _, _, _ => none
    | .ssub id sz off len => match elemOf' P t, bndV ρ lo 0, bndV ρ hi len with
      | some e, some l, some h => if sz = szOf P e ∧ szOf P e ≠ 0 ∧ 0 ≤ l ∧ l ≤ h ∧ h ≤ len then some (.ssub id (szOf P e) (off + l.toNat) (h.toNat - l.toNat), []) else none
      | _, _, _ => none
    | .bsl id sz off len cap => match elemOf' P t, bndV ρ lo 0, bndV ρ hi len with
      | some e, some l, some h => if sz = szOf P e ∧ szOf P e ≠ 0 ∧ 0 ≤ l ∧ l ≤ h ∧ h ≤ len then some (.bsl id (szOf P e) (off + l.toNat) (h.toNat - l.toNat) (cap - l.toNat), []) else none
      | _, _, _ => none
    | _ => none
def qE_slice3 (P : Program) (ρ : Operand → V) (hg : Nat → Option Blk) (base : Nat) (t : TypeId) (x : Operand) (h : Operand) (m : Operand) : QR :=
      match ρ h, ρ m, elemOf' P t with
    | .d (.int _ 0), .d (.int _ 0), some e =>
      if szOf P e ≠ 0 then
        match ρ x with
        | .d (.slice nil _) => some (.emp0 nil, [])
        | .sref id _ => match hg id with | some (.row _ _ nil _) => some (.emp0 nil, [id]) | _ => none
        | _ => none
      else none
    | _, _, _ => none
def qE_binOp (P : Program) (ρ : Operand → V) (hg : Nat → Option Blk) (base : Nat) (op : BinOp) (t : TypeId) (x : Operand) (y : Operand) : QR :=
  binE P op t x y hg (ρ x) (ρ y)
def qE_not (P : Program) (ρ : Operand → V) (hg : Nat → Option Blk) (base : Nat) (x : Operand) : QR :=
  match ρ x with | .d (.bool b) => some (.d (.bool !b), []) | _ => none
def qE_neg (P : Program) (ρ : Operand → V) (hg : Nat → Option Blk) (base : Nat) (x : Operand) : QR :=
  match ρ x with | .d (.int k n) => some (.d (.int k (k.wrap (0 - n))), []) | _ => none
def qE_xor (P : Program) (ρ : Operand → V) (hg : Nat → Option Blk) (base : Nat) (x : Operand) : QR :=
  match ρ x with | .d (.int k n) => some (.d (.int k (bits .xor k (if k.signed then -1 else k.max) n)), []) | _ => none
def qE_convert (P : Program) (ρ : Operand → V) (hg : Nat → Option Blk) (base : Nat) (s : TypeId) (t : TypeId) (x : Operand) : QR :=
      match ρ x with
    | .d (.int k n) => match intOf' P t with
      | some k' => if (P.underlying s).isSome = true then some (.d (.int k' (k'.wrap n)), []) else none
      | none => if isStr P t = true ∧ (intOf' P s).isSome = true then some (.d (.str (Utf8.encode n).data.toList), []) else none
    | .d (.str l) => if isStr P s = true ∧ isStr P t = true then some (.d (.str l), []) else none
    | _ => none
def qE_typeAssert (P : Program) (ρ : Operand → V) (hg : Nat → Option Blk) (base : Nat) (x : Operand) (t : TypeId) : QR :=
      match isIfc P t, ifaceOf (ρ x) with
    | some false, some (t', v) => if t' = t then some (.tup [v, .d (.bool true)], []) else match zeroOf P t with | some z => some (.tup [constV z, .d (.bool false)], []) | none => none
    | _, _ => none
def qE_build (P : Program) (ρ : Operand → V) (hg : Nat → Option Blk) (base : Nat) (t : TypeId) (parts : Array (Nat × Operand)) : QR :=
      match zeroOf P t, placeOf P t with
    | some z, some place => match cellsV (constV z) with
      | some cs => (fillV place cs (partsV ρ parts.toList)).map fun cs' => (.agg cs', [])
      | none => none
    | _, _ => none
def qE_len (P : Program) (ρ : Operand → V) (hg : Nat → Option Blk) (base : Nat) (args : Array Operand) (ts : Array TypeId) : QR :=
      match args.toList, ts.toList with
    | [x], [t] =>
      match ρ x with
      | .d (.str l) => if isStr P t = true then some (.d (.int .i64 l.length), []) else none
      | .mapr id => match hg id, mapOf P t with | some (.map _ es), some _ => some (.d (.int .i64 es.length), [id]) | _, _ => none
      | v => match lenS v, elemOf' P t with | some n, some _ => some (.d (.int .i64 n), []) | _, _ => none
    | _, _ => none
def qE_cap (P : Program) (ρ : Operand → V) (hg : Nat → Option Blk) (base : Nat) (args : Array Operand) (ts : Array TypeId) : QR :=
      match args.toList, ts.toList with
    | [x], [t] => match elemOf' P t, ρ x with
      | some _, .d (.slice true _) => some (.d (.int .i64 0), [])
      | some _, .emp0 _ => some (.d (.int .i64 0), [])
      | some _, .bsl _ _ _ _ cap => some (.d (.int .i64 cap), [])
      | _, _ => none
    | _, _ => none
def qE_min (P : Program) (ρ : Operand → V) (hg : Nat → Option Blk) (base : Nat) (args : Array Operand) (ts : Array TypeId) : QR :=
      match args.toList with
    | [x, y] => match ρ x, ρ y with | .d (.int k a), .d (.int k' b) => if k = k' then some (.d (.int k (min a b)), []) else none | _, _ => none
    | _ => none
def qE_max (P : Program) (ρ : Operand → V) (hg : Nat → Option Blk) (base : Nat) (args : Array Operand) (ts : Array TypeId) : QR :=
      match args.toList with
    | [x, y] => match ρ x, ρ y with | .d (.int k a), .d (.int k' b) => if k = k' then some (.d (.int k (max a b)), []) else none | _, _ => none
    | _ => none
def toE (q : QR) : Option Eff := match q with | some p => some { val := p.1, rd := p.2 } | none => none
def mE_callf (P : Program) (ρ : Operand → V) (hg : Nat → Option Blk) (base : Nat) (c : Call) : Option Eff :=
  match c.callee with
  | .builtin b => match b with
    | .copy => mE_copy P ρ hg base c.args c.argTypes
    | .clear => mE_clear P ρ hg base c.args c.argTypes
    | .append => mE_append P ρ hg base c.args c.argTypes
    | .len => toE (qE_len P ρ hg base c.args c.argTypes)
    | .cap => toE (qE_cap P ρ hg base c.args c.argTypes)
    | .min => toE (qE_min P ρ hg base c.args c.argTypes)
    | .max => toE (qE_max P ρ hg base c.args c.argTypes)
    | _ => none
  | _ => none
def qE_unf (P : Program) (ρ : Operand → V) (hg : Nat → Option Blk) (base : Nat) (u : UnOp) (x : Operand) : QR :=
  match u with
  | .not => qE_not P ρ hg base x
  | .neg => qE_neg P ρ hg base x
  | .xor => qE_xor P ρ hg base x
  | _ => none
def qE_slicef (P : Program) (ρ : Operand → V) (hg : Nat → Option Blk) (base : Nat) (t : TypeId) (x : Operand) (lo hi mx : Option Operand) : QR :=
  match mx with
  | none => qE_slice2 P ρ hg base t x lo hi
  | some m => match lo, hi with
    | none, some h => qE_slice3 P ρ hg base t x h m
    | _, _ => none
def mEf (P : Program) (ρ : Operand → V) (hg : Nat → Option Blk) (base : Nat) (op : Op) : Option Eff :=
  match op with
  | .box _ x => mE_box P ρ hg base x
  | .alloc elem => mE_alloc P ρ hg base elem
  | .buildSlice t len parts => mE_buildSlice P ρ hg base t len parts
  | .store t x y => mE_store P ρ hg base t x y
  | .makeSlice t l c => mE_makeSlice P ρ hg base t l c
  | .lookup t x k ok => mE_lookup P ρ hg base t x k ok
  | .insert t m k x => mE_insert P ρ hg base t m k x
  | .mapUpdate t m k x => mE_mapUpdate P ρ hg base t m k x
  | .mapEntry t m k => mE_mapEntry P ρ hg base t m k
  | .entryStore t m s x => mE_entryStore P ρ hg base t m s x
  | .range t x => mE_range P ρ hg base t x
  | .makeMap t r => match r with | none => mE_makeMap P ρ hg base t | some _ => none
  | .next it b => match b with | true => mE_next P ρ hg base it | false => none
  | .call c => mE_callf P ρ hg base c
  | .move x => toE (qE_move P ρ hg base x)
  | .assign x => toE (qE_assign P ρ hg base x)
  | .pick c x y => toE (qE_pick P ρ hg base c x y)
  | .extract x i => toE (qE_extract P ρ hg base x i)
  | .makeFunc f a c => toE (qE_makeFunc P ρ hg base f a c)
  | .makeInterface t x => toE (qE_makeInterface P ρ hg base t x)
  | .nilCheck x => toE (qE_nilCheck P ρ hg base x)
  | .load t x => toE (qE_load P ρ hg base t x)
  | .fieldAddr s x f => toE (qE_fieldAddr P ρ hg base s x f)
  | .field s x f => toE (qE_field P ρ hg base s x f)
  | .indexAddr t x i => toE (qE_indexAddr P ρ hg base t x i)
  | .index t x i => toE (qE_index P ρ hg base t x i)
  | .convert s t x => toE (qE_convert P ρ hg base s t x)
  | .build t parts => toE (qE_build P ρ hg base t parts)
  | .binOp op t x y _ => toE (qE_binOp P ρ hg base op t x y)
  | .unOp u _ x => toE (qE_unf P ρ hg base u x)
  | .slice t x lo hi mx => toE (qE_slicef P ρ hg base t x lo hi mx)
  | .typeAssert x _ t b => match b with | true => toE (qE_typeAssert P ρ hg base x t) | false => none
  | _ => none

theorem toE_map (q : QR) : toE q = q.map fun p => { val := p.1, rd := p.2 } := by cases q <;> rfl
theorem mEf_eq (P : Program) (ρ : Operand → V) (hg : Nat → Option Blk) (base : Nat) (op : Op) : mEf P ρ hg base op = mE P ρ hg base op := by
  cases op with
  | makeMap t r => cases r <;> rfl
  | next it b => cases b <;> rfl
  | unOp u t x => cases u <;> first | exact toE_map _ | rfl
  | slice t x lo hi mx => cases mx with
    | none => exact toE_map _
    | some m => cases lo <;> cases hi <;> first | exact toE_map _ | rfl
  | typeAssert x a t b => cases b with
    | true => exact toE_map _
    | false => rfl
  | call c =>
    obtain ⟨callee, args, ts⟩ := c
    cases callee with
    | builtin b => cases b <;> first | rfl | exact toE_map _
    | _ => rfl
  | _ => first | rfl | exact toE_map _

def rowArg : Op → Option Operand
  | .store _ _ y => some y
  | .call { callee := .builtin .append, args := args, argTypes := _ } => args[1]?
  | _ => none
def stepE (P : Program) (tm : List (Nat × V)) (hp : List (Nat × Blk)) (base : Nat) (op : Op) : Option Eff :=
  match mEf P (evalV tm) (hget hp) base op with
  | some e => some e
  | none => match rowArg op with
    | some y => match frzV 1000 hp (evalV tm y) with
      | some (F, rd) => match mEf P (evalV tm) (hget (hsets hp F)) base op with
        | some e => some { val := e.val, wr := happ F e.wr, nw := e.nw, rd := napp rd e.rd }
        | none => none
      | none => none
    | none => none
end Go.Bv

namespace Go.Bv
variable {P : Program} {ρ : Operand → V} {hg : Nat → Option Blk}

theorem QOK.of {op : Op} {v : V} {rd : List Nat} {ob : Prop} (h : QOK P ρ hg op ⟨v, rd, ob⟩) (hob : ob) : QOK P ρ hg op ⟨v, rd, True⟩ :=
  fun g ρc w o ho hcst hr hbl hm _ => h g ρc w o ho hcst hr hbl hm hob

theorem intBinE_ok {op : BinOp} {k : IntKind} {a b : Int} {d : D} (h : intBinE op k a b = some d) : ∃ ob, intBin op k a b = some (d, ob) ∧ ob := by
  cases op <;> simp only [intBinE] at h <;> (try split at h) <;> first
    | (cases h; refine ⟨_, rfl, ?_⟩; first | trivial | assumption)
    | cases h
theorem strBinE_ok {op : BinOp} {a b : List UInt8} {d : D} (h : strBinE op a b = some d) : ∃ ob, strBin op a b = some (d, ob) ∧ ob := by
  cases op <;> simp only [strBinE] at h <;> (try split at h) <;> first
    | (cases h; refine ⟨_, rfl, ?_⟩; first | trivial | assumption)
    | cases h

theorem binE_ok {op : BinOp} {t : TypeId} {x y : Operand} {yt : TypeId} {v : V} {rd : List Nat} (h : binE P op t x y hg (ρ x) (ρ y) = some (v, rd)) : QOK P ρ hg (.binOp op t x y yt) ⟨v, rd, True⟩ := by
  generalize hx : ρ x = a at h
  generalize hy : ρ y = b at h
  unfold binE at h
  split at h
  · rename_i k m k' n
    split at h
    · obtain ⟨d, hd, he⟩ := Option.map_eq_some_iff.1 h
      cases he
      obtain ⟨ob, h1, h2⟩ := intBinE_ok hd
      exact (q_bin_shift .shl t yt x y k k' m n d ob (.inl rfl) hx hy h1).of h2
    · obtain ⟨d, hd, he⟩ := Option.map_eq_some_iff.1 h
      cases he
      obtain ⟨ob, h1, h2⟩ := intBinE_ok hd
      exact (q_bin_shift .shr t yt x y k k' m n d ob (.inr rfl) hx hy h1).of h2
    · split at h
      · rename_i hk
        subst hk
        obtain ⟨d, hd, he⟩ := Option.map_eq_some_iff.1 h
        cases he
        obtain ⟨ob, h1, h2⟩ := intBinE_ok hd
        exact (q_bin_int op t yt x y k m n d ob hx hy h1).of h2
      · cases h
  · obtain ⟨d, hd, he⟩ := Option.map_eq_some_iff.1 h
    cases he
    obtain ⟨ob, h1, h2⟩ := strBinE_ok hd
    exact (q_bin_str op t yt x y _ _ d ob hx hy h1).of h2
  · split at h
    · rename_i ht
      cases h
      exact q_bin_bool .eql t yt x y _ _ _ ht hx hy (.inl ⟨rfl, rfl⟩)
    · rename_i ht
      cases h
      exact q_bin_bool .neq t yt x y _ _ _ ht hx hy (.inr ⟨rfl, rfl⟩)
    · cases h
  · rename_i id n _ _
    split at h
    · rename_i z sz fz nil es ht hb
      cases h; exact (q_eql_nil_sref t yt x _ _ _ _ _ _ ht hx hb).1
    · rename_i z sz fz nil es ht hb
      cases h; exact (q_eql_nil_sref t yt x _ _ _ _ _ _ ht hx hb).2
    · cases h
  · split at h
    · rename_i z k hk
      split at h
      · rename_i hz
        split at h
        · rename_i k' b' hn
          split at h
          · rename_i hkk
            subst hkk
            split at h
            · cases h; exact q_eql_nil t yt x z _ b' hk (by rw [hx]; exact hn) hz
            · cases h; exact q_neq_nil t yt x z _ b' hk (by rw [hx]; exact hn) hz
            · cases h
          · cases h
        · cases h
      · cases h
    · cases h

theorem q_cap {x : Operand} {t e n : Nat} (ht : elemOf' P t = some e) (hx : (∃ es, ρ x = .d (.slice true es) ∧ n = 0) ∨ (∃ b, ρ x = .emp0 b ∧ n = 0) ∨ ∃ id sz off len, ρ x = .bsl id sz off len n) :
    QOK P ρ hg (.call { callee := .builtin .cap, args := #[x], argTypes := #[t] }) ⟨.d (.int .i64 (n : Int)), [], True⟩ := fun g ρc w o ho hcst hr _ _ _ => by
  have h := hr x (by simp [Op.operands, Call.operands])
  have hc : ∃ a m, ρc x = .slice a m n := by
    rcases hx with ⟨es, hx, rfl⟩ | ⟨b, hx, rfl⟩ | ⟨id, sz, off, len, hx⟩
    · rw [hx] at h; generalize ρc x = c at h; cases h with | d h => cases h; exact ⟨_, _, rfl⟩
    · rw [hx] at h; generalize ρc x = c at h; cases h <;> exact ⟨_, _, rfl⟩
    · rw [hx] at h; generalize ρc x = c at h; cases h; exact ⟨_, _, rfl⟩
  obtain ⟨a, m, hc⟩ := hc
  refine ⟨.int .i64 (n : Int), ?_, .d (.int _ _)⟩
  obtain ⟨cs, hcs⟩ := exec_builtin (P := P) ρc o .cap #[x] #[t] ho w
  rw [hcs]
  simp [builtin, hc, Builtin.cap_, run_underlying (under_slice ht), goInt]

theorem arr2 {α : Type} {a : Array α} {x y : α} (h : a.toList = [x, y]) : a = #[x, y] := by cases a; simp at h; rw [h]
theorem arr1 {α : Type} {a : Array α} {x : α} (h : a.toList = [x]) : a = #[x] := by cases a; simp at h; rw [h]

theorem qE_ok {op : Op} {v : V} {rd : List Nat} (h : qE P ρ hg op = some (v, rd)) : QOK P ρ hg op ⟨v, rd, True⟩ := by
  unfold qE at h
  split at h
  · cases h; exact q_move _
  · cases h; exact q_assign _
  · split at h
    · rename_i c x y b hc; cases h; exact q_pick _ _ _ _ hc
    · cases h
  · split at h
    · rename_i x i vs hx
      obtain ⟨v', hv, he⟩ := Option.map_eq_some_iff.1 h
      cases he; exact q_extract _ _ _ _ hx hv
    · cases h
  · cases h; exact q_makeFunc _ _ _
  · split at h
    · rename_i ht; cases h; exact q_makeInterface _ _ ht
    · cases h
  · split at h
    · rename_i hp; cases h; exact q_nilCheck _ hp
    · split at h
      · rename_i f a c hx; cases h; exact q_nilCheck_fn _ _ _ _ hx
      · cases h
  ·
    split at h
    · cases h
    · rename_i ag hag
      split at h
      · rename_i id off hx
        split at h
        · rename_i fz cs hb
          obtain ⟨v', hv, he⟩ := Option.map_eq_some_iff.1 h
          cases he; exact q_load_ptr _ _ _ _ _ _ _ _ hx hb hag hv
        · cases h
      · rename_i e off hx
        obtain ⟨v', hv, he⟩ := Option.map_eq_some_iff.1 h
        cases he; exact q_load_eptr _ _ _ _ _ _ hx hag hv
      · rename_i id sz i off hx
        split at h
        · rename_i sz' fz nil es hb
          split at h
          · rename_i hc
            obtain ⟨rfl, hi⟩ := hc
            obtain ⟨v', hv, he⟩ := Option.map_eq_some_iff.1 h
            cases he; exact (q_load_rptr _ _ _ _ _ _ _ _ _ _ _ hx hb hag hv).of hi
          · cases h
        · cases h
      · rename_i m off hx
        split at h
        · rename_i e he'
          obtain ⟨v', hv, he⟩ := Option.map_eq_some_iff.1 h
          cases he; exact q_load_glo _ _ _ _ _ _ _ hx he' hag hv
        · cases h
      · cases h
  · split at h
    · rename_i fo ft hf
      split at h
      · rename_i hz
        obtain ⟨v', hv, he⟩ := Option.map_eq_some_iff.1 h
        cases he; exact q_fieldAddr _ _ _ _ _ _ hf hz hv
      · cases h
    · cases h
  · split at h
    · rename_i fo ft hf
      split at h
      · rename_i ag vs hag hx
        obtain ⟨v', hv, he⟩ := Option.map_eq_some_iff.1 h
        cases he; exact q_field _ _ _ _ _ _ _ _ hf hag hx hv
      · cases h
    · cases h
  ·
    split at h
    · rename_i k n hi
      split at h
      · rename_i m e ht
        split at h
        · rename_i hc
          obtain ⟨h1, h2, h3⟩ := hc
          obtain ⟨v', hv, he⟩ := Option.map_eq_some_iff.1 h
          cases he; exact (q_index_arr _ _ _ _ _ _ _ _ ht h3 hi hv).of ⟨h1, h2⟩
        · cases h
      · split at h
        · rename_i e ht
          split at h
          · rename_i hz
            split at h
            · rename_i nil es hx
              split at h
              · rename_i hc; cases h; exact (q_index_d _ _ _ _ _ _ _ _ ht hz hx hi).of hc
              · cases h
            · rename_i id len hx
              split at h
              · rename_i hc; cases h; exact (q_index_sref _ _ _ _ _ _ _ _ ht hz hx hi).of hc
              · cases h
            · rename_i id sz off len hx
              split at h
              · rename_i hc; cases h; exact (q_index_ssub _ _ _ _ _ _ _ _ _ _ ht hz hx hc.1 hi).of hc.2
              · cases h
            · rename_i id sz off len cap hx
              split at h
              · rename_i hc; cases h; exact (q_index_bsl _ _ _ _ _ _ _ _ _ _ _ ht hz hx hc.1 hi).of hc.2
              · cases h
            · cases h
          · cases h
        · cases h
    · cases h
  · split at h
    · rename_i l k n hx hi
      split at h
      · rename_i hc; cases h; exact (q_index_str _ _ _ _ _ _ hc.1 hx hi).of hc.2
      · cases h
    · cases h
  ·
    split at h
    · rename_i s hx
      split at h
      · rename_i l hh hl hhh
        split at h
        · rename_i hc; cases h; exact (q_slice_str _ _ _ _ _ _ _ hc.1 hx hl hhh).of hc.2
        · cases h
      · cases h
    · rename_i nil es hx
      split at h
      · rename_i e l hh ht hl hhh
        split at h
        · rename_i hc
          obtain ⟨h1, h2, h3, h4, h5⟩ := hc
          cases h
          exact (q_slice_d _ _ _ _ _ _ _ _ _ ht h1 hx hl hhh).of ⟨h2, h3, h4, fun y hy => by have := List.all_eq_true.1 h5 y hy; simpa using this⟩
        · cases h
      · cases h
    · rename_i id len hx
      split at h
      · rename_i e l hh ht hl hhh
        split at h
        · rename_i hc; cases h; exact (q_slice_sref _ _ _ _ _ _ _ _ _ ht hc.1 hx hl hhh).of hc.2
        · cases h
      · cases h
    · rename_i id sz off len hx
      split at h
      · rename_i e l hh ht hl hhh
        split at h
        · rename_i hc; cases h; exact (q_slice_ssub _ _ _ _ _ _ _ _ _ _ _ ht hc.2.1 hx hc.1 hl hhh).of hc.2.2
        · cases h
      · cases h
    · rename_i id sz off len cap hx
      split at h
      · rename_i e l hh ht hl hhh
        split at h
        · rename_i hc; cases h; exact (q_slice_bsl _ _ _ _ _ _ _ _ _ _ _ _ ht hc.2.1 hx hc.1 hl hhh).of hc.2.2
        · cases h
      · cases h
    · cases h
  · split at h
    · rename_i k1 k2 e hh hm ht
      split at h
      · rename_i hz
        split at h
        · rename_i nil es hx; cases h; exact q_slice_00 _ _ _ _ _ _ _ _ _ ht hz hx hh hm
        · rename_i id len hx
          split at h
          · rename_i sz fz nil es hb; cases h; exact q_slice_00_sref _ _ _ _ _ _ _ _ _ _ _ _ _ ht hz hx hb hh hm
          · cases h
        · cases h
      · cases h
    · cases h
  · exact binE_ok h
  · split at h
    · rename_i b hx; cases h; exact q_not _ _ _ hx
    · cases h
  · split at h
    · rename_i k n hx; cases h; exact q_neg _ _ _ _ hx
    · cases h
  · split at h
    · rename_i k n hx; cases h; exact q_compl _ _ _ _ hx
    · cases h
  · split at h
    · rename_i k n hx
      split at h
      · rename_i k' ht
        split at h
        · rename_i hs; cases h; exact q_conv_int _ _ _ _ _ _ hs ht hx
        · cases h
      · split at h
        · rename_i hc
          obtain ⟨h1, h2⟩ := hc
          obtain ⟨k', hk'⟩ := Option.isSome_iff_exists.1 h2
          cases h; exact q_conv_runestr _ _ _ _ _ _ hk' h1 hx
        · cases h
    · rename_i l hx
      split at h
      · rename_i hc; cases h; exact q_conv_str _ _ _ _ hc.1 hc.2 hx
      · cases h
    · cases h
  · split at h
    · rename_i t' v' ht hx
      split at h
      · rename_i he; subst he; cases h; exact q_assert_yes _ _ _ _ ht hx
      · rename_i hne
        split at h
        · rename_i z hz; cases h; exact q_assert_no _ _ _ _ _ _ ht hz hx (by simpa using hne)
        · cases h
    · cases h
  · split at h
    · rename_i z place hz hp
      split at h
      · rename_i cs hcs
        obtain ⟨cs', hf, he⟩ := Option.map_eq_some_iff.1 h
        cases he; exact q_build _ _ _ _ _ _ hz hp hcs hf
      · cases h
    · cases h
  · split at h
    · rename_i x t ha ht'
      rw [arr1 ha, arr1 ht']
      split at h
      · rename_i l hx
        split at h
        · rename_i hs; cases h; exact q_len_str _ _ _ hx hs
        · cases h
      · rename_i id hx
        split at h
        · rename_i c0 es kt hb hm; cases h; exact q_len_map _ _ _ _ _ _ hx _ hb hm
        · cases h
      · split at h
        · rename_i n e hn he; cases h; exact q_len_slice _ _ _ _ hn he
        · cases h
    · cases h
  · split at h
    · rename_i x t ha ht'
      rw [arr1 ha, arr1 ht']
      split at h
      · rename_i e es he hx; cases h; exact q_cap (n := 0) he (.inl ⟨_, hx, rfl⟩)
      · rename_i e b he hx; cases h; exact q_cap (n := 0) he (.inr (.inl ⟨_, hx, rfl⟩))
      · rename_i e id sz off len cap he hx; cases h; exact q_cap he (.inr (.inr ⟨_, _, _, _, hx⟩))
      · cases h
    · cases h
  · split at h
    · rename_i x y ha
      rw [arr2 ha]
      split at h
      · rename_i k a k' b hx hy
        split at h
        · rename_i hk; subst hk; cases h; exact q_min2 _ _ _ _ _ _ hx hy
        · cases h
      · cases h
    · cases h
  · split at h
    · rename_i x y ha
      rw [arr2 ha]
      split at h
      · rename_i k a k' b hx hy
        split at h
        · rename_i hk; subst hk; cases h; exact q_max2 _ _ _ _ _ _ hx hy
        · cases h
      · cases h
    · cases h
  · cases h
end Go.Bv

namespace Go.Bv
variable {P : Program} {ops : Array Oper} {o : Oper} {T : VS}

theorem bytes_beq (a b : List UInt8) : ((⟨a.toArray⟩ : ByteArray) == ⟨b.toArray⟩) = decide (a = b) := by
  show (a.toArray == b.toArray) = _
  by_cases h : a = b
  · subst h; simp
  · simp [h]

theorem eq_plain {w : World} {M : Nat → Nat → Option Value} {t : TypeId} {d : TypeDesc} {x y : D} {c c' : Value} {r : Bool} (ht : P.underlying t = some d) (hk : kindOK d x = true) (hx : RelD M x c) (hy : RelD M y c') (he : eqD x y = some r) (n : Nat) :
    (Op.equalIn (n + 1) t c c').run P w = .ok r w := by
  cases x <;> cases y <;> simp only [eqD] at he <;> (try cases he)
  · cases hx; cases hy; cases d <;> simp [kindOK] at hk
    simp [Op.equalIn, run_underlying ht]
  · split at he
    · rename_i k a k' b hkk
      subst hkk
      cases he
      cases hx; cases hy; cases d <;> simp [kindOK] at hk
      rw [run_equalIn_int w n t _ _ _ _ ht]
      congr 1
    · cases he
  · rename_i a b
    cases hx; cases hy; cases d <;> simp [kindOK] at hk
    simp only [Op.equalIn, Sem.run_bind, run_underlying ht, Result.andThen_ok, Sem.run_pure, bytes_beq]
theorem now_plain {M : Nat → Nat → Option Value} {d : TypeDesc} {x y : D} {c c' : Value} {r : Bool} (hk : kindOK d x = true) (hx : RelD M x c) (hy : RelD M y c') (he : eqD x y = some r) : Instr.sameNow d c c' = some r := by
  cases x <;> cases y <;> simp only [eqD] at he <;> (try cases he)
  · cases hx; cases hy; cases d <;> simp [kindOK] at hk
    simp [Instr.sameNow]
  · split at he
    · rename_i k a k' b hkk
      subst hkk
      cases he
      cases hx; cases hy; cases d <;> simp [kindOK] at hk
      simp only [Instr.sameNow, if_pos rfl]
      congr 1
    · cases he
  · rename_i a b
    cases hx; cases hy; cases d <;> simp [kindOK] at hk
    simp only [Instr.sameNow, bytes_beq]
theorem chk_plain {w : World} {M : Nat → Nat → Option Value} {t : TypeId} {d : TypeDesc} {x : D} {c : Value} (ht : P.underlying t = some d) (hk : kindOK d x = true) (hx : RelD M x c) (em : Bool) (n : Nat) : (Instr.checkKey em (n + 1) t c).run P w = .ok () w := by
  cases x <;> cases d <;> simp [kindOK] at hk <;> cases hx <;> simp [Instr.checkKey, run_underlying ht]

theorem plain_notAgg {t : TypeId} {d : TypeDesc} {x : D} (ht : P.underlying t = some d) (hk : kindOK d x = true) : aggOf P t = some false := by
  unfold aggOf
  rw [ht]
  cases d <;> cases x <;> simp [kindOK] at hk <;> rfl
theorem run_part1 {w : World} {t : TypeId} {cs : Array Value} {off : Nat} {c : Value} (ha : aggOf P t = some false) (hc : cs[off]? = some c) : (part t cs off).run P w = .ok c w := by
  unfold part
  rw [Sem.run_bind, run_isAgg' ha]
  simp [hc]

theorem flds_eq {w : World} {g : Gh} {cs cs' : Array Value} : ∀ (fs : List Field) (i : Nat) (vs vs' : List V) (r : Bool), fldsOK P i fs vs = true → eqDs vs vs' = some r →
    (∀ (j : Nat) (v : V), vs[j]? = some v → ∃ c, cs[i + j]? = some c ∧ RelV g v c) → (∀ (j : Nat) (v : V), vs'[j]? = some v → ∃ c, cs'[i + j]? = some c ∧ RelV g v c) → ∀ n, (Op.eqFields (n + 1) cs cs' fs).run P w = .ok r w := by
  intro fs
  induction fs with
  | nil =>
    intro i vs vs' r hf he h1 h2 n
    cases vs with
    | nil => cases vs' with
      | nil => simp only [eqDs, Option.some.injEq] at he; subst he; simp [Op.eqFields]
      | cons => simp [eqDs] at he
    | cons v vs => cases v <;> simp [fldsOK] at hf
  | cons f fs ih =>
    intro i vs vs' r hf he h1 h2 n
    cases vs with
    | nil => simp [fldsOK] at hf
    | cons v vs =>
      cases v with
      | d x =>
        simp only [fldsOK, Bool.and_eq_true, beq_iff_eq, bne_iff_ne] at hf
        obtain ⟨⟨⟨hoff, hname⟩, hd⟩, hrest⟩ := hf
        cases vs' with
        | nil => simp [eqDs] at he
        | cons v' vs' =>
          cases v' with
          | d y =>
            simp only [eqDs] at he
            split at he
            · rename_i r1 r2 he1 he2
              cases he
              split at hd
              · rename_i d hdd
                obtain ⟨c, hc, hrc⟩ := h1 0 (.d x) rfl
                obtain ⟨c', hc', hrc'⟩ := h2 0 (.d y) rfl
                simp only [Nat.add_zero] at hc hc'
                have hag := plain_notAgg hdd hd
                simp only [Op.eqFields, ne_eq, hname, not_false_eq_true, if_true, Sem.run_bind, run_part1 hag (show cs[f.offset]? = some c by rw [hoff]; exact hc), run_part1 hag (show cs'[f.offset]? = some c' by rw [hoff]; exact hc'), Result.andThen_ok,
                  eq_plain hdd hd (relV_d hrc) (relV_d hrc') he1 n]
                have hrec := ih (i + 1) vs vs' r2 hrest he2 (fun j v hj => by rw [show i + 1 + j = i + (j + 1) from by omega]; exact h1 (j + 1) v (by simpa using hj)) (fun j v hj => by rw [show i + 1 + j = i + (j + 1) from by omega]; exact h2 (j + 1) v (by simpa using hj)) n
                cases r1 with
                | false => simp
                | true => simpa using hrec
              · cases hd
            · cases he
          | _ => simp [eqDs] at he
      | _ => simp [fldsOK] at hf

theorem fields_chk {w : World} {g : Gh} {cs : Array Value} (em : Bool) (n : Nat) : ∀ (fs : List Field) (i : Nat) (vs : List V), fldsOK P i fs vs = true → (∀ (j : Nat) (v : V), vs[j]? = some v → ∃ c, cs[i + j]? = some c ∧ RelV g v c) →
    ((forIn fs PUnit.unit fun f _ => do
        if f.name ≠ "_" then do
          let v ← part f.type cs f.offset
          Instr.checkKey em (n + 1) f.type v
          pure (ForInStep.yield PUnit.unit)
        else pure (ForInStep.yield PUnit.unit)) : Sem PUnit).run P w = .ok PUnit.unit w := by
  intro fs
  induction fs with
  | nil => intro i vs _ _; simp
  | cons f fs ih =>
    intro i vs hf h1
    cases vs with
    | nil => simp [fldsOK] at hf
    | cons v vs =>
      cases v with
      | d x =>
        simp only [fldsOK, Bool.and_eq_true, beq_iff_eq, bne_iff_ne] at hf
        obtain ⟨⟨⟨hoff, hname⟩, hd⟩, hrest⟩ := hf
        split at hd
        · rename_i d hdd
          obtain ⟨c, hc, hrc⟩ := h1 0 (.d x) rfl
          simp only [Nat.add_zero] at hc
          have hag := plain_notAgg hdd hd
          have hrec := ih (i + 1) vs hrest (fun j v hj => by rw [show i + 1 + j = i + (j + 1) from by omega]; exact h1 (j + 1) v (by simpa using hj))
          rw [List.forIn_cons]
          simp only [ne_eq, hname, not_false_eq_true, if_true, Sem.run_bind, run_part1 hag (show cs[f.offset]? = some c by rw [hoff]; exact hc), Result.andThen_ok, chk_plain hdd hd (relV_d hrc) em n, Sem.run_pure]
          exact hrec
        · cases hd
      | _ => simp [fldsOK] at hf

theorem chk_ok {w : World} {g : Gh} {kt : TypeId} {v : V} {c : Value} (hk : keyOK P kt v = true) (hv : RelV g v c) (em : Bool) : (Instr.checkKey em 10000 kt c).run P w = .ok () w := by
  cases v with
  | d x =>
    simp only [keyOK] at hk
    split at hk
    · rename_i d hd; exact chk_plain hd hk (relV_d hv) em 9999
    · cases hk
  | agg vs =>
    simp only [keyOK] at hk
    split at hk
    · rename_i fs hu
      simp only [Bool.and_eq_true] at hk
      cases hv with
      | agg _ cs h1 h2 =>
        have := fields_chk (P := P) (w := w) (g := g) (cs := cs) em 9998 fs.toList 0 vs hk.2 (fun j v hj => by
          have hl := (List.getElem?_eq_some_iff.1 hj).1
          have hc : cs[j]? = some cs[j] := Array.getElem?_eq_getElem (by omega)
          exact ⟨cs[j], by rw [Nat.zero_add]; exact hc, h2 j v _ hj hc⟩)
        unfold Instr.checkKey
        rw [Sem.run_bind, run_underlying hu]
        simp only [Result.andThen_ok]
        rw [← Array.forIn_toList]
        simpa using this
    · cases hk
  | _ => simp [keyOK] at hk
end Go.Bv

namespace Go.Bv
variable {P : Program} {ops : Array Oper} {o : Oper} {T : VS}

theorem eq_agg {w : World} {g : Gh} {kt : TypeId} {vs vs' : List V} {c c' : Value} {r : Bool} (hk : keyOK P kt (.agg vs) = true) (hv : RelV g (.agg vs) c) (hv' : RelV g (.agg vs') c') (he : eqDs vs vs' = some r) : (Op.equal kt c c').run P w = .ok r w := by
  simp only [keyOK] at hk
  split at hk
  · rename_i fs hu
    simp only [Bool.and_eq_true, Bool.not_eq_true'] at hk
    cases hv with
    | agg _ cs h1 h2 =>
      cases hv' with
      | agg _ cs' h3 h4 =>
        have hfs : P.fieldsOf kt = fs := by simp [Program.fieldsOf, hu]
        show (Op.equalIn 10000 kt (.agg cs) (.agg cs')).run P w = _
        rw [run_equalIn_agg w 9999 kt cs cs' (by rw [hfs]; exact hu) hk.1, hfs]
        exact flds_eq (g := g) fs.toList 0 vs vs' r hk.2 he (fun j v hj => by
          have hl := (List.getElem?_eq_some_iff.1 hj).1
          have hc : cs[j]? = some cs[j] := Array.getElem?_eq_getElem (by omega)
          exact ⟨cs[j], by rw [Nat.zero_add]; exact hc, h2 j v _ hj hc⟩) (fun j v hj => by
          have hl := (List.getElem?_eq_some_iff.1 hj).1
          have hc : cs'[j]? = some cs'[j] := Array.getElem?_eq_getElem (by omega)
          exact ⟨cs'[j], by rw [Nat.zero_add]; exact hc, h4 j v _ hj hc⟩) 9998
  · cases hk

def Found (r : Option (Nat × V)) (i0 : Nat) (es : List (V × V)) (ents : List MapEntry) (a : Option (Nat × Value)) : Prop :=
  match r with
  | none => a = none
  | some (i, v) => ∃ (j : Nat) (k : V) (e : MapEntry), i = i0 + j ∧ es[j]? = some (k, v) ∧ ents[j]? = some e ∧ a = some (i, e.val)

theorem find_now {g : Gh} {d : TypeDesc} {x : D} {c : Value} (hk : kindOK d x = true) (hx : RelV g (.d x) c) : ∀ (es : List (V × V)) (ents : List MapEntry) (i0 : Nat) (r : Option (Nat × V)), ents.length = es.length →
    (∀ (i : Nat) (kv : V × V) (e : MapEntry), es[i]? = some kv → ents[i]? = some e → RelV g kv.1 e.key) → findK (.d x) es i0 = some r → ∃ a, Instr.findNow d c ents i0 = some a ∧ Found r i0 es ents a := by
  intro es
  induction es with
  | nil =>
    intro ents i0 r hl _ hf
    have : ents = [] := List.eq_nil_of_length_eq_zero (by simpa using hl)
    subst this
    simp only [findK, Option.some.injEq] at hf
    subst hf
    exact ⟨none, rfl, rfl⟩
  | cons p es ih =>
    intro ents i0 r hl hr hf
    obtain ⟨k', v⟩ := p
    cases ents with
    | nil => simp at hl
    | cons e ents =>
      have h0 := hr 0 (k', v) e rfl rfl
      have hr' : ∀ (i : Nat) (kv : V × V) (e : MapEntry), es[i]? = some kv → ents[i]? = some e → RelV g kv.1 e.key := fun i kv e h1 h2 => hr (i + 1) kv e (by simpa using h1) (by simpa using h2)
      simp only [findK] at hf
      cases k' with
      | d y =>
        simp only [keyEq] at hf
        split at hf
        · rename_i he
          cases hf
          refine ⟨some (i0, e.val), ?_, 0, .d y, e, rfl, rfl, rfl, rfl⟩
          simp only [Instr.findNow, now_plain hk (relV_d hx) (relV_d h0) he]
        · rename_i he
          obtain ⟨a, h1, h2⟩ := ih ents (i0 + 1) r (by simpa using hl) hr' hf
          refine ⟨a, by simp only [Instr.findNow, now_plain hk (relV_d hx) (relV_d h0) he]; exact h1, ?_⟩
          cases r with
          | none => exact h2
          | some q =>
            obtain ⟨i, v'⟩ := q
            obtain ⟨j, k, e', h3, h4, h5, h6⟩ := h2
            exact ⟨j + 1, k, e', by omega, by simpa using h4, by simpa using h5, h6⟩
        · cases hf
      | _ => simp [keyEq] at hf
theorem find_ask {w : World} {g : Gh} {kt : TypeId} {vs : List V} {c : Value} (hk : keyOK P kt (.agg vs) = true) (hx : RelV g (.agg vs) c) : ∀ (es : List (V × V)) (ents : List MapEntry) (i0 : Nat) (r : Option (Nat × V)), ents.length = es.length →
    (∀ (i : Nat) (kv : V × V) (e : MapEntry), es[i]? = some kv → ents[i]? = some e → RelV g kv.1 e.key) → findK (.agg vs) es i0 = some r → ∃ a, (Instr.findAsking kt c ents i0).run P w = .ok a w ∧ Found r i0 es ents a := by
  intro es
  induction es with
  | nil =>
    intro ents i0 r hl _ hf
    have : ents = [] := List.eq_nil_of_length_eq_zero (by simpa using hl)
    subst this
    simp only [findK, Option.some.injEq] at hf
    subst hf
    exact ⟨none, rfl, rfl⟩
  | cons p es ih =>
    intro ents i0 r hl hr hf
    obtain ⟨k', v⟩ := p
    cases ents with
    | nil => simp at hl
    | cons e ents =>
      have h0 := hr 0 (k', v) e rfl rfl
      have hr' : ∀ (i : Nat) (kv : V × V) (e : MapEntry), es[i]? = some kv → ents[i]? = some e → RelV g kv.1 e.key := fun i kv e h1 h2 => hr (i + 1) kv e (by simpa using h1) (by simpa using h2)
      simp only [findK] at hf
      cases k' with
      | agg ws =>
        simp only [keyEq] at hf
        split at hf
        · rename_i he
          cases hf
          refine ⟨some (i0, e.val), ?_, 0, .agg ws, e, rfl, rfl, rfl, rfl⟩
          simp only [Instr.findAsking, Sem.run_bind, eq_agg hk hx h0 he, Result.andThen_ok, if_true, Sem.run_pure]
        · rename_i he
          obtain ⟨a, h1, h2⟩ := ih ents (i0 + 1) r (by simpa using hl) hr' hf
          refine ⟨a, ?_, ?_⟩
          · simp only [Instr.findAsking, Sem.run_bind, eq_agg hk hx h0 he, Result.andThen_ok, Bool.false_eq_true, if_false]; exact h1
          · cases r with
            | none => exact h2
            | some q =>
              obtain ⟨i, v'⟩ := q
              obtain ⟨j, k, e', h3, h4, h5, h6⟩ := h2
              exact ⟨j + 1, k, e', by omega, by simpa using h4, by simpa using h5, h6⟩
        · cases hf
      | _ => simp [keyEq] at hf

theorem find_ok {w : World} {g : Gh} {kt : TypeId} {k : V} {c : Value} (hk : keyOK P kt k = true) (hx : RelV g k c) {es : List (V × V)} {ents : List MapEntry} {r : Option (Nat × V)} (hl : ents.length = es.length)
    (hr : ∀ (i : Nat) (kv : V × V) (e : MapEntry), es[i]? = some kv → ents[i]? = some e → RelV g kv.1 e.key) (hf : findK k es 0 = some r) : ∃ a, (Instr.findKey kt c ents).run P w = .ok a w ∧ Found r 0 es ents a := by
  cases k with
  | d x =>
    have hk' := hk
    simp only [keyOK] at hk'
    split at hk'
    · rename_i d hd
      obtain ⟨a, h1, h2⟩ := find_now hk' hx es ents 0 r hl hr hf
      refine ⟨a, ?_, h2⟩
      unfold Instr.findKey
      rw [Sem.run_bind, run_underlying hd]
      simp only [Result.andThen_ok, h1]
      rfl
    · cases hk'
  | agg vs =>
    have hk' := hk
    simp only [keyOK] at hk'
    split at hk'
    · rename_i fs hu
      obtain ⟨a, h1, h2⟩ := find_ask (w := w) hk hx es ents 0 r hl hr hf
      unfold Instr.findKey
      rw [Sem.run_bind, run_underlying hu]
      simp only [Result.andThen_ok]
      cases ents with
      | nil =>
        have h3 : a = none := by
          simp only [Instr.findAsking, Sem.run_pure] at h1
          cases h1; rfl
        subst h3
        exact ⟨none, rfl, h2⟩
      | cons e es' =>
        refine ⟨a, ?_, h2⟩
        have : Instr.findNow (.struct fs) c (e :: es') 0 = none := by
          simp only [Instr.findNow]
          have : Instr.sameNow (.struct fs) c e.key = none := by
            generalize e.key = ek
            cases c <;> cases ek <;> rfl
          rw [this]
        rw [this]
        exact h1
    · cases hk'
  | _ => simp [keyOK] at hk

theorem run_getMap {w : World} {k : Nat} {ents : Array MapEntry} {c : Nat} (h : w.heap[k]? = some (.map ents c)) : (getObj k).run P w = .ok (.map ents c) w := by simp [getObj, Sem.run, h]

theorem step_makeMap {id : Nat} {t kt et : TypeId} {r : Option Operand} (ho : o.op = .makeMap t r) (hr : r = none) (hd : ∀ d, o.dst = some d → d < T.N) (ht : mapOf P t = some (kt, et)) :
    StepOK P ops o { val := .mapr id, nw := [(id, .map 0 [])] } T :=
  StepOK.of_val hd (fun c => by rw [ho]; exact fun e => by cases e) fun s ha E g a w hna hi hr' => by
    have hf := ha.fresh id (by simp [It.nw, pfst])
    subst hr
    refine ⟨.map (some w.heap.size), _, _, ?_, .mapr (Gh.bind_β g id w.heap.size none), hi.alloc hf hna (.map #[] 0) (.map 0 []) none ⟨w.heap.size, #[], Gh.bind_β _ _ _ _, heap_alloc_new _ _, rfl, fun i kv e h _ => by simp at h⟩⟩
    unfold execOp; rw [ho]
    simp [Instr.makeMap]

theorem q_lookup {ρ : Operand → V} {hg : Nat → Option Blk} {t kt et : TypeId} {x k : Operand} {ok : Bool} {id c0 : Nat} {es : List (V × V)} {r : Option (Nat × V)} {v : V} (ht : mapOf P t = some (kt, et)) (hx : ρ x = .mapr id) (hb : hg id = some (.map c0 es))
    (hk : keyOK P kt (ρ k) = true) (hf : findK (ρ k) es 0 = some r) (hv : (∃ i, r = some (i, v)) ∨ (r = none ∧ ∃ z, zeroOf P et = some z ∧ v = constV z)) :
    QOK P ρ hg (.lookup t x k ok) ⟨if ok then .tup [v, .d (.bool r.isSome)] else v, [id], True⟩ := fun g ρc w o ho hcst hr hbl hm _ => by
  have hxr := hr x (by simp [Op.operands])
  have hkr := hr k (by simp [Op.operands])
  rw [hx] at hxr
  generalize hc : ρc x = c at hxr
  cases hxr with
  | @mapr _ kk hkk =>
    obtain ⟨k2, ents, h1, h2, h3, h4⟩ := hbl id (by simp) _ hb
    rw [hkk] at h1; cases h1
    obtain ⟨a, h5, h6⟩ := find_ok (w := w) hk hkr (es := es) (ents := ents.toList) (by simpa using h3) (fun i kv e h7 h8 => (h4 i kv e h7 (by simpa using h8)).1) hf
    have hchk := chk_ok (w := w) hk hkr ents.isEmpty
    have hval : ∃ cv, ((match a with | some (_, v) => (pure (v, true) : Sem (Value × Bool)) | none => do pure (← zeroValue et, false)) : Sem (Value × Bool)).run P w = .ok (cv, r.isSome) w ∧ RelV g v cv := by
      rcases hv with ⟨i, rfl⟩ | ⟨rfl, z, hz, rfl⟩
      · obtain ⟨j, k', e, h7, h8, h9, rfl⟩ := h6
        exact ⟨e.val, rfl, (h4 j _ e h8 (by simpa using h9)).2.1⟩
      · have ha : a = none := h6
        subst ha
        exact ⟨z, by simp [run_zero' hz], constV_rel g z⟩
    obtain ⟨cv, h10, h11⟩ := hval
    refine ⟨if ok then .tuple #[cv, .bool r.isSome] else cv, ?_, ?_⟩
    · unfold execOp; rw [ho]
      simp only [hc, Instr.lookup, Sem.run_bind, run_underlying (under_map ht), Result.andThen_ok, run_getMap h2, Sem.run_pure, hchk, h5]
      have h10' := h10
      cases a with
      | none =>
        rcases hv with ⟨i, rfl⟩ | ⟨rfl, z, hz, rfl⟩
        · obtain ⟨j, k', e, h7, h8, h9, h12⟩ := h6; cases h12
        · simp only [Sem.run_bind, Sem.run_pure, run_zero' hz, Result.andThen_ok] at h10' ⊢
          cases h10'
          simp
      | some p => obtain ⟨i, v'⟩ := p; simp only [Sem.run_pure, Result.ok.injEq, Prod.mk.injEq] at h10'; obtain ⟨⟨h12, h13⟩, _⟩ := h10'; subst h12; rw [← h13]; simp
    · cases ok with
      | false => exact h11
      | true =>
        refine .tup _ _ rfl (fun i v' c' h1 h2 => ?_)
        match i with
        | 0 => simp at h1 h2; subst h1; subst h2; exact h11
        | 1 => simp at h1 h2; subst h1; subst h2; exact .d (.bool _)
        | i + 2 => simp at h1

theorem key_bits {g : Gh} {kt : TypeId} {k k' : V} {c c' : Value} (hk : keyOK P kt k = true) (hx : RelV g k c) (hy : RelV g k' c') (he : keyEq k k' = some true) : Instr.sameBits 10000 c' c = true := by
  have one : ∀ (n : Nat) (x y : D) (c c' : Value), RelD g.M x c → RelD g.M y c' → eqD x y = some true → Instr.sameBits n c' c = true := by
    intro n x y c c' h1 h2 h3
    cases x <;> cases y <;> simp only [eqD] at h3 <;> (try cases h3)
    · rename_i a b
      cases h1; cases h2
      simp only [Option.some.injEq, beq_iff_eq] at h3
      subst h3
      cases n <;> simp [Instr.sameBits]
    · split at h3
      · rename_i hkk
        subst hkk
        cases h1; cases h2
        simp only [Option.some.injEq, decide_eq_true_eq] at h3
        subst h3
        cases n <;> simp [Instr.sameBits]
      · cases h3
    · cases h1; cases h2
      simp only [Option.some.injEq, decide_eq_true_eq] at h3
      subst h3
      cases n <;> simp [Instr.sameBits, bytes_beq]
  cases k with
  | d x => cases k' with
    | d y => exact one _ x y c c' (relV_d hx) (relV_d hy) he
    | _ => simp [keyEq] at he
  | agg vs => cases k' with
    | agg ws =>
      simp only [keyEq] at he
      cases hx with
      | agg _ cs h1 h2 =>
        cases hy with
        | agg _ cs' h3 h4 =>
          have hall : ∀ (vs ws : List V) (cs cs' : List Value), cs.length = vs.length → cs'.length = ws.length → (∀ (i : Nat) (v : V) (c : Value), vs[i]? = some v → cs[i]? = some c → RelV g v c) →
              (∀ (i : Nat) (v : V) (c : Value), ws[i]? = some v → cs'[i]? = some c → RelV g v c) → eqDs vs ws = some true → vs.length = ws.length ∧ ∀ p, p ∈ cs'.zip cs → Instr.sameBits 9999 p.1 p.2 = true := by
            intro vs
            induction vs with
            | nil =>
              intro ws cs cs' h1 h2 h3 h4 he
              cases ws with
              | nil =>
                have : cs = [] := List.eq_nil_of_length_eq_zero (by simpa using h1)
                subst this
                exact ⟨rfl, fun p hp => by simp at hp⟩
              | cons => simp [eqDs] at he
            | cons v vs ih =>
              intro ws cs cs' h1 h2 h3 h4 he
              cases ws with
              | nil => cases v <;> simp [eqDs] at he
              | cons v' ws =>
                cases v with
                | d x => cases v' with
                  | d y =>
                    cases cs with
                    | nil => simp at h1
                    | cons c cs =>
                      cases cs' with
                      | nil => simp at h2
                      | cons c' cs' =>
                        simp only [eqDs] at he
                        split at he
                        · rename_i r1 r2 he1 he2
                          simp only [Option.some.injEq, Bool.and_eq_true] at he
                          obtain ⟨rfl, rfl⟩ := he
                          obtain ⟨h5, h6⟩ := ih ws cs cs' (by simpa using h1) (by simpa using h2) (fun i v c a b => h3 (i + 1) v c (by simpa using a) (by simpa using b)) (fun i v c a b => h4 (i + 1) v c (by simpa using a) (by simpa using b)) he2
                          refine ⟨by simp [h5], fun p hp => ?_⟩
                          simp only [List.zip_cons_cons, List.mem_cons] at hp
                          rcases hp with rfl | hp
                          · exact one _ x y c c' (relV_d (h3 0 _ c rfl rfl)) (relV_d (h4 0 _ c' rfl rfl)) he1
                          · exact h6 p hp
                        · cases he
                  | _ => simp [eqDs] at he
                | _ => simp [eqDs] at he
          obtain ⟨h5, h6⟩ := hall vs ws cs.toList cs'.toList (by simpa using h1) (by simpa using h3) (fun i v c a b => h2 i v c a (by simpa using b)) (fun i v c a b => h4 i v c a (by simpa using b)) he
          show Instr.sameBits (9999 + 1) (.agg cs') (.agg cs) = true
          simp only [Instr.sameBits, Bool.and_eq_true, beq_iff_eq, List.all_eq_true]
          exact ⟨by rw [h1, h3, h5], fun p hp => h6 p hp⟩
    | _ => simp [keyEq] at he
  | _ => simp [keyOK] at hk

theorem setM_len : ∀ (es : List (V × V)) (i : Nat) (p : V × V), (setM es i p).length = es.length := by
  intro es
  induction es with
  | nil => intro i p; rfl
  | cons q es ih => intro i p; cases i with
    | zero => rfl
    | succ i => simp [setM, ih]
theorem setM_get : ∀ (es : List (V × V)) (i : Nat) (p : V × V) (k : Nat), (setM es i p)[k]? = if k = i ∧ i < es.length then some p else es[k]? := by
  intro es
  induction es with
  | nil => intro i p k; simp [setM]
  | cons q es ih =>
    intro i p k
    cases i with
    | zero => cases k with
      | zero => simp [setM]
      | succ k => simp [setM]
    | succ i => cases k with
      | zero => simp [setM]
      | succ k => simp [setM, ih]
theorem modify_get {α : Type} (a : Array α) (i : Nat) (f : α → α) (k : Nat) : (a.modify i f)[k]? = if i = k then (a[k]?).map f else a[k]? := by
  rw [Array.getElem?_modify]

theorem Inv.setMap {E : Ent} {g : Gh} {s : VS} {a : Act} {w : World} (h : Inv E g s a w) {id k c0 c1 : Nat} {es es' : List (V × V)} {ents ents' : Array MapEntry} (hb : hget s.hp id = some (.map c0 es)) (hk : g.β id = some k)
    (hw : w.heap[k]? = some (.map ents (c0 + es.length))) (hs : ents'.size = es'.length) (hr : ∀ (i : Nat) (kv : V × V) (e : MapEntry), es'[i]? = some kv → ents'[i]? = some e → RelV g kv.1 e.key ∧ RelV g kv.2 e.val ∧ e.born = c1 + i) :
    (setObj k (.map ents' (c1 + es'.length))).run P w = .ok () (w.putObj k (.map ents' (c1 + es'.length))) ∧ Inv E g { s with hp := hset s.hp id (.map c1 es') } a (w.putObj k (.map ents' (c1 + es'.length))) := by
  have hks := (Array.getElem?_eq_some_iff.1 hw).1
  have hput : (w.putObj k (.map ents' (c1 + es'.length))).heap[k]? = some (.map ents' (c1 + es'.length)) := by
    simp only [World.putObj]; rw [Array.getElem?_setIfInBounds_self_of_lt hks]
  refine ⟨by unfold setObj; simp only [Sem.run, hw]; rfl, h.mod (w' := w.putObj k (.map ents' (c1 + es'.length))) hb rfl hk (by simp [World.putObj]) (fun j hj => by simp only [World.putObj]; rw [Array.getElem?_setIfInBounds_ne (Ne.symm hj)]) rfl rfl rfl (fun o c hm => ?_) (fun arr t f h => by rw [hw] at h; cases h) ⟨k, ents', hk, hput, hs, hr⟩⟩
  have := h.mem _ _ _ hm
  simp [World.cell?, hw] at this

theorem step_mapSet {t kt et : TypeId} {m k x : Operand} {id c0 : Nat} {es : List (V × V)} {r : Option (Nat × V)} (ho : o.op = .insert t m k x ∨ o.op = .mapUpdate t m k x) (hd : ∀ d, o.dst = some d → d < T.N) (ht : mapOf P t = some (kt, et))
    (hm : evalV T.tm m = .mapr id) (hb : hget T.hp id = some (.map c0 es)) (hk : keyOK P kt (evalV T.tm k) = true) (hf : findK (evalV T.tm k) es 0 = some r) :
    StepOK P ops o { val := .junk, wr := [(id, .map c0 (match r with | some (i, _) => setM es i (evalV T.tm k, evalV T.tm x) | none => es ++ [(evalV T.tm k, evalV T.tm x)]))], rd := [id] } T :=
  StepOK.of_skip hd (fun c => by rcases ho with ho | ho <;> rw [ho] <;> exact fun e => by cases e) rfl fun s ha E g a w hna hi hr => by
    have hops : ∀ y, y = m ∨ y = k ∨ y = x → y ∈ o.op.operands := fun y hy => by
      rcases ho with ho | ho <;> rw [ho] <;> rcases hy with rfl | rfl | rfl <;> simp [Op.operands]
    have hmr := hr m (hops m (.inl rfl))
    have hkr := hr k (hops k (.inr (.inl rfl)))
    have hxr := hr x (hops x (.inr (.inr rfl)))
    rw [hm] at hmr
    have hb' : hget s.hp id = some (.map c0 es) := by rw [ha.rd id (by simp [It.rd])]; exact hb
    generalize hc : a.eval m = c at hmr
    cases hmr with
    | @mapr _ kk hkk =>
      obtain ⟨k2, ents, h1, h2, h3, h4⟩ := hi.blk id _ hb'
      rw [hkk] at h1; cases h1
      obtain ⟨af, h5, h6⟩ := find_ok (w := w) hk hkr (es := es) (ents := ents.toList) (by simpa using h3) (fun i kv e h7 h8 => (h4 i kv e h7 (by simpa using h8)).1) hf
      have hchk := chk_ok (w := w) hk hkr false
      have hex : (execOp a.eval o).run P w = ((Instr.mapUpdate t (a.eval m) (a.eval k) (a.eval x)).run P w).andThen fun _ w' => .ok .skip w' := by
        rcases ho with ho | ho <;> (unfold execOp; rw [ho]; simp)
      cases r with
      | none =>
        have haf : af = none := h6
        subst haf
        obtain ⟨h7, h8⟩ := hi.setMap (P := P) (c1 := c0) (es' := es ++ [(evalV T.tm k, evalV T.tm x)]) (ents' := ents.push { key := a.eval k, val := a.eval x, born := c0 + es.length }) hb' hkk h2 (by simp [h3]) (fun i kv e h9 h10 => by
          rw [Array.getElem?_push] at h10
          by_cases hi' : i < es.length
          · rw [List.getElem?_append_left hi'] at h9
            rw [if_neg (by omega)] at h10
            exact h4 i kv e h9 h10
          · rw [List.getElem?_append_right (by omega)] at h9
            have hlt := (List.getElem?_eq_some_iff.1 h9).1
            simp at hlt
            have hil : i = es.length := by omega
            subst hil
            simp only [Nat.sub_self, List.getElem?_cons_zero, Option.some.injEq] at h9
            rw [if_pos h3.symm] at h10
            cases h10
            subst h9
            exact ⟨hkr, hxr, rfl⟩)
        refine ⟨_, g, ?_, h8⟩
        have hlen : c0 + (es ++ [(evalV T.tm k, evalV T.tm x)]).length = c0 + es.length + 1 := by simp; omega
        rw [hlen] at h7 ⊢
        rw [hex, hc]
        simp only [Instr.mapUpdate, Sem.run_bind, run_underlying (under_map ht), Result.andThen_ok, run_getMap h2, hchk, h5, h7]
      | some p =>
        obtain ⟨i, v⟩ := p
        obtain ⟨j, k', e, h7, h8, h9, rfl⟩ := h6
        have hij : i = j := by omega
        subst hij
        have hjl := (List.getElem?_eq_some_iff.1 h8).1
        have hbits : Instr.sameBits 10000 (((ents[i]?).map (·.key)).getD (a.eval k)) (a.eval k) = true := by
          have he : ents[i]? = some e := by simpa using h9
          rw [he]
          have hfk : keyEq (evalV T.tm k) k' = some true := by
            have hgen : ∀ (es : List (V × V)) (i0 j : Nat) (v' : V), findK (evalV T.tm k) es i0 = some (some (i0 + j, v')) → ∀ (kk : V) (vv : V), es[j]? = some (kk, vv) → keyEq (evalV T.tm k) kk = some true := by
              intro es
              induction es with
              | nil => intro i0 j v' _ kk vv h; simp at h
              | cons q es ih =>
                obtain ⟨q1, q2⟩ := q
                intro i0 j v' hf kk vv hj
                simp only [findK] at hf
                split at hf
                · rename_i he
                  cases j with
                  | zero => simp only [List.getElem?_cons_zero, Option.some.injEq, Prod.mk.injEq] at hj; rw [← hj.1]; exact he
                  | succ j => simp only [Option.some.injEq, Prod.mk.injEq] at hf; omega
                · rename_i he
                  cases j with
                  | zero =>
                    have hge : ∀ (es : List (V × V)) (i0 i1 : Nat) (v' : V), findK (evalV T.tm k) es i0 = some (some (i1, v')) → i0 ≤ i1 := by
                      intro es
                      induction es with
                      | nil => intro i0 i1 v' h; simp [findK] at h
                      | cons q es ih =>
                        obtain ⟨q1, q2⟩ := q
                        intro i0 i1 v' h
                        simp only [findK] at h
                        split at h
                        · simp only [Option.some.injEq, Prod.mk.injEq] at h; omega
                        · have := ih _ _ _ h; omega
                        · cases h
                    have := hge _ _ _ _ hf; omega
                  | succ j => exact ih (i0 + 1) j v' (by rw [show i0 + 1 + j = i0 + (j + 1) from by omega]; exact hf) kk vv (by simpa using hj)
                · cases hf
            exact hgen es 0 i v (by rw [Nat.zero_add]; exact hf) k' v h8
          exact key_bits hk hkr (h4 i _ e h8 he).1 hfk
        obtain ⟨h11, h12⟩ := hi.setMap (P := P) (c1 := c0) (es' := setM es i (evalV T.tm k, evalV T.tm x)) (ents' := ents.modify i fun e => { e with key := a.eval k, val := a.eval x }) hb' hkk h2 (by simp [h3, setM_len]) (fun i' kv e' h9 h10 => by
          rw [setM_get] at h9
          rw [modify_get] at h10
          by_cases hi' : i = i'
          · subst hi'
            rw [if_pos ⟨rfl, hjl⟩] at h9
            rw [if_pos rfl] at h10
            cases h9
            obtain ⟨e0, h13, rfl⟩ := Option.map_eq_some_iff.1 h10
            exact ⟨hkr, hxr, (h4 i _ e0 h8 h13).2.2⟩
          · rw [if_neg (fun e => hi' e.1.symm)] at h9
            rw [if_neg hi'] at h10
            exact h4 i' kv e' h9 h10)
        refine ⟨_, g, ?_, h12⟩
        rw [setM_len] at h11 ⊢
        rw [hex, hc]
        simp only [Instr.mapUpdate, Sem.run_bind, run_underlying (under_map ht), Result.andThen_ok, run_getMap h2, hchk, h5, Instr.keyThatStays, hbits, if_true, Sem.run_pure, h11]
end Go.Bv

namespace Go.Bv
variable {P : Program} {ops : Array Oper} {o : Oper} {T : VS}

theorem findK_ge {k : V} : ∀ (es : List (V × V)) (i0 i1 : Nat) (v' : V), findK k es i0 = some (some (i1, v')) → i0 ≤ i1 := by
  intro es
  induction es with
  | nil => intro i0 i1 v' h; simp [findK] at h
  | cons q es ih =>
    obtain ⟨q1, q2⟩ := q
    intro i0 i1 v' h
    simp only [findK] at h
    split at h
    · simp only [Option.some.injEq, Prod.mk.injEq] at h; omega
    · have := ih _ _ _ h; omega
    · cases h
theorem findK_key {k : V} : ∀ (es : List (V × V)) (i0 j : Nat) (v' : V), findK k es i0 = some (some (i0 + j, v')) → ∃ kk, es[j]? = some (kk, v') ∧ keyEq k kk = some true := by
  intro es
  induction es with
  | nil => intro i0 j v' h; simp [findK] at h
  | cons q es ih =>
    obtain ⟨q1, q2⟩ := q
    intro i0 j v' hf
    simp only [findK] at hf
    split at hf
    · rename_i he
      simp only [Option.some.injEq, Prod.mk.injEq] at hf
      have : j = 0 := by omega
      subst this
      exact ⟨q1, by rw [← hf.2]; rfl, he⟩
    · cases j with
      | zero => have := findK_ge _ _ _ _ hf; omega
      | succ j =>
        obtain ⟨kk, h1, h2⟩ := ih (i0 + 1) j v' (by rw [show i0 + 1 + j = i0 + (j + 1) from by omega]; exact hf)
        exact ⟨kk, by simpa using h1, h2⟩
    · cases hf

theorem step_mapEntry {t kt et : TypeId} {m k : Operand} {id c0 : Nat} {es : List (V × V)} {r : Option (Nat × V)} {z : Value} (ho : o.op = .mapEntry t m k) (hd : ∀ d, o.dst = some d → d < T.N) (ht : mapOf P t = some (kt, et))
    (hm : evalV T.tm m = .mapr id) (hb : hget T.hp id = some (.map c0 es)) (hk : keyOK P kt (evalV T.tm k) = true) (hf : findK (evalV T.tm k) es 0 = some r) (hz : zeroOf P et = some z) :
    StepOK P ops o (match r with
      | some (i, v) => { val := .tup [v, .d (.int .i64 (c0 + i : Nat))], wr := [(id, .map c0 (setM es i (evalV T.tm k, v)))], rd := [id] }
      | none => { val := .tup [constV z, .d (.int .i64 (c0 + es.length : Nat))], wr := [(id, .map c0 (es ++ [(evalV T.tm k, constV z)]))], rd := [id] }) T := by
  have hnd : ∀ c, o.op ≠ .defer c := fun c => by rw [ho]; exact fun e => by cases e
  have two : ∀ (g : Gh) (v : V) (c : Value) (n : Nat), RelV g v c → RelV g (.tup [v, .d (.int .i64 (n : Nat))]) (.tuple #[c, goInt n]) := fun g v c n h => by
    refine .tup _ _ rfl (fun i v' c' h1 h2 => ?_)
    match i with
    | 0 => simp at h1 h2; subst h1; subst h2; exact h
    | 1 => simp at h1 h2; subst h1; subst h2; exact .d (.int _ _)
    | i + 2 => simp at h1
  cases r with
  | none =>
    refine StepOK.of_val hd hnd fun s ha E g a w hna hi hr => ?_
    have hmr := hr m (by rw [ho]; simp [Op.operands])
    have hkr := hr k (by rw [ho]; simp [Op.operands])
    rw [hm] at hmr
    have hb' : hget s.hp id = some (.map c0 es) := by rw [ha.rd id (by simp [It.rd])]; exact hb
    generalize hc : a.eval m = c at hmr
    cases hmr with
    | @mapr _ kk hkk =>
      obtain ⟨k2, ents, h1, h2, h3, h4⟩ := hi.blk id _ hb'
      rw [hkk] at h1; cases h1
      obtain ⟨af, h5, h6⟩ := find_ok (w := w) hk hkr (es := es) (ents := ents.toList) (by simpa using h3) (fun i kv e h7 h8 => (h4 i kv e h7 (by simpa using h8)).1) hf
      have hchk := chk_ok (w := w) hk hkr false
      have haf : af = none := h6
      subst haf
      obtain ⟨h7, h8⟩ := hi.setMap (P := P) (c1 := c0) (es' := es ++ [(evalV T.tm k, constV z)]) (ents' := ents.push { key := a.eval k, val := z, born := c0 + es.length }) hb' hkk h2 (by simp [h3]) (fun i kv e h9 h10 => by
        rw [Array.getElem?_push] at h10
        by_cases hi' : i < es.length
        · rw [List.getElem?_append_left hi'] at h9
          rw [if_neg (by omega)] at h10
          exact h4 i kv e h9 h10
        · rw [List.getElem?_append_right (by omega)] at h9
          have hlt := (List.getElem?_eq_some_iff.1 h9).1
          simp at hlt
          have hil : i = es.length := by omega
          subst hil
          simp only [Nat.sub_self, List.getElem?_cons_zero, Option.some.injEq] at h9
          rw [if_pos h3.symm] at h10
          cases h10
          subst h9
          exact ⟨hkr, constV_rel g z, rfl⟩)
      refine ⟨_, _, g, ?_, two g (constV z) z (c0 + es.length) (constV_rel g z), h8⟩
      have hlen : c0 + (es ++ [(evalV T.tm k, constV z)]).length = c0 + es.length + 1 := by simp; omega
      rw [hlen] at h7 ⊢
      unfold execOp; rw [ho]
      simp only [hc, Instr.mapEntry, Sem.run_bind, run_underlying (under_map ht), Result.andThen_ok, run_getMap h2, hchk, h5, run_zero' hz, h7, Sem.run_pure]
  | some p =>
    obtain ⟨i, v⟩ := p
    refine StepOK.of_val hd hnd fun s ha E g a w hna hi hr => ?_
    have hmr := hr m (by rw [ho]; simp [Op.operands])
    have hkr := hr k (by rw [ho]; simp [Op.operands])
    rw [hm] at hmr
    have hb' : hget s.hp id = some (.map c0 es) := by rw [ha.rd id (by simp [It.rd])]; exact hb
    generalize hc : a.eval m = c at hmr
    cases hmr with
    | @mapr _ kk hkk =>
      obtain ⟨k2, ents, h1, h2, h3, h4⟩ := hi.blk id _ hb'
      rw [hkk] at h1; cases h1
      obtain ⟨af, h5, h6⟩ := find_ok (w := w) hk hkr (es := es) (ents := ents.toList) (by simpa using h3) (fun i kv e h7 h8 => (h4 i kv e h7 (by simpa using h8)).1) hf
      have hchk := chk_ok (w := w) hk hkr false
      obtain ⟨j, k', e, h7, h8, h9, rfl⟩ := h6
      have hij : i = j := by omega
      subst hij
      have hjl := (List.getElem?_eq_some_iff.1 h8).1
      have he : ents[i]? = some e := by simpa using h9
      have hrel := h4 i _ e h8 he
      obtain ⟨kk', h10, h11⟩ := findK_key es 0 i v (by rw [Nat.zero_add]; exact hf)
      rw [h8] at h10
      cases h10
      have hbits : Instr.sameBits 10000 (((ents[i]?).map (·.key)).getD (a.eval k)) (a.eval k) = true := by
        rw [he]; exact key_bits hk hkr hrel.1 h11
      obtain ⟨h12, h13⟩ := hi.setMap (P := P) (c1 := c0) (es' := setM es i (evalV T.tm k, v)) (ents' := ents.modify i fun e => { e with key := a.eval k }) hb' hkk h2 (by simp [h3, setM_len]) (fun i' kv e' h14 h15 => by
        rw [setM_get] at h14
        rw [modify_get] at h15
        by_cases hi' : i = i'
        · subst hi'
          rw [if_pos ⟨rfl, hjl⟩] at h14
          rw [if_pos rfl, he] at h15
          cases h14
          cases h15
          exact ⟨hkr, hrel.2.1, hrel.2.2⟩
        · rw [if_neg (fun e => hi' e.1.symm)] at h14
          rw [if_neg hi'] at h15
          exact h4 i' kv e' h14 h15)
      refine ⟨_, _, g, ?_, two g v e.val (c0 + i) hrel.2.1, h13⟩
      rw [setM_len] at h12 ⊢
      unfold execOp; rw [ho]
      have hborn : ((ents[i]?).map (·.born)).getD 0 = c0 + i := by rw [he]; exact hrel.2.2
      have hborn' : ((ents[i]?).map (fun x => (x.born : Int))).getD 0 = ((c0 + i : Nat) : Int) := by rw [he]; simp [hrel.2.2]
      simp only [hc, Instr.mapEntry, Sem.run_bind, run_underlying (under_map ht), Result.andThen_ok, run_getMap h2, hchk, h5, Instr.keyThatStays, hbits, if_true, Sem.run_pure, h12, hborn, hborn']

theorem findIdx_born {ents : List MapEntry} {c0 i : Nat} (h : ∀ (j : Nat) (e : MapEntry), ents[j]? = some e → e.born = c0 + j) (hi : i < ents.length) : ents.findIdx? (fun e => (e.born : Int) == ((c0 + i : Nat) : Int)) = some i := by
  rw [List.findIdx?_eq_some_iff_getElem]
  refine ⟨hi, ?_, fun j hj => ?_⟩
  · have := h i ents[i] (List.getElem?_eq_getElem hi)
    simp [this]
  · have := h j ents[j] (List.getElem?_eq_getElem (by omega))
    simp [this]; omega

theorem step_entryStore {t : TypeId} {m s' x : Operand} {id c0 i : Nat} {kk : IntKind} {n : Int} {es : List (V × V)} {k v : V} (ho : o.op = .entryStore t m s' x) (hd : ∀ d, o.dst = some d → d < T.N)
    (hm : evalV T.tm m = .mapr id) (hs : evalV T.tm s' = .d (.int kk n)) (hb : hget T.hp id = some (.map c0 es)) (hn : n = ((c0 + i : Nat) : Int)) (he : es[i]? = some (k, v)) :
    StepOK P ops o { val := .junk, wr := [(id, .map c0 (setM es i (k, evalV T.tm x)))], rd := [id] } T :=
  StepOK.of_skip hd (fun c => by rw [ho]; exact fun e => by cases e) rfl fun s ha E g a w hna hi hr => by
    have hmr := hr m (by rw [ho]; simp [Op.operands])
    have hsr := hr s' (by rw [ho]; simp [Op.operands])
    have hxr := hr x (by rw [ho]; simp [Op.operands])
    rw [hm] at hmr
    rw [hs] at hsr
    have hsc := rel_int hsr
    have hb' : hget s.hp id = some (.map c0 es) := by rw [ha.rd id (by simp [It.rd])]; exact hb
    generalize hc : a.eval m = c at hmr
    cases hmr with
    | @mapr _ kk hkk =>
      obtain ⟨k2, ents, h1, h2, h3, h4⟩ := hi.blk id _ hb'
      rw [hkk] at h1; cases h1
      have hil := (List.getElem?_eq_some_iff.1 he).1
      have hall : ∀ (j : Nat) (e : MapEntry), ents.toList[j]? = some e → e.born = c0 + j := fun j e hj => by
        have hjl := (List.getElem?_eq_some_iff.1 hj).1
        have hes : es[j]? = some es[j] := List.getElem?_eq_getElem (by simp at hjl; omega)
        exact (h4 j _ e hes (by simpa using hj)).2.2
      have hidx := findIdx_born hall (i := i) (by simp; omega)
      obtain ⟨h12, h13⟩ := hi.setMap (P := P) (c1 := c0) (es' := setM es i (k, evalV T.tm x)) (ents' := ents.modify i fun e => { e with val := a.eval x }) hb' hkk h2 (by simp [h3, setM_len]) (fun i' kv e' h14 h15 => by
        rw [setM_get] at h14
        rw [modify_get] at h15
        by_cases hi' : i = i'
        · subst hi'
          rw [if_pos ⟨rfl, hil⟩] at h14
          rw [if_pos rfl] at h15
          cases h14
          obtain ⟨e0, h16, rfl⟩ := Option.map_eq_some_iff.1 h15
          have := h4 i _ e0 he h16
          exact ⟨this.1, hxr, this.2.2⟩
        · rw [if_neg (fun e => hi' e.1.symm)] at h14
          rw [if_neg hi'] at h15
          exact h4 i' kv e' h14 h15)
      refine ⟨_, g, ?_, h13⟩
      rw [setM_len] at h12 ⊢
      unfold execOp; rw [ho]
      have hidx' : ents.findIdx? (fun e => (e.born : Int) == n) = some i := by
        have h20 : ents.findIdx? (fun e => (e.born : Int) == n) = ents.toList.findIdx? (fun e => (e.born : Int) == n) := by rw [← List.findIdx?_toArray, Array.toArray_toList]
        rw [h20, hn]; exact hidx
      simp only [hc, hsc, Instr.entryStore, Sem.run_bind, run_getMap h2, Result.andThen_ok, asInt, asIntOf, Sem.run_pure, hidx', h12]

theorem step_clearMap {x : Operand} {t kt et : TypeId} {id c0 : Nat} {es : List (V × V)} (ho : o.op = .call { callee := .builtin .clear, args := #[x], argTypes := #[t] }) (hd : ∀ d, o.dst = some d → d < T.N) (ht : mapOf P t = some (kt, et))
    (hx : evalV T.tm x = .mapr id) (hb : hget T.hp id = some (.map c0 es)) : StepOK P ops o { val := .tup [], wr := [(id, .map (c0 + es.length) [])], rd := [id] } T :=
  StepOK.of_val hd (fun c => by rw [ho]; exact fun e => by cases e) fun s ha E g a w hna hi hr => by
    have hxr := hr x (by rw [ho]; simp [Op.operands, Call.operands])
    rw [hx] at hxr
    have hb' : hget s.hp id = some (.map c0 es) := by rw [ha.rd id (by simp [It.rd])]; exact hb
    generalize hc : a.eval x = c at hxr
    cases hxr with
    | @mapr _ kk hkk =>
      obtain ⟨k2, ents, h1, h2, h3, h4⟩ := hi.blk id _ hb'
      rw [hkk] at h1; cases h1
      obtain ⟨h12, h13⟩ := hi.setMap (P := P) (c1 := c0 + es.length) (es' := []) (ents' := #[]) hb' hkk h2 rfl (fun i' kv e' h14 _ => by simp at h14)
      refine ⟨.tuple #[], _, g, ?_, .tup [] #[] rfl (fun i v c h _ => by simp at h), h13⟩
      have hz : c0 + es.length + ([] : List (V × V)).length = c0 + es.length := by simp
      rw [hz] at h12 ⊢
      obtain ⟨cs, hcs⟩ := exec_builtin (P := P) a.eval o .clear #[x] #[t] ho w
      rw [hcs]
      have hst := h12
      simp only [List.map_toArray, List.map_cons, List.map_nil, hc, builtin, Builtin.clear_, Sem.run_bind, Sem.run_pure, run_underlying (under_map ht), Result.andThen_ok, List.getElem?_toArray, List.getElem?_cons_zero, run_getMap h2, h12]
end Go.Bv

namespace Go.Bv
variable {P : Program} {ops : Array Oper} {o : Oper} {T : VS}

theorem repE_eq (n : Nat) (e : List D) : repE n e = List.replicate n e := by
  induction n with
  | zero => rfl
  | succ n ih => simp [repE, ih, List.replicate_succ]
theorem repE_len (n : Nat) (e : List D) : (repE n e).length = n := by rw [repE_eq]; simp
theorem repE_get {n : Nat} {e e' : List D} {i : Nat} (h : (repE n e)[i]? = some e') : e' = e ∧ i < n := by
  rw [repE_eq, List.getElem?_replicate] at h
  split at h
  · cases h; exact ⟨rfl, by assumption⟩
  · cases h

theorem zero_cells {g : Gh} {z : Value} {cs : List V} {ds : List D} (hc : cellsV (constV z) = some cs) (hd : toDs cs = some ds) : z.cells.size = ds.length ∧ ∀ (j : Nat) (x : D) (c : Value), ds[j]? = some x → z.cells[j]? = some c → RelD g.M x c := by
  have h := cells_rel (constV_rel g z) hc
  have hcs := toDs_get hd
  refine ⟨by rw [h.1, hcs]; simp, fun j x c hx hcc => ?_⟩
  exact relV_d (h.2 j (.d x) c (by rw [hcs, List.getElem?_map, hx]; rfl) hcc).1

theorem mod_cell {i j sz : Nat} (h : j < sz) : (i * sz + j) % sz = j := by
  rw [Nat.add_comm, Nat.add_mul_mod_self_right, Nat.mod_eq_of_lt h]

theorem step_makeSlice {id : Nat} {t e sz bytes : Nat} {l c : Operand} {kl kc : IntKind} {n m : Int} {z : Value} {cs : List V} {ds : List D} (ho : o.op = .makeSlice t l c) (hd : ∀ d, o.dst = some d → d < T.N) (ht : appTy P t = some (e, sz, bytes))
    (hl : evalV T.tm l = .d (.int kl n)) (hc : evalV T.tm c = .d (.int kc m)) (hz : zeroOf P e = some z) (hcs : cellsV (constV z) = some cs) (hds : toDs cs = some ds) (h0 : 0 ≤ n) (hnm : n ≤ m) (hb : (bytes : Int) * m ≤ 281474976710656) (h63 : m ≤ 9223372036854775807) :
    StepOK P ops o { val := .sref id n.toNat, nw := [(id, .row sz 0 false (repE n.toNat ds))] } T :=
  StepOK.of_val hd (fun c => by rw [ho]; exact fun e => by cases e) fun s ha E g a w hna hi hr => by
    obtain ⟨⟨hu, i, z', hii, hz', h1, h2, h3⟩, hsz⟩ := appTy_ok ht
    have hzz : z' = z := by
      unfold zeroOf at hz
      rw [hii] at hz
      simp only [Option.bind_some] at hz
      rw [hz'] at hz; cases hz; rfl
    subst hzz; subst h1; subst h2
    have hf := ha.fresh id (by simp [It.nw, pfst])
    have hlr := rel_int (by have := hr l (by rw [ho]; simp [Op.operands]); rw [hl] at this; exact this)
    have hcr := rel_int (by have := hr c (by rw [ho]; simp [Op.operands]); rw [hc] at this; exact this)
    obtain ⟨hzc, hzr⟩ := zero_cells (g := g) hcs hds
    have hdl : ds.length = i.size := by rw [← hzc, h3]
    have hrun := run_make (P := P) w t e i z' hu hii hz' kl kc n m h0 hnm hb h63
    have hle : n.toNat ≤ m.toNat := by omega
    have hmul : n.toNat * i.size ≤ m.toNat * i.size := Nat.mul_le_mul_right _ hle
    refine ⟨_, _, g.bind id w.heap.size (some (.slice (some ⟨w.heap.size, 0, none⟩) n.toNat m.toNat)), ?_, .sref (Gh.bind_sv _ _ _ _) hle (fun _ => ⟨w.heap.size, Gh.bind_β _ _ _ _, rfl⟩), hi.alloc hf hna (.cells (madeCells z'.cells (m.toNat * i.size)) e) _ _ ⟨fun e => (by cases e), fun _ => .inr ⟨w.heap.size, _, e, m.toNat, Gh.bind_β _ _ _ _, ?_, heap_alloc_new _ _, size_madeCells _ _, ?_, ?_, ?_, fun i' j e' x c' hi' hj hc' => ?_, fun o' hm => ?_⟩⟩⟩
    · unfold execOp; rw [ho]
      simp only [hlr, hcr, Sem.run_bind, hrun, Result.andThen_ok, Sem.run_pure]
    · rw [Gh.bind_sv, repE_len]
    · rw [repE_len]; exact hle
    · intro h; exact absurd h (Nat.not_lt_zero _)
    · intro e' he'
      obtain ⟨k, hk⟩ := List.getElem?_of_mem he'
      rw [(repE_get hk).1]; exact hdl
    · obtain ⟨rfl, hil⟩ := repE_get hi'
      have hjl := (List.getElem?_eq_some_iff.1 hj).1
      have hm2 : (i' + 1) * i.size ≤ n.toNat * i.size := Nat.mul_le_mul_right _ hil
      rw [Nat.succ_mul] at hm2
      simp only [madeCells, Array.getElem?_map] at hc'
      rw [Array.getElem?_range, if_pos (by omega)] at hc'
      simp only [Option.map_some, Option.some.injEq] at hc'
      rw [h3, mod_cell (by omega)] at hc'
      have hlt : j < z'.cells.size := by omega
      rw [getElem!_pos z'.cells j hlt] at hc'
      exact hzr j x c' hj (by rw [← hc']; exact Array.getElem?_eq_getElem hlt)
    · obtain ⟨c', hc'⟩ := Option.isSome_iff_exists.1 hm
      exact absurd (cell_lt (hi.mem _ _ _ hc')) (Nat.lt_irrefl _)

theorem step_range {id : Nat} {t : TypeId} {x : Operand} {l : List UInt8} (ho : o.op = .range t x) (hd : ∀ d, o.dst = some d → d < T.N) (ht : isStr P t = true) (hx : evalV T.tm x = .d (.str l)) :
    StepOK P ops o { val := .iter id, nw := [(id, .siter l 0)] } T :=
  StepOK.of_val hd (fun c => by rw [ho]; exact fun e => by cases e) fun s ha E g a w hna hi hr => by
    have hf := ha.fresh id (by simp [It.nw, pfst])
    have hxr := rel_str (by have := hr x (by rw [ho]; simp [Op.operands]); rw [hx] at this; exact this)
    refine ⟨.pointer (some ⟨w.heap.size, 0, none⟩), _, _, ?_, .iter (Gh.bind_β g id w.heap.size none), hi.alloc hf hna (.stringIter ⟨l.toArray⟩ 0) (.siter l 0) none ⟨w.heap.size, Gh.bind_β _ _ _ _, heap_alloc_new _ _⟩⟩
    unfold execOp; rw [ho]
    simp [Instr.range, run_underlying (under_str ht), hxr]

theorem step_next_end {x : Operand} {id pos : Nat} {l : List UInt8} (ho : o.op = .next x true) (hd : ∀ d, o.dst = some d → d < T.N) (hx : evalV T.tm x = .iter id) (hb : hget T.hp id = some (.siter l pos)) (hp : ¬ pos < l.length) :
    StepOK P ops o { val := .tup [.d (.bool false)], rd := [id] } T :=
  StepOK.of_val hd (fun c => by rw [ho]; exact fun e => by cases e) fun s ha E g a w hna hi hr => by
    have hxr := hr x (by rw [ho]; simp [Op.operands])
    rw [hx] at hxr
    have hb' : hget s.hp id = some (.siter l pos) := by rw [ha.rd id (by simp [It.rd])]; exact hb
    generalize hc : a.eval x = c at hxr
    cases hxr with
    | @iter _ k hk =>
      obtain ⟨k2, h1, h2⟩ := hi.blk id _ hb'
      rw [hk] at h1; cases h1
      refine ⟨.tuple #[.bool false], w, g, ?_, .tup _ _ rfl (fun i v c h1 h2 => ?_), hi⟩
      · unfold execOp; rw [ho]
        have hsz : (⟨l.toArray⟩ : ByteArray).size = l.length := rfl
        simp [hc, Instr.next, getObj, Sem.run, h2, hsz, hp]
      · match i with
        | 0 => simp at h1 h2; subst h1; subst h2; exact .d (.bool _)
        | i + 1 => simp at h1

theorem step_next {x : Operand} {id pos : Nat} {l : List UInt8} (ho : o.op = .next x true) (hd : ∀ d, o.dst = some d → d < T.N) (hx : evalV T.tm x = .iter id) (hb : hget T.hp id = some (.siter l pos)) (hp : pos < l.length) :
    StepOK P ops o { val := .tup [.d (.bool true), .d (.int .i64 (pos : Int)), .d (.int .i32 (Utf8.decode ⟨l.toArray⟩ pos).1)], wr := [(id, .siter l (pos + (Utf8.decode ⟨l.toArray⟩ pos).2))], rd := [id] } T :=
  StepOK.of_val hd (fun c => by rw [ho]; exact fun e => by cases e) fun s ha E g a w hna hi hr => by
    have hxr := hr x (by rw [ho]; simp [Op.operands])
    rw [hx] at hxr
    have hb' : hget s.hp id = some (.siter l pos) := by rw [ha.rd id (by simp [It.rd])]; exact hb
    generalize hc : a.eval x = c at hxr
    cases hxr with
    | @iter _ k hk =>
      obtain ⟨k2, h1, h2⟩ := hi.blk id _ hb'
      rw [hk] at h1; cases h1
      have hks := (Array.getElem?_eq_some_iff.1 h2).1
      have hput : (w.putObj k (.stringIter ⟨l.toArray⟩ (pos + (Utf8.decode ⟨l.toArray⟩ pos).2))).heap[k]? = some (.stringIter ⟨l.toArray⟩ (pos + (Utf8.decode ⟨l.toArray⟩ pos).2)) := by
        simp only [World.putObj]; rw [Array.getElem?_setIfInBounds_self_of_lt hks]
      refine ⟨.tuple #[.bool true, goInt pos, .int .i32 (Utf8.decode ⟨l.toArray⟩ pos).1], _, g, ?_, .tup _ _ rfl (fun i v c h1 h2 => ?_), hi.mod (w' := w.putObj k (.stringIter ⟨l.toArray⟩ (pos + (Utf8.decode ⟨l.toArray⟩ pos).2))) hb' rfl hk (by simp [World.putObj]) (fun j hj => by simp only [World.putObj]; rw [Array.getElem?_setIfInBounds_ne (Ne.symm hj)]) rfl rfl rfl (fun o c hm => ?_) (fun arr t f h => by rw [h2] at h; cases h) ⟨k, hk, hput⟩⟩
      · unfold execOp; rw [ho]
        have hsz : (⟨l.toArray⟩ : ByteArray).size = l.length := rfl
        have hset : (setObj k (.stringIter ⟨l.toArray⟩ (pos + (Utf8.decode ⟨l.toArray⟩ pos).2))).run P w = .ok () (w.putObj k (.stringIter ⟨l.toArray⟩ (pos + (Utf8.decode ⟨l.toArray⟩ pos).2))) := by
          unfold setObj; simp only [Sem.run, h2]; rfl
        have hget : (getObj k).run P w = .ok (.stringIter ⟨l.toArray⟩ pos) w := by simp [getObj, Sem.run, h2]
        simp only [hc, Instr.next, Sem.run_bind, hget, Result.andThen_ok, hsz, hp, if_true, hset, Sem.run_pure]
      · match i with
        | 0 => simp at h1 h2; subst h1; subst h2; exact .d (.bool _)
        | 1 => simp at h1 h2; subst h1; subst h2; exact .d (.int _ _)
        | 2 => simp at h1 h2; subst h1; subst h2; exact .d (.int _ _)
        | i + 3 => simp at h1
      · have := hi.mem _ _ _ hm
        simp [World.cell?, h2] at this
end Go.Bv

namespace Go.Bv
variable {P : Program} {ops : Array Oper} {o : Oper} {T : VS}

theorem run_append_zeros {w : World} {t t' ty e : TypeId} {i : TypeInfo} {z : Value} {k' : IntKind} (ht : P.underlying t = some (.slice e)) (ht' : P.underlying t' = some (.int k')) (hi : P.info? e = some i) (hz : i.zero = some z)
    {base : Option Addr} {sLen sCap : Nat} {olds : Array Value} (hf : (Builtin.firstCells i.size sLen (.slice base sLen sCap)).run P w.drew = .ok olds w.drew) {m : Nat} (hm : 0 < m) (hs : i.size ≠ 0) (hfull : sCap < sLen + m)
    (hb : (sLen + m) * i.bytes ≤ 140737488355328) (h63 : sLen + m ≤ 9223372036854775807) :
    (Builtin.append_ #[t, t'] ty #[.slice base sLen sCap, .int .i64 (m : Int)]).run P w =
      .ok (.slice (some ⟨w.heap.size, 0, none⟩) (sLen + m) (grownCap w (sLen + m) sCap e))
        (w.drew.alloc (.cells (olds ++ Builtin.zeroCells z.cells m ++ Builtin.zeroCells z.cells (grownCap w (sLen + m) sCap e - (sLen + m))) e)) := by
  have hw : IntKind.i64.wrap (m : Int) = (m : Int) := by rw [IntKind.wrap_i64]; omega
  have n1 : ¬ ((m : Int) < 0) := by omega
  have hmb : m * i.bytes ≤ (sLen + m) * i.bytes := Nat.mul_le_mul_right _ (by omega)
  have n2 : ¬ (281474976710656 < (m : Int) * (i.bytes : Int)) := by
    have : ((m * i.bytes : Nat) : Int) ≤ 281474976710656 := by omega
    rw [Int.natCast_mul] at this; omega
  have n3 : ¬ (sLen + m ≤ sCap) := by omega
  have n4 : ¬ (9223372036854775807 < ((sLen : Int) + (m : Int))) := by omega
  have n5 : ¬ (281474976710656 < Builtin.nextslicecap (sLen + m) sCap * i.bytes) := Nat.not_lt.2 (growslice_fits hfull hb)
  have n6 : ¬ (m = 0) := by omega
  have n8 : ¬ (m * i.size = 0) := fun h => (Nat.mul_eq_zero.1 h).elim n6 hs
  simp [Builtin.append_, run_underlying ht, run_underlying ht', sizeOf, typeInfo, zeroValue, hi, hz, asInt, asIntOf, hw, n1, n2, n3, n4, n5, n6, n8, hs, Question.forced, hf, newRow, grownCap]

theorem zeros_rel {g : Gh} {z : Value} {cs : List V} {ds : List D} {sz m : Nat} (hc : cellsV (constV z) = some cs) (hd : toDs cs = some ds) (hz : z.cells.size = sz) :
    ((Builtin.zeroCells z.cells m).toList.length = (repE m ds).length * sz) ∧ (∀ e, e ∈ repE m ds → e.length = sz) ∧
    ∀ (i j : Nat) (e : List D) (x : D) (u : Value), (repE m ds)[i]? = some e → e[j]? = some x → (Builtin.zeroCells z.cells m).toList[i * sz + j]? = some u → RelD g.M x u := by
  obtain ⟨h1, h2⟩ := zero_cells (g := g) hc hd
  have hdl : ds.length = sz := by rw [← h1, hz]
  refine ⟨by simp [size_zeroCells, repE_len, hz], fun e he => ?_, fun i j e x u hi hj hu => ?_⟩
  · obtain ⟨k, hk⟩ := List.getElem?_of_mem he
    rw [(repE_get hk).1]; exact hdl
  · obtain ⟨rfl, hil⟩ := repE_get hi
    have hjl := (List.getElem?_eq_some_iff.1 hj).1
    have hm2 : (i + 1) * sz ≤ m * sz := Nat.mul_le_mul_right _ hil
    rw [Nat.succ_mul] at hm2
    rw [Array.getElem?_toList] at hu
    simp only [Builtin.zeroCells, Array.getElem?_map] at hu
    rw [Array.getElem?_range, if_pos (by rw [hz]; omega)] at hu
    simp only [Option.map_some, Option.some.injEq] at hu
    rw [hz, mod_cell (by omega)] at hu
    have hlt : j < z.cells.size := by omega
    rw [getElem!_pos z.cells j hlt] at hu
    exact h2 j x u hj (by rw [← hu]; exact Array.getElem?_eq_getElem hlt)

theorem fullS_cap {g : Gh} {hg : Nat → Option Blk} {sz : Nat} {v : V} {a : Option Addr} {n cap : Nat} (hf : fullS v = true) (hr : RelV g v (.slice a n cap)) : cap = n := by
  cases hr with
  | d h => cases h <;> first | rfl | (simp [fullS] at hf)
  | emp0t => rfl
  | emp0f => rfl
  | bsl h1 h2 h3 => simp only [fullS, beq_iff_eq] at hf; exact hf.symm
  | _ => simp [fullS] at hf

theorem step_append_zeros {id : Nat} {s x : Operand} {t t' e sz bytes m : Nat} {k' : IntKind} {es : List (List D)} {rd : List Nat} {z : Value} {cs : List V} {ds : List D} (ho : o.op = .call { callee := .builtin .append, args := #[s, x], argTypes := #[t, t'] }) (hd : ∀ d, o.dst = some d → d < T.N)
    (ht : appTy P t = some (e, sz, bytes)) (ht' : intOf' P t' = some k') (hs : slOf (hget T.hp) sz (evalV T.tm s) = some (es, rd)) (hfull : fullS (evalV T.tm s) = true) (hx : evalV T.tm x = .d (.int .i64 (m : Int))) (hm : 0 < m)
    (hz : zeroOf P e = some z) (hcs : cellsV (constV z) = some cs) (hds : toDs cs = some ds)
    (hb : (es.length + m) * bytes ≤ 140737488355328) (h63 : es.length + m ≤ 9223372036854775807) :
    StepOK P ops o { val := .sref id (es.length + m), nw := [(id, .row sz 0 false (es ++ repE m ds))], rd := rd } T :=
  StepOK.of_val hd (fun c => by rw [ho]; exact fun e => by cases e) fun st ha E g a w hna hi hr => by
    obtain ⟨⟨hu, i, z', hii, hz', h1, h2, h3⟩, hsz⟩ := appTy_ok ht
    have hzz : z' = z := by
      unfold zeroOf at hz
      rw [hii] at hz
      simp only [Option.bind_some] at hz
      rw [hz'] at hz; cases hz; rfl
    subst hzz; subst h1; subst h2
    have hf := ha.fresh id (by simp [It.nw, pfst])
    have hsr := hr s (by rw [ho]; simp [Op.operands, Call.operands])
    have hxr := rel_int (by have := hr x (by rw [ho]; simp [Op.operands, Call.operands]); rw [hx] at this; exact this)
    have hss := sl_rel (g := g) (w := w) hsr hs hsz (rd_mem ha hi (fun i h => h)) hi.mem
    obtain ⟨hn1, hl2, hn2⟩ := zeros_rel (g := g) (m := m) hcs hds h3
    have hrl : (repE m ds).length = m := repE_len m ds

    have hold : ∃ (ad : Option Addr) (capS : Nat) (olds : List Value), a.eval s = .slice ad es.length capS ∧ (Builtin.firstCells i.size es.length (.slice ad es.length capS)).run P w.drew = .ok olds.toArray w.drew ∧ olds.length = es.length * i.size ∧ (∀ e, e ∈ es → e.length = i.size) ∧
        (∀ (i' j : Nat) (e : List D) (x : D) (u : Value), es[i']? = some e → e[j]? = some x → olds[i' * i.size + j]? = some u → RelD g.M x u) := by
      by_cases hes : es = []
      · subst hes
        obtain ⟨ad, capS, hcv, _, _, _⟩ := hss
        refine ⟨ad, capS, [], hcv, ?_, by simp, fun e h => (by cases h), fun i j e x u h => by simp at h⟩
        cases ad with
        | none => simp [Builtin.firstCells]
        | some ad => simp [Builtin.firstCells, loadCells, loadCellsFrom]
      · obtain ⟨b1, o1, capS, olds, hcv, hleS, hol, holds, hone1, hl1, ho2⟩ := hss.news hes
        exact ⟨_, capS, olds, hcv, run_firstCells_some (P := P) w.drew i.size es.length _ es.length capS olds hol (by simpa using holds), hol, hl1, ho2⟩
    obtain ⟨ad, capS, olds, hcv, hfc, hol, hl1, ho2⟩ := hold
    have hcapE : capS = es.length := by
      rw [hcv] at hsr
      exact fullS_cap (hg := hget T.hp) (sz := i.size) hfull hsr
    subst hcapE
    have hge := grownCap_ge w (es.length + m) es.length e
    have hrun := run_append_zeros (w := w) (ty := o.type) hu (under_int ht') hii hz' hfc hm hsz (by omega) hb h63
    have hinv := hi.drew.newRow (id := id) (t := e) (fz := 0) (cap := grownCap w (es.length + m) es.length e) (arr := olds.toArray ++ Builtin.zeroCells z'.cells m ++ Builtin.zeroCells z'.cells (grownCap w (es.length + m) es.length e - (es.length + m)))
      (rest := (Builtin.zeroCells z'.cells (grownCap w (es.length + m) es.length e - (es.length + m))).toList) hf hna hl1 hl2 hol hn1 ho2 hn2 (by simp) (by
        simp only [Array.size_append, List.size_toArray, size_zeroCells, h3, hol, ← Nat.add_mul]
        congr 1; omega) (by rw [hrl]; exact hge) (Nat.zero_le _)
    rw [hrl] at hinv
    exact ⟨_, _, _, exec_append ho (by rw [hcv, hxr]; exact hrun), .sref (Gh.bind_sv _ _ _ _) hge (fun _ => ⟨w.heap.size, Gh.bind_β _ _ _ _, rfl⟩), hinv⟩
end Go.Bv

namespace Go.Bv
variable {P : Program} {ops : Array Oper} {o : Oper} {T : VS}

theorem Inv.rowWrite {E : Ent} {g : Gh} {s : VS} {a : Act} {w : World} (h : Inv E g s a w) {id k off sz fz cap : Nat} {nil : Bool} {es es2 : List (List D)} {arr : Array Value} {ty : TypeId} {news : List Value} (hb : hget s.hp id = some (.row sz fz nil es))
    (hk : g.β id = some k) (hsv : g.sv id = some (.slice (some ⟨k, 0, none⟩) es.length cap)) (hw : w.heap[k]? = some (.cells arr ty (0, 0))) (hasz : arr.size = cap * sz) (hec : es.length ≤ cap)
    (hl1 : ∀ e, e ∈ es → e.length = sz) (hrel : ∀ (i j : Nat) (e : List D) (x : D) (c : Value), es[i]? = some e → e[j]? = some x → arr[i * sz + j]? = some c → RelD g.M x c) (hM : ∀ o, (g.M k o).isSome = true → o < fz * sz ∧ o < es.length * sz)
    (hfz : fz ≤ off) (hof : off + es2.length ≤ es.length) (hnl : news.length = es2.length * sz) (hl2 : ∀ e, e ∈ es2 → e.length = sz)
    (h2 : ∀ (i j : Nat) (e : List D) (x : D) (u : Value), es2[i]? = some e → e[j]? = some x → news[i * sz + j]? = some u → RelD g.M x u) :
    Inv E g { s with hp := hset s.hp id (.row sz fz false (es.take off ++ es2 ++ es.drop (off + es2.length))) } a (w.setRow k (arr.toList.take (off * sz) ++ news ++ arr.toList.drop (off * sz + news.length)).toArray) := by
  have hmul : (off + es2.length) * sz ≤ cap * sz := Nat.mul_le_mul_right _ (by omega)
  rw [Nat.add_mul] at hmul
  have hal : arr.toList.length = cap * sz := by simpa using hasz
  have hset := setRow_heap w k arr (arr.toList.take (off * sz) ++ news ++ arr.toList.drop (off * sz + news.length)).toArray ty (0, 0) hw
  have hlen : (es.take off ++ es2 ++ es.drop (off + es2.length)).length = es.length := by simp; omega
  refine h.mod hb (by cases nil <;> rfl) hk (setRow_sz _ _ _) (fun j hj => setRow_ne _ _ _ _ hj) rfl rfl rfl (fun o'' c' hm' => ?_) (setRow_wg hw (by rw [List.size_toArray, seg_len _ _ _ (by omega)]; simp)) ⟨fun e => (by cases e), fun _ => .inr ⟨k, _, ty, cap, hk, by rw [hlen]; exact hsv, hset, ?_, by rw [hlen]; exact hec, fun hf => (by rw [hlen] at hf; omega), fun e' he' => ?_, fun i j e' x' c' hi' hj hc' => ?_, fun o'' ho'' => (by rw [hlen]; exact hM o'' ho'')⟩⟩
  · have hlt := (hM o'' (by rw [hm']; rfl)).1
    have hle : fz * sz ≤ off * sz := Nat.mul_le_mul_right _ hfz
    have hold' := h.mem _ _ _ hm'
    rw [cell_cells hw] at hold'
    rw [cell_cells hset, List.getElem?_toArray, seg_get _ _ _ _ (by omega), if_neg (by omega)]
    simpa using hold'
  · rw [List.size_toArray, seg_len _ _ _ (by omega)]; exact hal
  · rcases List.mem_append.1 he' with he' | he'
    · rcases List.mem_append.1 he' with he' | he'
      · exact hl1 e' (List.mem_of_mem_take he')
      · exact hl2 e' he'
    · exact hl1 e' (List.mem_of_mem_drop he')
  · have hjl := (List.getElem?_eq_some_iff.1 hj).1
    rw [List.getElem?_toArray, seg_get _ _ _ _ (by omega)] at hc'
    rw [get_two] at hi'
    have htl : (es.take off).length = off := by simp; omega
    rw [htl] at hi'
    have hstep : ∀ m : Nat, m + 1 ≤ i → (m + 1) * sz ≤ i * sz := fun m hm => Nat.mul_le_mul_right _ hm
    by_cases h1 : i < off
    · rw [if_pos h1] at hi'
      rw [List.getElem?_take, if_pos h1] at hi'
      rw [hl1 e' (List.mem_of_getElem? hi')] at hjl
      have hm : (i + 1) * sz ≤ off * sz := Nat.mul_le_mul_right _ h1
      rw [Nat.succ_mul] at hm
      rw [if_neg (by omega)] at hc'
      exact hrel i j e' x' c' hi' hj (by simpa using hc')
    · rw [if_neg h1] at hi'
      by_cases h3 : i < off + es2.length
      · rw [if_pos h3] at hi'
        rw [hl2 e' (List.mem_of_getElem? hi')] at hjl
        have hm : (i - off + 1) * sz ≤ es2.length * sz := Nat.mul_le_mul_right _ (by omega)
        rw [Nat.succ_mul, Nat.sub_mul] at hm
        have hge : off * sz ≤ i * sz := Nat.mul_le_mul_right _ (by omega)
        rw [if_pos (by omega)] at hc'
        exact h2 (i - off) j e' x' c' hi' hj (by rw [← hc']; congr 1; rw [Nat.sub_mul]; omega)
      · rw [if_neg h3, List.getElem?_drop] at hi'
        have hi'' : es[i]? = some e' := by rw [← hi']; congr 1; omega
        rw [hl1 e' (List.mem_of_getElem? hi'')] at hjl
        have hge : (off + es2.length) * sz ≤ i * sz := Nat.mul_le_mul_right _ (by omega)
        rw [Nat.add_mul] at hge
        rw [if_neg (by omega)] at hc'
        exact hrel i j e' x' c' hi'' hj (by simpa using hc')

theorem win_rel {g : Gh} {v : V} {c : Value} {sz id off len : Nat} (h : RelV g v c) (hv : winS sz v = some (id, off, len)) :
    ∃ a m cap a' cap', g.sv id = some (.slice a m cap) ∧ m ≤ cap ∧ off + len ≤ m ∧ (0 < m → ∃ k, g.β id = some k ∧ a = some ⟨k, 0, none⟩) ∧ c = .slice a' len cap' ∧ (∀ k, 0 < len → a = some ⟨k, 0, none⟩ → a' = some ⟨k, off * sz, none⟩) := by
  cases v with
  | sref id' n' =>
    simp only [winS, Option.some.injEq, Prod.mk.injEq] at hv
    obtain ⟨rfl, rfl, rfl⟩ := hv
    cases h with
    | @sref _ _ cap a hsv hle h0 => exact ⟨a, _, cap, a, cap, hsv, hle, by omega, h0, rfl, fun k _ h => by rw [h]; simp⟩
  | ssub id' sz' off' len' =>
    simp only [winS] at hv
    split at hv
    · rename_i hc
      subst hc
      cases hv
      cases h with
      | @ssub _ _ _ _ n0 cap a a' hsv hle h0 h1 h2 h3 =>
        refine ⟨a, n0, cap, a', cap - off, hsv, hle, h1, h0, rfl, fun k hlen hk => ?_⟩
        obtain ⟨ad, h4, h5⟩ := h3 _ hk
        rw [h4, h5 (.inr hlen), Addr.add_lit, Nat.zero_add]
    · cases hv
  | _ => simp [winS] at hv

theorem win_row {E : Ent} {g : Gh} {s : VS} {a : Act} {w : World} (h : Inv E g s a w) {v : V} {c : Value} {sz id off len fz : Nat} {nil : Bool} {es : List (List D)} (hv : RelV g v c) (hw : winS sz v = some (id, off, len)) (hb : hget s.hp id = some (.row sz fz nil es)) (hl : 0 < len) (hol : off + len ≤ es.length) :
    ∃ k arr ty cap cap', g.β id = some k ∧ g.sv id = some (.slice (some ⟨k, 0, none⟩) es.length cap) ∧ w.heap[k]? = some (.cells arr ty (0, 0)) ∧ arr.size = cap * sz ∧ es.length ≤ cap ∧ (∀ e, e ∈ es → e.length = sz) ∧
      (∀ (i j : Nat) (e : List D) (x : D) (c : Value), es[i]? = some e → e[j]? = some x → arr[i * sz + j]? = some c → RelD g.M x c) ∧ (∀ o, (g.M k o).isSome = true → o < fz * sz ∧ o < es.length * sz) ∧ c = .slice (some ⟨k, off * sz, none⟩) len cap' := by
  obtain ⟨a0, m, cap, a', cap', hsv, hmc, hom, h0, hc, hadr⟩ := win_rel hv hw
  have hblk := h.blk id _ hb
  have hpos : 0 < es.length := by omega
  cases nil with
  | true => obtain ⟨rfl, _, _⟩ := hblk.1 rfl; simp at hpos
  | false =>
    rcases hblk.2 rfl with ⟨rfl, _, _, _⟩ | ⟨k, arr, t, cap2, h1, h2, h3, h4, h5, h6, h7, h8, h9⟩
    · simp at hpos
    · rw [hsv] at h2; cases h2
      exact ⟨k, arr, t, cap, cap', h1, hsv, h3, h4, h5, h7, h8, h9, by rw [hc, hadr k hl rfl]⟩

theorem hset_same {E : Ent} {g : Gh} {s : VS} {a : Act} {w : World} (h : Inv E g s a w) {id : Nat} {b : Blk} (hb : hget s.hp id = some b) : Inv E g { s with hp := hset s.hp id b } a w :=
  h.same ⟨fun _ => rfl, fun i => by
    show hget s.hp i = hget (hset s.hp id b) i
    rw [hget_hset]
    split
    · rename_i hc; rw [← hc.1]; exact hb
    · rfl, rfl, rfl, fun _ => Iff.rfl⟩
end Go.Bv

namespace Go.Bv
variable {P : Program} {ops : Array Oper} {o : Oper} {T : VS}

theorem take_rel {M : Nat → Nat → Option Value} {sz n : Nat} {es : List (List D)} {news : List Value} (hl : news.length = es.length * sz) (hn : n ≤ es.length) (hls : ∀ e, e ∈ es → e.length = sz)
    (h : ∀ (i j : Nat) (e : List D) (x : D) (u : Value), es[i]? = some e → e[j]? = some x → news[i * sz + j]? = some u → RelD M x u) :
    (news.take (n * sz)).length = (es.take n).length * sz ∧ (∀ e, e ∈ es.take n → e.length = sz) ∧ ∀ (i j : Nat) (e : List D) (x : D) (u : Value), (es.take n)[i]? = some e → e[j]? = some x → (news.take (n * sz))[i * sz + j]? = some u → RelD M x u := by
  have hm : n * sz ≤ es.length * sz := Nat.mul_le_mul_right _ hn
  refine ⟨by simp [Nat.min_eq_left hn]; omega, fun e he => hls e (List.mem_of_mem_take he), fun i j e x u hi hj hu => ?_⟩
  rw [List.getElem?_take] at hi hu
  split at hi
  · split at hu
    · exact h i j e x u hi hj hu
    · cases hu
  · cases hi

theorem step_copy {x y : Operand} {t t' e sz bytes id off len fz : Nat} {nil : Bool} {es es' : List (List D)} {rd' : List Nat} (ho : o.op = .call { callee := .builtin .copy, args := #[x, y], argTypes := #[t, t'] }) (hd : ∀ d, o.dst = some d → d < T.N)
    (ht : appTy P t = some (e, sz, bytes)) (hy : slOf (hget T.hp) sz (evalV T.tm y) = some (es', rd')) (hx : winS sz (evalV T.tm x) = some (id, off, len)) (hb : hget T.hp id = some (.row sz fz nil es)) (hol : off + len ≤ es.length)
    (hfz : fz ≤ off ∨ min es'.length len = 0) :
    StepOK P ops o { val := .d (.int .i64 (min es'.length len : Nat)), wr := [(id, .row sz fz nil (es.take off ++ es'.take (min es'.length len) ++ es.drop (off + min es'.length len)))], rd := id :: rd' } T :=
  StepOK.of_val hd (fun c => by rw [ho]; exact fun e => by cases e) fun st ha E g a w hna hi hr => by
    obtain ⟨⟨hu, i, z, hii, hz, h1, h2, h3⟩, hsz⟩ := appTy_ok ht
    subst h1
    have hxr := hr x (by rw [ho]; simp [Op.operands, Call.operands])
    have hyr := hr y (by rw [ho]; simp [Op.operands, Call.operands])
    have hb' : hget st.hp id = some (.row i.size fz nil es) := by rw [ha.rd id (by simp [It.rd])]; exact hb
    have hys := sl_rel (g := g) (w := w) hyr hy hsz (rd_mem ha hi (fun i h => by simp [h])) hi.mem
    obtain ⟨cs, hcs⟩ := exec_builtin (P := P) a.eval o .copy #[x, y] #[t, t'] ho w
    generalize hn : min es'.length len = n at hfz ⊢
    by_cases hn0 : n = 0
    · subst hn0
      obtain ⟨ad, cap, hcy, hle, _, _⟩ := hys
      obtain ⟨a0, m, cap0, a', cap', _, _, _, _, hcx, _⟩ := win_rel hxr hx
      refine ⟨.int .i64 ((0 : Nat) : Int), w, g, ?_, .d (.int _ _), ?_⟩
      · rw [hcs]
        have hmin : Nat.min es'.length len = 0 := hn
        have hfc : (Builtin.firstCells i.size 0 (.slice ad es'.length cap)).run P w = .ok #[] w := by
          cases ad with
          | none => simp [Builtin.firstCells]
          | some ad => simp [Builtin.firstCells, loadCells, loadCellsFrom]
        cases a' with
        | none => simp [builtin, hcx, hcy, Builtin.copy_, run_underlying hu, Builtin.lenOf, hmin, sizeOf, typeInfo, hii, hfc, goInt]
        | some a' => simp [builtin, hcx, hcy, Builtin.copy_, run_underlying hu, Builtin.lenOf, hmin, sizeOf, typeInfo, hii, hfc, goInt, storeCells]
      · have : es.take off ++ es'.take 0 ++ es.drop (off + 0) = es := by simp
        rw [this]
        exact hset_same hi hb'
    · have hfz' : fz ≤ off := hfz.resolve_right hn0
      have hlen : 0 < len := by omega
      have hne : es' ≠ [] := fun h => by subst h; simp at hn; omega
      obtain ⟨k, arr, ty, cap, cap', hk, hsv, hw, hasz, hec, hl1, hrel, hM, hcx⟩ := win_row hi hxr hx hb' hlen hol
      obtain ⟨b, o', capY, news, hcy, hlex, hnl, hnews, hone, hl2, hn2⟩ := hys.news hne
      have hnle : n ≤ es'.length := by omega
      obtain ⟨ht1, ht2, ht3⟩ := take_rel hnl hnle hl2 hn2
      have htl : (es'.take n).length = n := by simp; omega
      have hmul : (off + n) * i.size ≤ cap * i.size := Nat.mul_le_mul_right _ (by omega)
      rw [Nat.add_mul] at hmul
      have hinv := hi.rowWrite (news := news.take (n * i.size)) (es2 := es'.take n) hb' hk hsv hw hasz hec hl1 hrel hM hfz' (by rw [htl]; omega) ht1 ht2 ht3
      have htn : (news.take (n * i.size)).length = n * i.size := by rw [ht1, htl]
      have hst := run_storeCells_at P k (off * i.size) ty (news.take (n * i.size)) 0 arr w hw (by rw [htn]; simp only [Nat.add_zero]; omega) (fun v hv => hone v (List.mem_of_mem_take hv))
      simp only [Nat.add_zero] at hst
      have hfc : (Builtin.firstCells i.size n (.slice (some ⟨b, o', none⟩) es'.length capY)).run P w = .ok (news.take (n * i.size)).toArray w :=
        run_firstCells_some (P := P) w i.size n _ es'.length capY _ htn (fun j v hj => by
          rw [List.getElem?_take] at hj
          split at hj
          · exact hnews j v hj
          · cases hj)
      rw [htl] at hinv
      have hnil : nil = false := by
        cases nil with
        | true => obtain ⟨rfl, _, _⟩ := (hi.blk id _ hb').1 rfl; simp at hol; omega
        | false => rfl
      subst hnil
      refine ⟨.int .i64 (n : Int), _, g, ?_, .d (.int _ _), hinv⟩
      rw [hcs]
      have hmin : Nat.min es'.length len = n := hn
      simp only [List.map_toArray, List.map_cons, List.map_nil, hcx, hcy, builtin, Builtin.copy_, Sem.run_bind, Sem.run_pure, run_underlying hu, Result.andThen_ok, List.getElem?_toArray, List.getElem?_cons_zero, List.getElem?_cons_succ, Builtin.lenOf, hmin, sizeOf, typeInfo, hii, hfc, goInt, hst]
      simp [sizeOf, typeInfo, hii, hfc, hst]

theorem step_clearRow {x : Operand} {t e sz bytes id off len fz : Nat} {nil : Bool} {es : List (List D)} {z : Value} {cs : List V} {ds : List D} (ho : o.op = .call { callee := .builtin .clear, args := #[x], argTypes := #[t] }) (hd : ∀ d, o.dst = some d → d < T.N)
    (ht : appTy P t = some (e, sz, bytes)) (hx : winS sz (evalV T.tm x) = some (id, off, len)) (hb : hget T.hp id = some (.row sz fz nil es)) (hol : off + len ≤ es.length)
    (hz : zeroOf P e = some z) (hcs : cellsV (constV z) = some cs) (hds : toDs cs = some ds) (hfz : fz ≤ off ∨ len = 0) :
    StepOK P ops o { val := .tup [], wr := [(id, .row sz fz nil (es.take off ++ repE len ds ++ es.drop (off + len)))], rd := [id] } T :=
  StepOK.of_val hd (fun c => by rw [ho]; exact fun e => by cases e) fun st ha E g a w hna hi hr => by
    obtain ⟨⟨hu, i, z', hii, hz', h1, h2, h3⟩, hsz⟩ := appTy_ok ht
    have hzz : z' = z := by
      unfold zeroOf at hz
      rw [hii] at hz
      simp only [Option.bind_some] at hz
      rw [hz'] at hz; cases hz; rfl
    subst hzz; subst h1
    have hxr := hr x (by rw [ho]; simp [Op.operands, Call.operands])
    have hb' : hget st.hp id = some (.row i.size fz nil es) := by rw [ha.rd id (by simp [It.rd])]; exact hb
    obtain ⟨cs', hcs'⟩ := exec_builtin (P := P) a.eval o .clear #[x] #[t] ho w
    by_cases hn0 : len = 0
    · subst hn0
      obtain ⟨a0, m, cap0, a', cap', _, _, _, _, hcx, _⟩ := win_rel hxr hx
      refine ⟨.tuple #[], w, g, ?_, .tup [] #[] rfl (fun i v c h _ => by simp at h), ?_⟩
      · rw [hcs']
        cases a' with
        | none => simp [builtin, hcx, Builtin.clear_, run_underlying hu]
        | some a' => simp [builtin, hcx, Builtin.clear_, run_underlying hu]
      · have : es.take off ++ repE 0 ds ++ es.drop (off + 0) = es := by simp [repE]
        rw [this]
        exact hset_same hi hb'
    · have hfz' : fz ≤ off := hfz.resolve_right hn0
      have hlen : 0 < len := by omega
      obtain ⟨k, arr, ty, cap, cap', hk, hsv, hw, hasz, hec, hl1, hrel, hM, hcx⟩ := win_row hi hxr hx hb' hlen hol
      obtain ⟨hn1, hl2, hn2⟩ := zeros_rel (g := g) (m := len) hcs hds h3
      have hmul : (off + len) * i.size ≤ cap * i.size := Nat.mul_le_mul_right _ (by omega)
      rw [Nat.add_mul] at hmul
      have hinv := hi.rowWrite (news := (Builtin.zeroCells z'.cells len).toList) (es2 := repE len ds) hb' hk hsv hw hasz hec hl1 hrel hM hfz' (by rw [repE_len]; omega) hn1 hl2 hn2
      have hzl : (Builtin.zeroCells z'.cells len).toList.length = len * i.size := by rw [hn1, repE_len]
      have hone : ∀ v ∈ (Builtin.zeroCells z'.cells len).toList, v.oneCell' = true := fun v hv => by
        have hzr := cells_rel (constV_rel g z') hcs
        simp only [Builtin.zeroCells, Array.toList_map, List.mem_map] at hv
        obtain ⟨q, hq, rfl⟩ := hv
        have hzs : z'.cells.size ≠ 0 := by rw [h3]; exact hsz
        have hlt : q % z'.cells.size < z'.cells.size := Nat.mod_lt _ (by omega)
        rw [getElem!_pos z'.cells _ hlt]
        have hcl : q % z'.cells.size < cs.length := by rw [← hzr.1]; exact hlt
        exact (hzr.2 _ _ _ (List.getElem?_eq_getElem hcl) (Array.getElem?_eq_getElem hlt)).2
      have hst := run_storeCells_at P k (off * i.size) ty (Builtin.zeroCells z'.cells len).toList 0 arr w hw (by rw [hzl]; simp only [Nat.add_zero]; omega) hone
      simp only [Nat.add_zero] at hst
      rw [repE_len] at hinv
      have hnil : nil = false := by
        cases nil with
        | true => obtain ⟨rfl, _, _⟩ := (hi.blk id _ hb').1 rfl; simp at hol; omega
        | false => rfl
      subst hnil
      refine ⟨.tuple #[], _, g, ?_, .tup [] #[] rfl (fun i v c h _ => by simp at h), hinv⟩
      rw [hcs']
      have hnz : ∃ l', len = l' + 1 := ⟨len - 1, by omega⟩
      obtain ⟨l', rfl⟩ := hnz
      simp [builtin, hcx, Builtin.clear_, run_underlying hu, zeroValue, typeInfo, hii, hz', hst]

theorem q_clear_none {ρ : Operand → V} {hg : Nat → Option Blk} {x : Operand} {t e : Nat} (ht : P.underlying t = some (.slice e)) (hx : lenS (ρ x) = some 0) : QOK P ρ hg (.call { callee := .builtin .clear, args := #[x], argTypes := #[t] }) ⟨.tup [], [], True⟩ := fun g ρc w o ho hcst hr _ _ _ => by
  have h := hr x (by simp [Op.operands, Call.operands])
  obtain ⟨a, cap, hc⟩ := lenS_rel h hx
  obtain ⟨cs', hcs'⟩ := exec_builtin (P := P) ρc o .clear #[x] #[t] ho w
  refine ⟨.tuple #[], ?_, .tup [] #[] rfl (fun i v c h _ => by simp at h)⟩
  rw [hcs']
  cases a with
  | none => simp [builtin, hc, Builtin.clear_, run_underlying ht]
  | some a => simp [builtin, hc, Builtin.clear_, run_underlying ht]
end Go.Bv
