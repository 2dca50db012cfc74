/- A part of the proof: an abstract heap, a verified walk over the program, and plain laws over lists. Conditions: none beyond the statement. -/
import Derived.Test.YtnbdnplmkifnhaaGreatDoorMB
import Derived.Laws.IdiomStrings
set_option linter.unusedVariables false
set_option linter.unusedSimpArgs false
namespace Go.Bv
variable {P : Program} {ops : Array Oper} {o : Oper} {T : VS}

theorem quiet_step {v : V} {rd : List Nat} (hd : ∀ d, o.dst = some d → d < T.N) (hnd : ∀ c, o.op ≠ .defer c) (h : QOK P (evalV T.tm) (hget T.hp) o.op ⟨v, rd, True⟩) : StepOK P ops o { val := v, rd := rd } T :=
  StepOK.of_quiet hd hnd h trivial

theorem ite_some {α : Type} {c : Bool} {x : Option α} {z : α} (h : (if c = true then x else none) = some z) : c = true ∧ x = some z := by
  split at h
  · exact ⟨by assumption, h⟩
  · cases h

theorem mE_ok {base : Nat} {e : Eff} (hd : ∀ d, o.dst = some d → d < T.N) (hnd : ∀ c, o.op ≠ .defer c) (h : mE P (evalV T.tm) (hget T.hp) base o.op = some e) : StepOK P ops o e T := by
  unfold mE at h
  split at h
  · rename_i elem x ho
    obtain ⟨vs, hv, rfl⟩ := Option.map_eq_some_iff.1 h
    exact step_box ho hd hv
  · rename_i elem ho
    split at h
    · rename_i z hz
      obtain ⟨vs, hv, rfl⟩ := Option.map_eq_some_iff.1 h
      exact step_alloc ho hd hz hv
    · cases h
  · rename_i t len parts ho
    split at h
    · rename_i e' ht
      split at h
      · rename_i z hz
        split at h
        · rename_i cs hcs
          split at h
          · rename_i hc
            obtain ⟨cs', hf, rfl⟩ := Option.map_eq_some_iff.1 h
            exact step_buildSlice ho hd ht hz hc.1 hc.2.1 hcs hc.2.2 hf
          · cases h
        · cases h
      · cases h
    · cases h
  · rename_i t x y ho
    split at h
    · cases h
    · rename_i vs hv
      split at h
      · rename_i hc
        split at h
        · rename_i id off hx
          split at h
          · rename_i cs hb
            split at h
            · rename_i hl; cases h; exact step_store_ptr ho hd hx hb hv hc.1 hc.2 hl
            · cases h
          · cases h
        · rename_i id sz i off hx
          split at h
          · rename_i sz' fz nil es ds rd2 hb hds
            split at h
            · rename_i e' he
              split at h
              · rename_i hcc
                obtain ⟨rfl, h1, h2⟩ := hcc
                cases h
                exact step_store_row ho hd hx hb he h1 hv hds hc.1 hc.2 h2
              · cases h
            · cases h
          · cases h
        · cases h
      · cases h
  · rename_i t l c ho
    split at h
    · rename_i e' sz bytes kl n kc m ht hl hc
      split at h
      · rename_i z hz
        split at h
        · rename_i cs hcs
          split at h
          · rename_i ds hds
            split at h
            · rename_i hcc
              cases h
              exact step_makeSlice ho hd ht hl hc hz hcs hds hcc.1 hcc.2.1 hcc.2.2.1 hcc.2.2.2
            · cases h
          · cases h
        · cases h
      · cases h
    · cases h
  · rename_i t ho
    split at h
    · rename_i p hp; cases h; exact step_makeMap ho rfl hd hp
    · cases h
  · rename_i t x k ok ho
    split at h
    · rename_i kt et ht
      split at h
      · rename_i id hx
        split at h
        · rename_i c0 es hb
          split at h
          · rename_i i v hf
            obtain ⟨hk, hf⟩ := ite_some hf
            cases h
            have := q_lookup (P := P) (ok := ok) ht hx hb hk hf (.inl ⟨i, rfl⟩)
            exact quiet_step hd hnd (by rw [ho]; exact this)
          · rename_i hf
            obtain ⟨hk, hf⟩ := ite_some hf
            split at h
            · rename_i z hz
              cases h
              have := q_lookup (P := P) (ok := ok) ht hx hb hk hf (.inr ⟨rfl, z, hz, rfl⟩)
              exact quiet_step hd hnd (by rw [ho]; exact this)
            · cases h
          · cases h
        · cases h
      · cases h
    · cases h
  · rename_i t m k x ho
    split at h
    · rename_i kt et id ht hm
      split at h
      · rename_i c0 es hb
        split at h
        · rename_i i v hf
          obtain ⟨hk, hf⟩ := ite_some hf
          cases h; exact step_mapSet (.inl ho) hd ht hm hb hk hf
        · rename_i hf
          obtain ⟨hk, hf⟩ := ite_some hf
          cases h; exact step_mapSet (.inl ho) hd ht hm hb hk hf
        · cases h
      · cases h
    · cases h
  · rename_i t m k x ho
    split at h
    · rename_i kt et id ht hm
      split at h
      · rename_i c0 es hb
        split at h
        · rename_i i v hf
          obtain ⟨hk, hf⟩ := ite_some hf
          cases h; exact step_mapSet (.inr ho) hd ht hm hb hk hf
        · rename_i hf
          obtain ⟨hk, hf⟩ := ite_some hf
          cases h; exact step_mapSet (.inr ho) hd ht hm hb hk hf
        · cases h
      · cases h
    · cases h
  · rename_i t m k ho
    split at h
    · rename_i kt et id ht hm
      split at h
      · rename_i c0 es z hb hz
        split at h
        · rename_i i v hf
          obtain ⟨hk, hf⟩ := ite_some hf
          cases h; exact step_mapEntry ho hd ht hm hb hk hf hz
        · rename_i hf
          obtain ⟨hk, hf⟩ := ite_some hf
          cases h; exact step_mapEntry ho hd ht hm hb hk hf hz
        · cases h
      · cases h
    · cases h
  · rename_i t m s x ho
    split at h
    · rename_i id kk n hm hs
      split at h
      · rename_i c0 es hb
        split at h
        · rename_i k v he
          split at h
          · rename_i hn
            cases h
            exact step_entryStore ho hd hm hs hb (by omega) he
          · cases h
        · cases h
      · cases h
    · cases h
  ·
    rename_i args ts ho
    split at h
    · rename_i x y t t' ha ht0
      rw [arr2 ha, arr2 ht0] at ho
      split at h
      · rename_i e' sz bytes ht
        split at h
        · rename_i es' rd' id off len hy hx
          split at h
          · rename_i sz' fz nil es hb
            split at h
            · rename_i hc
              obtain ⟨rfl, h1, h2⟩ := hc
              cases h; exact step_copy ho hd ht hy hx hb h1 h2
            · cases h
          · cases h
        · cases h
      · cases h
    · cases h
  ·
    rename_i args ts ho
    split at h
    · rename_i x t ha ht0
      rw [arr1 ha, arr1 ht0] at ho
      split at h
      · rename_i id hx
        split at h
        · rename_i c0 es p hb hp; cases h; exact step_clearMap ho hd hp hx hb
        · cases h
      · split at h
        · rename_i e' sz bytes ht
          split at h
          · rename_i id off len hw
            split at h
            · rename_i sz' fz nil es z hb hz
              split at h
              · rename_i cs hcs
                split at h
                · rename_i ds hds
                  split at h
                  · rename_i hc
                    obtain ⟨rfl, h1, h2⟩ := hc
                    cases h; exact step_clearRow ho hd ht hw hb h1 hz hcs hds h2
                  · cases h
                · cases h
              · cases h
            · cases h
          · split at h
            · rename_i hl
              cases h
              have hu := (appTy_ok ht).1.ht
              exact quiet_step hd hnd (by rw [ho]; exact q_clear_none hu hl)
            · cases h
        · cases h
    · cases h
  · rename_i t x ho
    split at h
    · rename_i l hx
      split at h
      · rename_i hs; cases h; exact step_range ho hd hs hx
      · cases h
    · cases h
  · rename_i it ho
    split at h
    · rename_i id hx
      split at h
      · rename_i l pos hb
        split at h
        · rename_i hp; cases h; exact step_next ho hd hx hb hp
        · rename_i hp; cases h; exact step_next_end ho hd hx hb hp
      · cases h
    · cases h
  ·
    rename_i args ts ho
    split at h
    · rename_i s x t t' ha ht0
      rw [arr2 ha, arr2 ht0] at ho
      split at h
      · rename_i htt
        subst htt
        split at h
        · rename_i e' sz bytes ht
          split at h
          · rename_i es' rd' hx
            split at h
            · rename_i hemp
              have hemp' : es' = [] := by simpa using hemp
              subst hemp'
              split at h
              · rename_i es rd hs
                cases h
                exact quiet_step hd hnd (by rw [ho]; exact q_append_none ht hs hx)
              · cases h
            · rename_i hemp
              have hne : es' ≠ [] := fun e => hemp (by rw [e]; rfl)
              split at h
              · rename_i hfull
                split at h
                · rename_i es rd hs
                  split at h
                  · rename_i hc; cases h; exact step_append_full ho hd ht hs hfull hx hne hc.1 hc.2
                  · cases h
                · cases h
              · split at h
                · rename_i old n hs
                  split at h
                  · rename_i sz' fz nil es hb
                    split at h
                    · rename_i hc
                      obtain ⟨rfl, h1, h2, h3, h4⟩ := hc
                      cases h; exact step_append_row ho hd ht hs hb h1 h2 hx hne h3 h4
                    · cases h
                  · cases h
                · cases h
          · cases h
        · cases h
      · split at h
        · rename_i e' sz bytes k' n ht ht' hx
          split at h
          · rename_i z hz
            split at h
            · rename_i cs hcs
              split at h
              · rename_i ds es rd hds hs
                split at h
                · rename_i hc
                  obtain ⟨h1, h2, h3, h4, h5⟩ := hc
                  cases h
                  have hn : n = ((n.toNat : Nat) : Int) := by omega
                  exact step_append_zeros ho hd ht ht' hs h2 (by rw [hx, ← hn]) (by omega) hz hcs hds h4 h5
                · cases h
              · cases h
            · cases h
          · cases h
        · cases h
    · cases h
  · obtain ⟨p, hp, rfl⟩ := Option.map_eq_some_iff.1 h
    exact quiet_step hd hnd (qE_ok hp)

theorem stepE_ok {base : Nat} {e : Eff} (hd : ∀ d, o.dst = some d → d < T.N) (hnd : ∀ c, o.op ≠ .defer c) (h : stepE P T.tm T.hp base o.op = some e) : StepOK P ops o e T := by
  simp only [stepE, mEf_eq] at h
  split at h
  · rename_i e' he; cases h; exact mE_ok hd hnd he
  · split at h
    · rename_i y hy
      split at h
      · rename_i F rd hF
        split at h
        · rename_i e' he
          cases h
          exact StepOK.frz ((frz_ok 1000).1 _ _ _ _ hF) (mE_ok (T := { T with hp := hsets T.hp F }) hd hnd he)
        · cases h
      · cases h
    · cases h
end Go.Bv

namespace Go.Bv
variable {P : Program} {ops : Array Oper} {o : Oper} {T : VS}

def isU8 (P : Program) (t : TypeId) : Bool := match P.underlying t with | some (.int .u8) => true | _ => false
theorem isU8_ok {t : TypeId} (h : isU8 P t = true) : P.underlying t = some (.int .u8) := by
  unfold isU8 at h
  split at h
  · assumption
  · cases h
theorem elemOf_ok' {t e : TypeId} (h : elemOf' P t = some e) : P.underlying t = some (.slice e) := by
  unfold elemOf' at h
  split at h
  · cases h; assumption
  · cases h
theorem bytesRow_get (l : List UInt8) (cap : Nat) (i : Nat) (b : UInt8) (h : l[i]? = some b) : (bytesRow ⟨l.toArray⟩ cap)[i]? = some (.int .u8 (b.toNat : Int)) := by
  have hlt := (List.getElem?_eq_some_iff.1 h).1
  unfold bytesRow
  rw [Array.getElem?_append_left (by simpa using hlt)]
  simp [h]
theorem grown_ge (w : World) (n : Nat) (e : TypeId) (h : n ≤ 9223372036854775807) : n ≤ grownCap w n 0 e := by
  unfold grownCap
  simp [Question.cut]
theorem step_tobytes {id : Nat} {s t e : TypeId} {x : Operand} {l : List UInt8} (ho : o.op = .convert s t x) (hd : ∀ d, o.dst = some d → d < T.N) (hs : isStr P s = true) (ht : elemOf' P t = some e) (he : isU8 P e = true)
    (hx : evalV T.tm x = .d (.str l)) : StepOK P ops o { val := .sref id l.length, nw := [(id, .brow l)] } T :=
  StepOK.of_val hd (fun c => by rw [ho]; exact fun e => by cases e) fun s' ha E g a w hna hi hr => by
    have hf := ha.fresh id (by simp [It.nw, pfst])
    have hxr := rel_str (by have := hr x (by rw [ho]; simp [Op.operands]); rw [hx] at this; exact this)
    have hrun := run_bytes_of_string (P := P) w s t e ⟨l.toArray⟩ (under_str hs) (elemOf_ok' ht) (isU8_ok he)
    have hsz : (⟨l.toArray⟩ : ByteArray).size = l.length := by simp [ByteArray.size]
    rw [hsz] at hrun
    have hge : l.length ≤ grownCap w l.length 0 e := grownCap_ge _ _ _ _
    refine ⟨_, _, g.bind id w.heap.size (some (.slice (some ⟨w.heap.size, 0, none⟩) l.length (grownCap w l.length 0 e))), ?_, .sref (Gh.bind_sv _ _ _ _) hge (fun _ => ⟨w.heap.size, Gh.bind_β _ _ _ _, rfl⟩),
      hi.drew.alloc hf hna (.cells (bytesRow ⟨l.toArray⟩ (grownCap w l.length 0 e)) e ((bytesRow ⟨l.toArray⟩ (grownCap w l.length 0 e)).size, (bytesRow ⟨l.toArray⟩ (grownCap w l.length 0 e)).size + 1)) (.brow l) _
        ⟨w.heap.size, _, e, grownCap w l.length 0 e, Gh.bind_β _ _ _ _, Gh.bind_sv _ _ _ _, heap_alloc_new _ _, hge, fun i b hb => bytesRow_get l _ i b hb, fun o' => ?_⟩⟩
    · rw [exec_conv ho, hxr, hrun]; rfl
    · cases hm : g.M w.heap.size o' with
      | none => exact hm
      | some c' => exact absurd (cell_lt (hi.mem _ _ _ hm)) (Nat.lt_irrefl _)
theorem q_load_brow {ρ : Operand → V} {hg : Nat → Option Blk} (t : TypeId) (x : Operand) (id i : Nat) (l : List UInt8) (b : UInt8) (hx : ρ x = .rptr id 1 i 0) (hb : hg id = some (.brow l)) (ht : aggOf P t = some false) (hl : l[i]? = some b) :
    QOK P ρ hg (.load t x) ⟨.d (.int .u8 (b.toNat : Int)), [id], True⟩ := fun g ρc w o ho hcst hr hbl _ _ => by
  have h := hr x (by simp [Op.operands])
  rw [hx] at h
  generalize hc : ρc x = c at h
  cases h with
  | @rptr _ _ _ _ k hk =>
    obtain ⟨k', arr, ty, cap, h1, h2, h3, h4, h5, _⟩ := hbl id (by simp) _ hb
    rw [hk] at h1; cases h1
    have hcell : w.cell? ⟨k, i * 1 + 0, none⟩ = some (.int .u8 (b.toNat : Int)) := by rw [cell_cells h3]; simpa using h5 i b hl
    refine ⟨_, ?_, .d (.int _ _)⟩
    unfold execOp; rw [ho]
    have hrun := run_loadVar1 ht hcell
    simp only [hc, Instr.loadAt, Instr.sureAddr, Sem.run_bind, Sem.run_pure, Result.andThen_ok, hrun]
theorem step_store_brow {t : TypeId} {x y : Operand} {id i : Nat} {l : List UInt8} {n : Nat} (ho : o.op = .store t x y) (hd : ∀ d, o.dst = some d → d < T.N) (hx : evalV T.tm x = .rptr id 1 i 0)
    (hb : hget T.hp id = some (.brow l)) (hi0 : i < l.length) (hv : evalV T.tm y = .d (.int .u8 (n : Int))) (hn : n < 256) (hz : szOf P t = 1) :
    StepOK P ops o { val := .junk, wr := [(id, .brow (l.set i (UInt8.ofNat n)))], rd := [id] } T :=
  StepOK.of_skip hd (fun c => by rw [ho]; exact fun e => by cases e) rfl fun s ha E g a w hna hi hr => by
    have hxr := hr x (by rw [ho]; simp [Op.operands])
    have hyr := rel_int (by have := hr y (by rw [ho]; simp [Op.operands]); rw [hv] at this; exact this)
    rw [hx] at hxr
    have hb' : hget s.hp id = some (.brow l) := by rw [ha.rd id (by simp [It.rd])]; exact hb
    generalize hc : a.eval x = c at hxr
    cases hxr with
    | @rptr _ _ _ _ k hk =>
      obtain ⟨k', arr, ty, cap, h1, h2, h3, h4, h5, h6⟩ := hi.blk id _ hb'
      rw [hk] at h1; cases h1
      have hia : i < arr.size := by
        have := h5 i l[i] (List.getElem?_eq_getElem hi0)
        exact (Array.getElem?_eq_some_iff.1 this).1
      have hcell : w.cell? ⟨k, i, none⟩ = some arr[i] := by rw [cell_cells h3]; exact Array.getElem?_eq_getElem hia
      have hfro : w.frozen? ⟨k, i, none⟩ = false := by
        unfold World.frozen?; rw [h3]; simp; omega
      have hst : (store (⟨k, i, none⟩ : Addr) (.int .u8 (n : Int))).run P w = .ok () (w.setRow k (arr.setIfInBounds i (.int .u8 (n : Int)))) := by
        rw [run_store_int]
        unfold stored
        rw [hcell]
        simp [hfro, setCell_eq_setRow w k i arr ty _ (.int .u8 (n : Int)) h3]
      have hset := setRow_heap w k arr (arr.setIfInBounds i (.int .u8 (n : Int))) ty _ h3
      refine ⟨_, g, ?_, hi.mod (w' := w.setRow k (arr.setIfInBounds i (.int .u8 (n : Int)))) hb' rfl hk (setRow_sz _ _ _) (fun j hj => setRow_ne _ _ _ _ hj) rfl rfl rfl (fun o' c' hm => ?_) (setRow_wg h3 (by simp)) ⟨k, _, ty, cap, hk, by rw [List.length_set]; exact h2, by rw [Array.size_setIfInBounds]; exact hset, by rw [List.length_set]; exact h4, fun j b hj => ?_, h6⟩⟩
      · unfold execOp; rw [ho]
        have hsz := run_sizeOf' (P := P) (w := w) hz (by decide)
        have hcs : (Value.int .u8 (n : Int)).cells = #[.int .u8 (n : Int)] := rfl
        have hadd : (⟨k, i * 1 + 0, none⟩ : Addr).add 0 = ⟨k, i, none⟩ := by simp [Addr.add]
        have hst2 : (storeCells (⟨k, i * 1 + 0, none⟩ : Addr) [.int .u8 (n : Int)]).run P w = .ok () (w.setRow k (arr.setIfInBounds i (.int .u8 (n : Int)))) := by
          simp only [storeCells, Sem.run_bind, hadd, hst, Result.andThen_ok]; rfl
        have hne : ¬ (#[.int .u8 (n : Int)] : Array Value).size ≠ 1 := by simp
        simp only [Instr.storeAt, Instr.sureAddr, hc, hyr, storeVar, Sem.run_bind, Sem.run_pure, Result.andThen_ok, hsz, hcs, if_neg hne, hst2]
      · rw [h6 o'] at hm; cases hm
      · rw [List.getElem?_set] at hj
        rw [Array.getElem?_setIfInBounds]
        split at hj
        · rename_i he
          subst he
          rw [if_pos rfl, if_pos hia]
          try rw [if_pos hi0] at hj
          cases hj
          rw [UInt8.toNat_ofNat', Nat.mod_eq_of_lt (by omega)]
        · rename_i he
          rw [if_neg he]; exact h5 j b hj
theorem q_bytes_back {ρ : Operand → V} {hg : Nat → Option Blk} (s t e : TypeId) (x : Operand) (id n : Nat) (l : List UInt8) (hx : ρ x = .sref id n) (hn : n = l.length) (hb : hg id = some (.brow l)) (hs : elemOf' P s = some e) (he : isU8 P e = true) (ht : isStr P t = true) :
    QOK P ρ hg (.convert s t x) ⟨.d (.str l), [id], True⟩ := fun g ρc w o ho hcst hr hbl _ _ => by
  subst hn
  have h := hr x (by simp [Op.operands])
  rw [hx] at h
  generalize hc : ρc x = c at h
  obtain ⟨k, arr, ty, cap, h1, h2, h3, h4, h5, _⟩ := hbl id (by simp) _ hb
  cases h with
  | @sref _ _ cap' a hsv hle h0 =>
    rw [hsv] at h2
    cases h2
    refine ⟨.string ⟨l.toArray⟩, ?_, .d (.str _)⟩
    rw [exec_conv ho, hc, run_convert_bytes_back w s t e ⟨k, 0, none⟩ cap l (elemOf_ok' hs) (isU8_ok he) (under_str ht) (fun j hj => by
      have : (⟨k, 0, none⟩ : Addr).add j = ⟨k, j, none⟩ := by unfold Addr.add; split <;> simp_all
      rw [this, cell_cells h3]; exact h5 j _ (List.getElem?_eq_getElem hj))]
    rfl

def stepB (P : Program) (ρ : Operand → V) (hg : Nat → Option Blk) (base : Nat) : Op → Option Eff
  | .convert s t x => match ρ x with
    | .d (.str l) => match elemOf' P t with
      | some e => if isStr P s = true ∧ isU8 P e = true then some { val := .sref base l.length, nw := [(base, .brow l)] } else none
      | none => none
    | .sref id n => match hg id with
      | some (.brow l) => match elemOf' P s with
        | some e => if isU8 P e = true ∧ isStr P t = true ∧ n = l.length then some { val := .d (.str l), rd := [id] } else none
        | none => none
      | _ => none
    | _ => none
  | .load t x => match ρ x with
    | .rptr id 1 i 0 => match hg id, aggOf P t with
      | some (.brow l), some false => match l[i]? with
        | some b => some { val := .d (.int .u8 (b.toNat : Int)), rd := [id] }
        | none => none
      | _, _ => none
    | _ => none
  | .store t x y => match ρ x, ρ y with
    | .rptr id 1 i 0, .d (.int .u8 n) => match hg id with
      | some (.brow l) => if i < l.length ∧ szOf P t = 1 ∧ 0 ≤ n ∧ n < 256 then some { val := .junk, wr := [(id, .brow (l.set i (UInt8.ofNat n.toNat)))], rd := [id] } else none
      | _ => none
    | _, _ => none
  | _ => none
theorem stepB_ok {base : Nat} {e : Eff} (hd : ∀ d, o.dst = some d → d < T.N) (hnd : ∀ c, o.op ≠ .defer c) (h : stepB P (evalV T.tm) (hget T.hp) base o.op = some e) : StepOK P ops o e T := by
  unfold stepB at h
  split at h
  · rename_i s t x ho
    split at h
    · rename_i l hx
      split at h
      · rename_i e' he
        split at h
        · rename_i hc; cases h
          exact step_tobytes ho hd hc.1 he hc.2 hx
        · cases h
      · cases h
    · rename_i id n hx
      split at h
      · rename_i l hb
        split at h
        · rename_i e' he
          split at h
          · rename_i hc; cases h
            exact quiet_step hd hnd (by rw [ho]; exact q_bytes_back s t e' x id n l hx hc.2.2 hb he hc.1 hc.2.1)
          · cases h
        · cases h
      · cases h
    · cases h
  · rename_i t x ho
    split at h
    · rename_i id i hx
      split at h
      · rename_i l hb ht
        split at h
        · rename_i b hl; cases h
          exact quiet_step hd hnd (by rw [ho]; exact q_load_brow t x id i l b hx hb ht hl)
        · cases h
      · cases h
    · cases h
  · rename_i t x y ho
    split at h
    · rename_i id i n hx hy
      split at h
      · rename_i l hb
        split at h
        · rename_i hc; cases h
          obtain ⟨m, rfl⟩ : ∃ m : Nat, n = m := ⟨n.toNat, by omega⟩
          simp only [Int.toNat_natCast]
          exact step_store_brow ho hd hx hb hc.1 hy (by omega) hc.2.1
        · cases h
      · cases h
    · cases h
  · cases h
end Go.Bv

namespace Go.Bv

mutual
def eqbD : D → D → Bool
  | .bool a, .bool b => a == b
  | .int k a, .int k' b => decide (k = k') && decide (a = b)
  | .str a, .str b => decide (a = b)
  | .slice n es, .slice n' es' => (n == n') && eqbLL es es'
  | .nilp, .nilp => true
  | .nilf, .nilf => true
  | .nili, .nili => true
  | .nilm, .nilm => true
  | .iface t x, .iface t' y => decide (t = t') && eqbD x y
  | _, _ => false
def eqbL : List D → List D → Bool
  | [], [] => true
  | x :: r, y :: r' => eqbD x y && eqbL r r'
  | _, _ => false
def eqbLL : List (List D) → List (List D) → Bool
  | [], [] => true
  | x :: r, y :: r' => eqbL x y && eqbLL r r'
  | _, _ => false
end
mutual
theorem eqbD_ok : ∀ (x y : D), eqbD x y = true → x = y
  | .bool a, .bool b, h => by simp [eqbD] at h; rw [h]
  | .int k a, .int k' b, h => by simp [eqbD] at h; rw [h.1, h.2]
  | .str a, .str b, h => by simp [eqbD] at h; rw [h]
  | .slice n es, .slice n' es', h => by simp only [eqbD, Bool.and_eq_true, beq_iff_eq] at h; rw [h.1, eqbLL_ok es es' h.2]
  | .nilp, .nilp, _ => rfl
  | .nilf, .nilf, _ => rfl
  | .nili, .nili, _ => rfl
  | .nilm, .nilm, _ => rfl
  | .iface t x, .iface t' y, h => by simp only [eqbD, Bool.and_eq_true, decide_eq_true_eq] at h; rw [h.1, eqbD_ok x y h.2]
  | .bool _, .int .., h | .bool _, .str _, h | .bool _, .slice .., h | .bool _, .nilp, h | .bool _, .nilf, h | .bool _, .nili, h | .bool _, .nilm, h | .bool _, .iface .., h => by simp [eqbD] at h
  | .int .., .bool _, h | .int .., .str _, h | .int .., .slice .., h | .int .., .nilp, h | .int .., .nilf, h | .int .., .nili, h | .int .., .nilm, h | .int .., .iface .., h => by simp [eqbD] at h
  | .str _, .bool _, h | .str _, .int .., h | .str _, .slice .., h | .str _, .nilp, h | .str _, .nilf, h | .str _, .nili, h | .str _, .nilm, h | .str _, .iface .., h => by simp [eqbD] at h
  | .slice .., .bool _, h | .slice .., .int .., h | .slice .., .str _, h | .slice .., .nilp, h | .slice .., .nilf, h | .slice .., .nili, h | .slice .., .nilm, h | .slice .., .iface .., h => by simp [eqbD] at h
  | .nilp, .bool _, h | .nilp, .int .., h | .nilp, .str _, h | .nilp, .slice .., h | .nilp, .nilf, h | .nilp, .nili, h | .nilp, .nilm, h | .nilp, .iface .., h => by simp [eqbD] at h
  | .nilf, .bool _, h | .nilf, .int .., h | .nilf, .str _, h | .nilf, .slice .., h | .nilf, .nilp, h | .nilf, .nili, h | .nilf, .nilm, h | .nilf, .iface .., h => by simp [eqbD] at h
  | .nili, .bool _, h | .nili, .int .., h | .nili, .str _, h | .nili, .slice .., h | .nili, .nilp, h | .nili, .nilf, h | .nili, .nilm, h | .nili, .iface .., h => by simp [eqbD] at h
  | .nilm, .bool _, h | .nilm, .int .., h | .nilm, .str _, h | .nilm, .slice .., h | .nilm, .nilp, h | .nilm, .nilf, h | .nilm, .nili, h | .nilm, .iface .., h => by simp [eqbD] at h
  | .iface .., .bool _, h | .iface .., .int .., h | .iface .., .str _, h | .iface .., .slice .., h | .iface .., .nilp, h | .iface .., .nilf, h | .iface .., .nili, h | .iface .., .nilm, h => by simp [eqbD] at h
theorem eqbL_ok : ∀ (x y : List D), eqbL x y = true → x = y
  | [], [], _ => rfl
  | x :: r, y :: r', h => by simp only [eqbL, Bool.and_eq_true] at h; rw [eqbD_ok x y h.1, eqbL_ok r r' h.2]
  | [], _ :: _, h => by simp [eqbL] at h
  | _ :: _, [], h => by simp [eqbL] at h
theorem eqbLL_ok : ∀ (x y : List (List D)), eqbLL x y = true → x = y
  | [], [], _ => rfl
  | x :: r, y :: r', h => by simp only [eqbLL, Bool.and_eq_true] at h; rw [eqbL_ok x y h.1, eqbLL_ok r r' h.2]
  | [], _ :: _, h => by simp [eqbLL] at h
  | _ :: _, [], h => by simp [eqbLL] at h
end

def eqbF : Fn → Fn → Bool
  | .func f, .func f' => decide (f = f')
  | _, _ => false
theorem eqbF_ok {f f' : Fn} (h : eqbF f f' = true) : f = f' := by
  cases f <;> cases f' <;> simp [eqbF] at h
  rw [h]
mutual
def eqbV : V → V → Bool
  | .d x, .d y => eqbD x y
  | .ptr i o, .ptr i' o' => decide (i = i') && decide (o = o')
  | .sref i n, .sref i' n' => decide (i = i') && decide (n = n')
  | .ssub i s o l, .ssub i' s' o' l' => decide (i = i') && decide (s = s') && decide (o = o') && decide (l = l')
  | .emp0 b, .emp0 b' => b == b'
  | .bsl i s o l c, .bsl i' s' o' l' c' => decide (i = i') && decide (s = s') && decide (o = o') && decide (l = l') && decide (c = c')
  | .mapr i, .mapr i' => decide (i = i')
  | .iter i, .iter i' => decide (i = i')
  | .yld i, .yld i' => decide (i = i')
  | .glo i o, .glo i' o' => decide (i = i') && decide (o = o')
  | .fn f a c, .fn f' a' c' => eqbF f f' && eqbVL a a' && eqbVL c c'
  | .iface t v, .iface t' v' => decide (t = t') && eqbV v v'
  | .agg cs, .agg cs' => eqbVL cs cs'
  | .tup cs, .tup cs' => eqbVL cs cs'
  | .rptr i s k o, .rptr i' s' k' o' => decide (i = i') && decide (s = s') && decide (k = k') && decide (o = o')
  | .eptr e o, .eptr e' o' => eqbL e e' && decide (o = o')
  | .junk, .junk => true
  | _, _ => false
def eqbVL : List V → List V → Bool
  | [], [] => true
  | x :: r, y :: r' => eqbV x y && eqbVL r r'
  | _, _ => false
end
mutual
theorem eqbV_ok : ∀ (x y : V), eqbV x y = true → x = y := by
  intro x y h
  cases x with
  | d a => cases y <;> simp only [eqbV, Bool.false_eq_true] at h; rw [eqbD_ok _ _ h]
  | ptr => cases y <;> simp [eqbV] at h; simp [h]
  | sref => cases y <;> simp [eqbV] at h; simp [h]
  | ssub => cases y <;> simp [eqbV] at h; simp [h]
  | emp0 => cases y <;> simp [eqbV] at h; simp [h]
  | bsl => cases y <;> simp [eqbV] at h; simp [h]
  | mapr => cases y <;> simp [eqbV] at h; simp [h]
  | iter => cases y <;> simp [eqbV] at h; simp [h]
  | yld => cases y <;> simp [eqbV] at h; simp [h]
  | glo => cases y <;> simp [eqbV] at h; simp [h]
  | fn f a c =>
    cases y <;> simp only [eqbV, Bool.and_eq_true, Bool.false_eq_true] at h
    rw [eqbF_ok h.1.1, eqbVL_ok a _ h.1.2, eqbVL_ok c _ h.2]
  | iface t v =>
    cases y <;> simp only [eqbV, Bool.and_eq_true, Bool.false_eq_true, decide_eq_true_eq] at h
    rw [h.1, eqbV_ok v _ h.2]
  | agg cs => cases y <;> simp only [eqbV, Bool.false_eq_true] at h; rw [eqbVL_ok cs _ h]
  | tup cs => cases y <;> simp only [eqbV, Bool.false_eq_true] at h; rw [eqbVL_ok cs _ h]
  | rptr => cases y <;> simp [eqbV] at h; simp [h]
  | eptr e o => cases y <;> simp only [eqbV, Bool.and_eq_true, Bool.false_eq_true, decide_eq_true_eq] at h; rw [eqbL_ok e _ h.1, h.2]
  | junk => cases y <;> simp [eqbV] at h; rfl
theorem eqbVL_ok : ∀ (x y : List V), eqbVL x y = true → x = y := by
  intro x y h
  cases x with
  | nil => cases y <;> simp [eqbVL] at h; rfl
  | cons v r =>
    cases y with
    | nil => simp [eqbVL] at h
    | cons v' r' =>
      simp only [eqbVL, Bool.and_eq_true] at h
      rw [eqbV_ok v v' h.1, eqbVL_ok r r' h.2]
end
def eqbM : List (V × V) → List (V × V) → Bool
  | [], [] => true
  | (k, v) :: r, (k', v') :: r' => eqbV k k' && eqbV v v' && eqbM r r'
  | _, _ => false
theorem eqbM_ok : ∀ (x y : List (V × V)), eqbM x y = true → x = y := by
  intro x
  induction x with
  | nil => intro y h; cases y <;> simp [eqbM] at h; rfl
  | cons p r ih =>
    obtain ⟨k, v⟩ := p
    intro y h
    cases y with
    | nil => simp [eqbM] at h
    | cons p' r' =>
      obtain ⟨k', v'⟩ := p'
      simp only [eqbM, Bool.and_eq_true] at h
      rw [eqbV_ok _ _ h.1.1, eqbV_ok _ _ h.1.2, ih _ h.2]
def eqbB : Blk → Blk → Bool
  | .dead, .dead => true
  | .box f cs, .box f' cs' => (f == f') && eqbVL cs cs'
  | .row s f n es, .row s' f' n' es' => decide (s = s') && decide (f = f') && (n == n') && eqbLL es es'
  | .map c es, .map c' es' => decide (c = c') && eqbM es es'
  | .siter s p, .siter s' p' => decide (s = s') && decide (p = p')
  | .brow l, .brow l' => decide (l = l')
  | _, _ => false
theorem eqbB_ok {x y : Blk} (h : eqbB x y = true) : x = y := by
  cases x with
  | dead => cases y <;> simp [eqbB] at h; rfl
  | box f cs => cases y <;> simp only [eqbB, Bool.and_eq_true, Bool.false_eq_true, beq_iff_eq] at h; rw [h.1, eqbVL_ok _ _ h.2]
  | row s f n es => cases y <;> simp only [eqbB, Bool.and_eq_true, Bool.false_eq_true, beq_iff_eq, decide_eq_true_eq] at h; rw [h.1.1.1, h.1.1.2, h.1.2, eqbLL_ok _ _ h.2]
  | map c es => cases y <;> simp only [eqbB, Bool.and_eq_true, Bool.false_eq_true, decide_eq_true_eq] at h; rw [h.1, eqbM_ok _ _ h.2]
  | siter => cases y <;> simp [eqbB] at h; simp [h]
  | brow => cases y <;> simp [eqbB] at h; simp [h]
  | loop => cases y <;> simp [eqbB] at h
end Go.Bv

namespace Go.Bv

mutual
def refsV : V → List Nat
  | .ptr id _ => [id]
  | .rptr id _ _ _ => [id]
  | .sref id _ => [id]
  | .ssub id _ _ _ => [id]
  | .bsl id _ _ _ _ => [id]
  | .mapr id => [id]
  | .iter id => [id]
  | .yld id => [id]
  | .fn _ a c => napp (refsL a) (refsL c)
  | .iface _ v => refsV v
  | .agg cs => refsL cs
  | .tup cs => refsL cs
  | _ => []
def refsL : List V → List Nat
  | [] => []
  | v :: r => napp (refsV v) (refsL r)
end
def refsM : List (V × V) → List Nat
  | [] => []
  | (k, v) :: r => napp (refsV k) (napp (refsV v) (refsM r))
def refsT : List (Nat × V) → List Nat
  | [] => []
  | (_, v) :: r => napp (refsV v) (refsT r)
def refsB : Blk → List Nat
  | .box _ cs => refsL cs
  | .map _ es => refsM es
  | .loop _ _ tm _ _ _ _ _ => refsT tm
  | _ => []
def memN : Nat → List Nat → Bool
  | _, [] => false
  | a, b :: r => bif a == b then true else memN a r

def reach (hp : List (Nat × Blk)) : Nat → List Nat → List Nat → List Nat
  | 0, _, seen => seen
  | _ + 1, [], seen => seen
  | n + 1, id :: r, seen =>
    bif memN id seen then reach hp n r seen
    else match hget hp id with
      | some b => reach hp n (napp (refsB b) r) (napp seen [id])
      | none => reach hp n r seen

inductive Task where
  | call (f : FuncId) (args : List V) (H : List Blk)
  | code (rv : Option Nat) (c : Code) (s : VS)
inductive Res where
  | call (r : V) (H : List Blk)
  | code (e : Exit) (s : VS)

def keepT (keep : List Nat) : List (Nat × V) → List (Nat × V) → List (Nat × V)
  | [], acc => acc.reverse
  | (t, v) :: r, acc => bif memN t keep && !(acc.any fun p => p.1 == t) then keepT keep r ((t, v) :: acc) else keepT keep r acc

def dueE (ops : Array Oper) (o : Oper) (s : VS) : Option Bool :=
  match o.guard with
  | none => some true
  | some (j, want) => match guardTmp ops j with
    | some t => match lk s.tm t with | .d (.bool b) => some (b == want) | .tup [] => some false | _ => none
    | none => none

def dstOK (o : Oper) (N : Nat) : Bool := match o.dst with | none => true | some d => decide (d < N)

def maxId : List (Nat × Blk) → Nat → Nat
  | [], m => m
  | (i, _) :: r, m => maxId r (max i m)

def nodupB : List Nat → Bool
  | [] => true
  | a :: r => !memN a r && nodupB r
def allIn (hp : List (Nat × Blk)) : List Nat → Bool
  | [] => true
  | id :: r => (match hget hp id with | some _ => true | none => false) && allIn hp r
def geAll (n : Nat) : List Nat → List Nat
  | [] => []
  | id :: r => bif Nat.ble n id then id :: geAll n r else geAll n r
def mapBs (ν : List Nat) (hp : List (Nat × Blk)) : List Nat → List Blk
  | [] => []
  | id :: r => mapB (idx ν) (match hget hp id with | some b => b | none => .dead) :: mapBs ν hp r

def canon (na : Nat) (r : V) (hp : List (Nat × Blk)) : Option (V × List Blk) :=
  let old := rangeFrom 0 na
  let ν := napp old (geAll na (reach hp 100000 (napp old (refsV r)) []))
  bif nodupB ν then some (mapV (idx ν) r, mapBs ν hp ν) else none

def resV (P : Program) (s : VS) : ResultVar → Option V
  | .tmp t => some (lk s.tm t)
  | .cell a t => match aggOf P t, lk s.tm a with
    | some ag, .ptr id off => match hget s.hp id with | some (.box _ cs) => loadC ag (szOf P t) cs off | _ => none
    | _, _ => none
def allSome {α : Type} : List (Option α) → Option (List α)
  | [] => some []
  | some x :: r => (allSome r).map (x :: ·)
  | none :: _ => none
def resE (P : Program) (fn : Func) (s : VS) : Option V :=
  match allSome (fn.results.toList.map (resV P s)) with
  | some [v] => some v
  | some vs => some (.tup vs)
  | none => none

def ext : Type := FuncId → Option (List V → List Blk → Option (V × List Blk))

section
variable (P : Program) (ex : ext) (self : Task → Option Res)

def chOf (hp : List (Nat × Blk)) (R : List Nat) (H' : List Blk) (draw : Bool) (j : Nat) : Bool :=
  bif draw then match R[j]?, H'[j]? with
    | some id, some b' => match hget hp id with
      | some b => !(okB R b && eqbB (mapB (idx R) b) b')
      | none => true
    | _, _ => true
  else true
def backE (draw : Bool) (hp : List (Nat × Blk)) (base : Nat) (R : List Nat) (x : Option (V × List Blk)) : Option Eff :=
  match x with
  | some (r, H') =>
    bif Nat.ble (H'.length - R.length) 16 && Nat.ble R.length H'.length && nodupB R && allIn hp R && (rangeFrom base (H'.length - R.length)).all (fun i => !memN i R) then
      some (callEff R base (chOf hp R H' draw) r H')
    else none
  | none => none
def exE (f : FuncId) (args : List V) (H : List Blk) : Option (V × List Blk) :=
  match ex f with
  | some g => g args H
  | none => none
def callE (draw : Bool) (hp : List (Nat × Blk)) (base : Nat) (f : FuncId) (vs : List V) : Option Eff :=
  let R := reach hp 100000 (refsL vs) []
  match exE ex f (mapL (idx R) vs) (subH hp R R) with
  | some p => backE draw hp base R (some p)
  | none => match self (.call f (mapL (idx R) vs) (subH hp R R)) with
    | some (.call r H') => backE draw hp base R (some (r, H'))
    | _ => none

def setTs (N : Nat) : List Nat → List V → List (Nat × V) → Option (List (Nat × V))
  | [], [], tm => some tm
  | t :: ts, v :: vs, tm => bif Nat.blt t N then setTs N ts vs ((t, v) :: tm) else none
  | _, _, _ => none

def pendOf : Exit → Option (Option Code)
  | .normal => some none
  | .ret => some (some .ret)
  | .exit id => some (some (.exit id))
  | .goto l => some (some (.goto l))
  | _ => none

def roundE (j : Nat) (args : List V) (H : List Blk) : Option (V × List Blk) :=
  match H[j]? with
  | some (.loop .ready pend tm N fn params assign body) =>
    match setTs N params.toList args tm with
    | some tm' =>
      match self (.code (some j) assign { tm := tm', hp := enumB 0 H, nx := H.length, us := [], N := N }) with
      | some (.code .normal s1) =>
        match hget s1.hp j with
        | some (.loop .ready pend tm N fn params assign body') =>
          match self (.code (some j) body { s1 with hp := hset s1.hp j (.loop .busy pend tm N fn params assign body') }) with
          | some (.code e s2) =>
            match pendOf e, hget s2.hp j with
            | some p, some (.loop _ _ tm N fn params assign body'') =>
              (canon H.length (.d (.bool p.isNone)) (hset s2.hp j (.loop (if p.isNone then .ready else .done) p tm N fn params assign body'')))
            | _, _ => none
          | _ => none
        | _ => none
      | _ => none
    | none => none
  | _ => none

def opE (draw : Bool) (o : Oper) (base : Nat) (s : VS) : Option Eff :=
  match o.op with
  | .call { callee := .value fx, args := args, argTypes := _ } =>
    match evalV s.tm fx with
    | .fn (.func f) first cap => bif callable P f then callE ex self draw s.hp base f (first ++ args.toList.map (evalV s.tm) ++ cap) else none
    | .yld id =>
      let vs := args.toList.map (evalV s.tm)
      let R := reach s.hp 100000 (id :: refsL vs) []
      match idx R id with
      | some j => backE draw s.hp base R (roundE self j (mapL (idx R) vs) (subH s.hp R R))
      | none => none
    | _ => none
  | .defer _ => none
  | op => stepE P s.tm s.hp base op

def freshAll (nx : Nat) (us : List Nat) : List (Nat × Blk) → Bool
  | [] => true
  | (i, _) :: r => Nat.ble nx i && !memN i us && freshAll nx us r
def ltAll (n : Nat) : List Nat → Bool
  | [] => true
  | i :: r => Nat.blt i n && ltAll n r

structure Rec where
  i : Nat
  o : Oper
  it : It
  T : VS
def Rec.foot (ops : Array Oper) (r : Rec) : Foot := { dst := r.o.dst, tr := r.o.looksAt ops, rd := r.it.rd, wr := r.it.wr }

def failsAt (anc : List Nat) (ops : Array Oper) (y : Rec) : List Rec → List (Rec × Rec)
  | [] => []
  | x :: r => bif anc.contains x.i || apartF (x.foot ops) (y.foot ops) then failsAt anc ops y r else (x, y) :: failsAt anc ops y r
def fails (ops : Array Oper) : List (List Nat) → List Rec → List Rec → List (Rec × Rec)
  | _, _, [] => []
  | [], _, y :: _ => [(y, y)]
  | a :: as, pre, y :: r => failsAt a ops y pre ++ fails ops as (y :: pre) r

def maskL : List Nat → Nat → Nat
  | [], m => m
  | i :: r, m => maskL r (Nat.lor m (Nat.shiftLeft 1 i))
def maskO : Option Nat → Nat
  | none => 0
  | some t => Nat.shiftLeft 1 t
structure FM where
  i : Nat
  d : Nat
  tr : Nat
  rd : Nat
  wr : Nat
def noB (a b : Nat) : Bool := Nat.beq (Nat.land a b) 0
def Rec.fm (ops : Array Oper) (r : Rec) : FM := { i := r.i, d := maskO r.o.dst, tr := maskL (r.o.looksAt ops) 0, rd := maskL r.it.rd 0, wr := maskL r.it.wr 0 }
def pairM (anc : Nat) (y : FM) : List FM → Bool
  | [] => true
  | x :: r => (Nat.testBit anc x.i || (noB x.d y.tr && (noB y.d x.tr && (noB x.d y.d && (noB x.wr y.rd && (noB y.wr x.rd && noB x.wr y.wr)))))) && pairM anc y r
def allM (ops : Array Oper) : List (List Nat) → List FM → List Rec → Bool
  | _, _, [] => true
  | [], _, _ :: _ => false
  | a :: as, pre, y :: r => pairM (maskL a 0) (y.fm ops) pre && allM ops as (y.fm ops :: pre) r
def okP (ops : Array Oper) (recs : List Rec) : Bool := edgesOK 0 ops.toList && allM ops (ancs ops.toList []) [] recs

def tolE (ops : Array Oper) (x y : Rec) : Bool :=
  match x.it, y.it with
  | .run ex, .run ey =>
    match ex.wr, ex.nw, ey.wr, ey.nw with
    | [], [], [(id, b)], [] =>
      notIn x.o.dst (y.o.looksAt ops) && notIn y.o.dst (x.o.looksAt ops) && notIn x.o.dst (y.o.dst.toList) &&
      (match hget x.T.hp id with | some _ => true | none => false) && (match x.o.guard with | none => true | some _ => false) && dstOK x.o x.T.N && (match x.o.op with | .defer _ => false | .lookup .. => true | _ => false) &&
      match mE P (evalV x.T.tm) (hget (hset x.T.hp id b)) 0 x.o.op with
      | some e' => eqbV e'.val ex.val && (match e'.wr, e'.nw with | [], [] => true | _, _ => false) && decide (e'.rd = ex.rd)
      | none => false
    | _, _, _, _ => false
  | _, _ => false
def chk2 (ops : Array Oper) (recs : List Rec) : Bool :=
  edgesOK 0 ops.toList && match fails ops (ancs ops.toList []) [] recs with
  | [] => true
  | [(x, y)] => tolE P ops x y
  | _ => false

def opsE (draw : Bool) (ops : Array Oper) (N nx : Nat) : List Oper → Nat → VS → List Rec → Option (VS × List Rec)
  | [], i, s, acc => bif ltAll (nx + 16 * i) s.us then some (s, acc) else none
  | o :: r, i, s, acc =>
    match dueE ops o s with
    | some true => bif dstOK o N then match opE P ex self draw o (nx + 16 * i) s with
      | some e => bif freshAll nx s.us e.nw then opsE draw ops N nx r (i + 1) (s.app o e) (bif draw then ⟨i, o, .run e, s⟩ :: acc else acc) else none
      | none => none
      else none
    | some false => bif dstOK o N then opsE draw ops N nx r (i + 1) (s.put o.dst (.tup [])) (bif draw then ⟨i, o, .skip, s⟩ :: acc else acc) else none
    | none => none
def regE (draw : Bool) (ops : Array Oper) (s : VS) : Option VS :=
  match opsE P ex self draw ops s.N s.nx ops.toList 0 s [] with
  | some (s', recs) => bif !draw || (okP ops recs.reverse || chk2 P ops recs.reverse) then some (s'.close ops.size) else none
  | none => none

def loopStart (s : VS) (params : Array Tmp) (assign body : Code) : VS := { s with hp := (s.nx, .loop .ready none s.tm s.N 0 params assign body) :: s.hp, nx := s.nx + 1, us := [] }
def loopOver (s : VS) (id : Nat) (pend : Option Code) (tm : List (Nat × V)) (N fn : Nat) (ps : Array Tmp) (as bd : Code) : VS := { s with hp := hset s.hp id (.loop .exhausted pend tm N fn ps as bd) }
def inLoopB (s : VS) : Option Nat → Bool
  | none => true
  | some j => match hget s.hp j with | some (.loop ..) => true | _ => false
def isNil : List Nat → Bool
  | [] => true
  | _ => false
def afterE (rv : Option Nat) (st : LoopState) (pend : Option Code) (s3 : VS) : Option Res :=
  match st with
  | .busy => none
  | _ => match pend with
    | none => some (.code .normal s3)
    | some c => self (.code rv c s3)
def rangeE (rv : Option Nat) (g : Operand) (params : Array Tmp) (assign body : Code) (s : VS) : Option Res :=
  bif inLoopB s rv && isNil s.us then
    match evalV s.tm g with
    | .fn (.func f) first cap => bif callable P f then match callE ex self false (loopStart s params assign body).hp (loopStart s params assign body).nx f (first ++ [.yld s.nx] ++ cap) with
      | some e => match hget (((loopStart s params assign body).mem e).close 1).hp s.nx with
        | some (.loop st pend tm N fn ps as bd) => afterE self rv st pend (loopOver (((loopStart s params assign body).mem e).close 1) s.nx pend tm N fn ps as bd)
        | _ => none
      | none => none
      else none
    | _ => none
  else none

def codeE (rv : Option Nat) (c : Code) (s : VS) : Option Res :=
  match c with
  | .skip => some (.code .normal s)
  | .label _ => some (.code .normal s)
  | .exit id => some (.code (.exit id) s)
  | .goto l => some (.code (.goto l) s)
  | .ret => some (.code .ret s)
  | .region _ ops draw => match regE P ex self draw ops s with
    | some s' => s'.force fun s' => some (.code .normal s')
    | none => none
  | .seq a b => match self (.code rv a s) with
    | some (.code .normal s') => self (.code rv b s')
    | x => x
  | .cond c a b => match evalV s.tm c with
    | .d (.bool true) => self (.code rv a s)
    | .d (.bool false) => self (.code rv b s)
    | _ => none
  | .block id b => match self (.code rv b s) with
    | some (.code (.exit id') s') => if id' = id then some (.code .normal s') else some (.code (.exit id') s')
    | x => x
  | .loop b => match self (.code rv b s) with
    | some (.code .normal s') => self (.code rv (.loop b) s')
    | x => x
  | .rangeFunc g params assign body => rangeE P ex self rv g params assign body s
  | .scope _ => none
  | .refuse _ => none

def callF (f : FuncId) (args : List V) (H : List Blk) : Option Res :=
  match P.funcs[f]? with
  | some fn => match fn.body with
    | some c => bif Nat.ble args.length fn.ntmps then
        match self (.code none c { tm := enumV 0 args, hp := enumB 0 H, nx := H.length, us := [], N := fn.ntmps }) with
        | some (.code e s') => match e with
          | .ret | .normal => match resE P fn s' with
            | some r => match canon H.length r s'.hp with
              | some p => some (.call p.1 p.2)
              | none => none
            | none => none
          | _ => none
        | _ => none
      else none
    | none => none
  | none => none
end

def run (P : Program) (ex : ext) : Nat → Task → Option Res
  | 0, _ => none
  | n + 1, .call f args H => callF P (run P ex n) f args H
  | n + 1, .code rv c s => codeE P ex (run P ex n) rv c s
end Go.Bv

namespace Go.Bv
variable {P : Program} {ops : Array Oper} {o : Oper} {T : VS}

def subG (g : Gh) (R : List Nat) : Gh := { M := g.M, β := fun j => (R[j]?).bind g.β, sv := fun j => (R[j]?).bind g.sv, glo := g.glo }
theorem sub_world {E : Ent} {g : Gh} {s : VS} {a : Act} {w : World} (hi : Inv E g s a w) {R : List Nat} (hnd : R.Nodup) :
    Ren (idx R) g (subG g R) ∧ RelH (subG g R) (enumB 0 (subH s.hp R R)) w ∧ Dom (subG g R) (subH s.hp R R).length := by
  have hren : Ren (idx R) g (subG g R) := by
    refine ⟨fun b o c h => h, fun id j k hj h => ?_, fun id j v hj h => ?_⟩
    · show (R[j]?).bind g.β = _; rw [idx_some hj]; exact h
    · show (R[j]?).bind g.sv = _; rw [idx_some hj]; exact h
  refine ⟨hren, {
    wg := hi.wg
    mem := hi.mem
    blk := fun j b hb => by
      rw [hget_enum0, subH_get] at hb
      obtain ⟨id, hid, rfl⟩ := Option.map_eq_some_iff.1 hb
      cases hg : hget s.hp id with
      | none => trivial
      | some b0 => exact (hi.blk id b0 hg).ren hren (idx_nth hnd hid) (fun _ _ _ _ e => e) (fun _ _ _ _ _ e => e) (fun e => by show (R[j]?).bind g.β = _; rw [hid]; exact e)
    inj := fun j j' b b' k hj hj' hh hh' hk hk' => by
      rw [hget_enum0, subH_get] at hj hj'
      obtain ⟨id, hid, rfl⟩ := Option.map_eq_some_iff.1 hj
      obtain ⟨id', hid', rfl⟩ := Option.map_eq_some_iff.1 hj'
      rw [mapB_holds] at hh hh'
      have hk1 : g.β id = some k := by have : (R[j]?).bind g.β = some k := hk; rw [hid] at this; exact this
      have hk2 : g.β id' = some k := by have : (R[j']?).bind g.β = some k := hk'; rw [hid'] at this; exact this
      cases hg : hget s.hp id with
      | none => rw [hg] at hh; cases hh
      | some b0 =>
        cases hg' : hget s.hp id' with
        | none => rw [hg'] at hh'; cases hh'
        | some b0' =>
          rw [hg] at hh; rw [hg'] at hh'
          have := hi.inj id id' b0 b0' k hg hg' hh hh' hk1 hk2
          subst this
          have h1 := idx_nth hnd hid
          rw [idx_nth hnd hid'] at h1
          injection h1 with h1; exact h1.symm }, fun j hj => ?_⟩
  rw [subH_len]
  rcases hj with h | h
  · have h' : ((R[j]?).bind g.β).isSome = true := h
    cases hR : R[j]? with
    | none => rw [hR] at h'; cases h'
    | some id => exact (List.getElem?_eq_some_iff.1 hR).1
  · have h' : ((R[j]?).bind g.sv).isSome = true := h
    cases hR : R[j]? with
    | none => rw [hR] at h'; cases h'
    | some id => exact (List.getElem?_eq_some_iff.1 hR).1

def RSpec (P : Program) (j : Nat) (args : List V) (H : List Blk) (r : V) (H' : List Blk) : Prop :=
  H.length ≤ H'.length ∧ ∀ (g : Gh) (w : World) (cargs : Array Value), RelH g (enumB 0 H) w → Dom g H.length → AllRel g args cargs → ∀ k, g.β j = some k →
    ∃ f tmps assign body, (Instr.yield k cargs).run P w = .ok (.round k f tmps assign body) w ∧
      ∀ (ro : Option Nat) (n : Nat) (R' : Ending → World → Prop), (∀ c w', Ends g H w r H' c w' → R' (.returned c) w') → RoundIn (rF ro) n P k f tmps assign body w R'

theorem exec_yld {ρc : Operand → Value} {c : Call} {fx : Operand} {k : Nat} {w : World} (ho : o.op = .call c) (hc : c.callee = .value fx) (hf : ρc fx = .func (.yield k) #[] #[]) :
    (execOp ρc o).run P w = (Instr.yield k (c.args.map ρc)).run P w := by
  unfold execOp
  rw [ho]
  simp only [resolve, hc, hf, Deferred.ofValue, Sem.run_bind, Sem.run_pure, Result.andThen_ok, invoke]
  simp

theorem step_yld {c : Call} {fx : Operand} {id j : Nat} {vs : List V} {R : List Nat} {base : Nat} {ch : Nat → Bool} {r : V} {H' : List Blk} (ho : o.op = .call c) (hc : c.callee = .value fx) (hf : evalV T.tm fx = .yld id) (hvs : vs = c.args.toList.map (evalV T.tm))
    (hd : ∀ d, o.dst = some d → d < T.N) (hnd : R.Nodup) (hj : idx R id = some j)
    (hin : ∀ id, id ∈ R → (hget T.hp id).isSome = true) (hsp : RSpec P j (mapL (idx R) vs) (subH T.hp R R) r H')
    (hch : ∀ (j id : Nat), R[j]? = some id → ch j = false → H'[j]? = (subH T.hp R R)[j]? ∧ okB R ((hget T.hp id).getD .dead) = true) (hno : ∀ i, i < H'.length - R.length → base + i ∉ R) :
    StepOK P ops o (callEff R base ch r H') T := by
  intro s ha ro E g a w n K Q hna hi hK
  have hnd' : ∀ c', o.op ≠ .defer c' := fun c' => by rw [ho]; exact fun e => by cases e
  have hev : ∀ x, x ∈ o.op.operands → RelV g (evalV T.tm x) (a.eval x) := fun x hx => by
    have h1 := hi.toRelS.eval x
    cases x with
    | tmp t =>
      have ht : t ∈ o.looksAt ops := by
        simp only [Oper.looksAt, List.mem_append, List.mem_filterMap]
        exact .inl ⟨.tmp t, by simpa using hx, rfl⟩
      simp only [evalV] at h1 ⊢
      rw [← ha.tm t ht]; exact h1
    | const v => exact h1
    | global g => exact h1
    | func f => exact h1
  have hin' : ∀ x, x ∈ (#[fx] ++ c.args : Array Operand) → x ∈ o.op.operands := fun x hx => by
    rw [ho]; simp only [Op.operands, Call.operands, hc]; exact hx
  have hfr' := hev fx (hin' fx (by simp))
  rw [hf] at hfr'
  generalize hcv : a.eval fx = cv at hfr'
  cases hfr' with
  | @yld _ k hk =>
  have hrd : ∀ id, id ∈ R → hget s.hp id = hget T.hp id := fun id h => ha.rd id h
  have hsub : subH s.hp R R = subH T.hp R R := subH_congr R hrd
  obtain ⟨hlen, hspec⟩ := hsp
  rw [← hsub] at hlen hspec hch
  have hnwf : pfst (callEff R base ch r H').nw = rangeFrom base (H'.length - R.length) := by
    simp only [callEff, nws_fst, List.length_drop]
  have hfr : ∀ i, i < H'.length - R.length → s.fresh (base + i) := fun i h => ha.fresh _ (by
    show base + i ∈ pfst (callEff R base ch r H').nw
    rw [hnwf]
    exact List.mem_of_getElem? (i := i) (by rw [rangeFrom_get, if_pos h]))
  obtain ⟨hren, hrel, hdom⟩ := sub_world hi hnd
  have hall : AllRel g vs (c.args.map a.eval) := by
    refine ⟨by rw [hvs]; simp, fun i v x hv hx => ?_⟩
    rw [hvs, List.getElem?_map] at hv
    obtain ⟨z, hz, rfl⟩ := Option.map_eq_some_iff.1 hv
    rw [Array.getElem?_map] at hx
    obtain ⟨z', hz', rfl⟩ := Option.map_eq_some_iff.1 hx
    simp only [Array.getElem?_toList] at hz
    rw [hz] at hz'; cases hz'
    exact hev z (hin' z (by simp [Array.mem_of_getElem? hz]))
  obtain ⟨f, tmps, assign, body, hy, hround⟩ := hspec (subG g R) w (c.args.map a.eval) hrel hdom (callVals hren hall) k (by show (R[j]?).bind g.β = _; rw [idx_some hj]; exact hk)
  refine ⟨fun _ _ => trivial, ?_⟩
  rw [Oper.semAt_eq _ _ _ hnd', exec_yld ho hc hcv, hy, Oper.uponIn_round]
  refine ⟨fun h => (by rw [rF_depth] at h; cases h), hround ro (n - 1) _ (fun c' w' hends => ?_)⟩
  obtain ⟨g', _, h1, h2⟩ := call_inv hi hna hnd (fun id h => by rw [hrd id h]; exact hin id h) rfl hlen (fun j id h1 h2 => by
    rw [hrd id (List.mem_of_getElem? h1)]; exact hch j id h1 h2) hfr hno rfl hends
  refine hK g' _ w' ?_
  unfold VS.app
  cases hdd : o.dst with
  | none => exact h2
  | some d => exact h2.put h1 (by have := hd d hdd; show d < s.N; rw [ha.N]; exact this)

def TaskOK (P : Program) : Task → Res → Prop
  | .call f args H, .call r H' => VSpec P f args H r H'
  | .code rv c s, .code e s' => VW P rv c s (fun e' s'' => e' = e ∧ s'' = s')
  | _, _ => False
def ExtOK (P : Program) (ex : ext) : Prop := ∀ f g args H r H', ex f = some g → g args H = some (r, H') → VSpec P f args H r H'

theorem memN_spec (a : Nat) : ∀ l : List Nat, memN a l = true ↔ a ∈ l := by
  intro l
  induction l with
  | nil => simp [memN]
  | cons b r ih =>
    simp only [memN]
    by_cases h : a = b
    · subst h; simp
    · simp only [beq_ne h, cond_false, ih, List.mem_cons, h, false_or]
theorem nodupB_spec : ∀ l : List Nat, nodupB l = true → l.Nodup := by
  intro l
  induction l with
  | nil => intro _; exact List.nodup_nil
  | cons a r ih =>
    intro h
    simp only [nodupB, Bool.and_eq_true, Bool.not_eq_true'] at h
    refine List.nodup_cons.2 ⟨fun hm => ?_, ih h.2⟩
    rw [(memN_spec a r).2 hm] at h; exact absurd h.1 (by simp)
theorem allIn_spec (hp : List (Nat × Blk)) : ∀ l : List Nat, allIn hp l = true → ∀ id, id ∈ l → (hget hp id).isSome = true := by
  intro l
  induction l with
  | nil => intro _ id h; cases h
  | cons a r ih =>
    intro h id hid
    simp only [allIn, Bool.and_eq_true] at h
    rcases List.mem_cons.1 hid with rfl | hid
    · cases hg : hget hp id with
      | none => rw [hg] at h; exact absurd h.1 (by simp)
      | some b => rfl
    · exact ih h.2 id hid

theorem backE_spec {draw : Bool} {hp : List (Nat × Blk)} {base : Nat} {R : List Nat} {x : Option (V × List Blk)} {e : Eff} (h : backE draw hp base R x = some e) :
    ∃ r H', x = some (r, H') ∧ e = callEff R base (chOf hp R H' draw) r H' ∧ H'.length - R.length ≤ 16 ∧ R.Nodup ∧ (∀ id, id ∈ R → (hget hp id).isSome = true) ∧ (∀ i, i < H'.length - R.length → base + i ∉ R) ∧
      (∀ (j id : Nat), R[j]? = some id → chOf hp R H' draw j = false → H'[j]? = (subH hp R R)[j]? ∧ okB R ((hget hp id).getD .dead) = true) := by
  unfold backE at h
  split at h
  · rename_i r H'
    cases hc : (Nat.ble (H'.length - R.length) 16 && Nat.ble R.length H'.length && nodupB R && allIn hp R && (rangeFrom base (H'.length - R.length)).all (fun i => !memN i R)) with
    | false => rw [hc] at h; cases h
    | true =>
      rw [hc] at h
      simp only [cond_true, Option.some.injEq] at h
      simp only [Bool.and_eq_true, List.all_eq_true, Bool.not_eq_true'] at hc
      obtain ⟨⟨⟨⟨h1, h2⟩, h3⟩, h4⟩, h5⟩ := hc
      refine ⟨r, H', rfl, h.symm, Nat.le_of_ble_eq_true h1, nodupB_spec R h3, allIn_spec hp R h4, fun i hi hm => ?_, fun j id hj hch => ?_⟩
      · have := h5 (base + i) (List.mem_of_getElem? (i := i) (by rw [rangeFrom_get, if_pos hi]))
        rw [(memN_spec _ _).2 hm] at this; cases this
      · unfold chOf at hch
        cases draw with
        | false => cases hch
        | true =>
          simp only [cond_true, hj] at hch
          cases hH : H'[j]? with
          | none => rw [hH] at hch; cases hch
          | some b' =>
            rw [hH] at hch
            simp only at hch
            cases hg : hget hp id with
            | none => rw [hg] at hch; cases hch
            | some b =>
              rw [hg] at hch
              simp only [Bool.not_eq_false', Bool.and_eq_true] at hch
              rw [subH_get, hj]
              simp only [Option.map_some, hg, Option.getD_some]
              exact ⟨by rw [eqbB_ok hch.2], hch.1⟩
  · cases h
end Go.Bv

namespace Go.Bv
variable {P : Program} {ops : Array Oper} {o : Oper} {T : VS}

theorem mapBs_eq (ν : List Nat) (hp : List (Nat × Blk)) : ∀ l, mapBs ν hp l = subH hp ν l := by
  intro l
  induction l with
  | nil => rfl
  | cons id r ih =>
    simp only [mapBs, subH, ih]
    cases hget hp id <;> rfl

theorem canon_ok {E : Ent} {g : Gh} {s : VS} {a : Act} {w : World} (hi : Inv E g s a w) {r r' : V} {H' : List Blk} {c : Value} (hr : RelV g r c) {na : Nat} (hna : E.na = na) (hc : canon na r s.hp = some (r', H')) :
    na ≤ H'.length ∧ ∃ g', RelV g' r' c ∧ RelH g' (enumB 0 H') w ∧ Fr E g' (enumB 0 H') w ∧ Dom g' H'.length := by
  subst hna
  unfold canon at hc
  dsimp only at hc
  generalize hl2 : geAll E.na (reach s.hp 100000 (napp (rangeFrom 0 E.na) (refsV r)) []) = l2 at hc
  cases hn : nodupB (napp (rangeFrom 0 E.na) l2) with
  | false => rw [hn] at hc; cases hc
  | true =>
    rw [hn] at hc
    simp only [cond_true, Option.some.injEq, Prod.mk.injEq] at hc
    obtain ⟨rfl, rfl⟩ := hc
    rw [napp_eq] at hn ⊢
    generalize hν : rangeFrom 0 E.na ++ l2 = ν at hn ⊢
    have hnd := nodupB_spec ν hn
    obtain ⟨hren, hrel, hdom⟩ := sub_world hi hnd
    rw [mapBs_eq]
    have hat : ∀ i, i < E.na → ν[i]? = some i := fun i hlt => by
      rw [← hν, List.getElem?_append_left (by rw [rangeFrom_len]; exact hlt), rangeFrom_get, if_pos hlt, Nat.zero_add]
    have hlen : E.na ≤ ν.length := by rw [← hν, List.length_append, rangeFrom_len]; omega
    refine ⟨by rw [subH_len]; exact hlen, subG g ν, hr.ren hren, hrel, {
      leM := hi.fr.leM
      leB := fun i hlt => by
        show (ν[i]?).bind g.β = _
        rw [hat i hlt]; exact hi.fr.leB i hlt
      leS := fun i hlt => by
        show (ν[i]?).bind g.sv = _
        rw [hat i hlt]; exact hi.fr.leS i hlt
      size := hi.fr.size
      os := hi.fr.os
      output := hi.fr.output
      tape := hi.fr.tape
      kept := hi.fr.kept
      own := fun k ⟨j, b, h1, h2, h3⟩ => by
        rw [hget_enum0, subH_get] at h1
        obtain ⟨id, hid, rfl⟩ := Option.map_eq_some_iff.1 h1
        rw [mapB_holds] at h2
        have h3' : (ν[j]?).bind g.β = some k := h3
        rw [hid] at h3'
        cases hg : hget s.hp id with
        | none => rw [hg] at h2; cases h2
        | some b0 => rw [hg] at h2; exact hi.fr.own k ⟨id, b0, hg, h2, h3'⟩
      mnew := hi.fr.mnew }, hdom⟩

theorem setTs_rel {g : Gh} {N : Nat} : ∀ (ps : List Nat) (vs : List V) (tm tm' : List (Nat × V)) (cs : List Value) (arr : Array Value), setTs N ps vs tm = some tm' → arr.size = N → cs.length = vs.length → (∀ (i : Nat) (v : V) (c : Value), vs[i]? = some v → cs[i]? = some c → RelV g v c) →
    (∀ t, RelV g (lk tm t) (arr.getD t undef)) → ps.length = vs.length ∧ ((ps.zip cs).foldl (fun tmps (p : Nat × Value) => tmps.setIfInBounds p.1 p.2) arr).size = N ∧ ∀ t, RelV g (lk tm' t) (((ps.zip cs).foldl (fun tmps (p : Nat × Value) => tmps.setIfInBounds p.1 p.2) arr).getD t undef) := by
  intro ps
  induction ps with
  | nil =>
    intro vs tm tm' cs arr h hs hl hr ht
    cases vs with
    | nil =>
      simp only [setTs, Option.some.injEq] at h
      subst h
      exact ⟨rfl, hs, ht⟩
    | cons => simp [setTs] at h
  | cons p ps ih =>
    intro vs tm tm' cs arr h hs hl hr ht
    cases vs with
    | nil => simp [setTs] at h
    | cons v vs =>
      cases cs with
      | nil => simp at hl
      | cons c cs =>
        simp only [setTs] at h
        cases hb : Nat.blt p N with
        | false => rw [hb] at h; cases h
        | true =>
          rw [hb] at h
          simp only [cond_true] at h
          have hpN : p < N := by simpa [Nat.blt_eq] using hb
          have hset : ∀ t, RelV g (lk ((p, v) :: tm) t) ((arr.setIfInBounds p c).getD t undef) := fun t => by
            rw [lk_cons]
            by_cases e : p = t
            · subst e
              rw [if_pos rfl]
              have : (arr.setIfInBounds p c).getD p undef = c := by simp [Array.getD_eq_getD_getElem?, hs, hpN]
              rw [this]
              exact hr 0 v c rfl rfl
            · rw [if_neg e, Array.getD_eq_getD_getElem?, Array.getElem?_setIfInBounds_ne e, ← Array.getD_eq_getD_getElem?]
              exact ht t
          obtain ⟨h1, h2, h3⟩ := ih vs ((p, v) :: tm) tm' cs (arr.setIfInBounds p c) h (by simp [hs]) (by simpa using hl) (fun i v c a b => hr (i + 1) v c (by simpa using a) (by simpa using b)) hset
          exact ⟨by simp [h1], by simpa using h2, by simpa using h3⟩

theorem Inv.setLoop {E : Ent} {g : Gh} {s : VS} {a : Act} {w : World} (h : Inv E g s a w) {id k db fn' : Nat} {st st' : LoopState} {pend pend' : Option Code} {tm : List (Nat × V)} {N fn : Nat} {ps : Array Tmp} {as bd : Code} {arr : Array Value} (hb : hget s.hp id = some (.loop st pend tm N fn ps as bd)) (hk : g.β id = some k)
    (hw : w.heap[k]? = some (.loop { state := st, pending := pend, fn := fn', tmps := arr, params := ps, assign := as, body := bd, defers := db })) (hs : arr.size = N) (ht : ∀ t, RelV g (lk tm t) (arr.getD t undef)) :
    (setObj k (.loop { state := st', pending := pend', fn := fn', tmps := arr, params := ps, assign := as, body := bd, defers := db })).run P w = .ok () (w.putObj k (.loop { state := st', pending := pend', fn := fn', tmps := arr, params := ps, assign := as, body := bd, defers := db })) ∧
    Inv E g { s with hp := hset s.hp id (.loop st' pend' tm N fn ps as bd) } a (w.putObj k (.loop { state := st', pending := pend', fn := fn', tmps := arr, params := ps, assign := as, body := bd, defers := db })) := by
  have hks := (Array.getElem?_eq_some_iff.1 hw).1
  refine ⟨by unfold setObj; simp only [Sem.run, hw]; rfl, h.mod (w' := w.putObj k _) hb rfl hk (by simp [World.putObj]) (fun j hj => by simp only [World.putObj]; rw [Array.getElem?_setIfInBounds_ne (Ne.symm hj)]) rfl rfl rfl (fun o c hm => ?_) (fun arr t f h => by rw [hw] at h; cases h) ⟨k, arr, db, fn', hk, by simp only [World.putObj]; rw [Array.getElem?_setIfInBounds_self_of_lt hks], hs, ht⟩⟩
  have := h.mem _ _ _ hm
  simp [World.cell?, hw] at this
theorem run_getLoop {w : World} {k : Nat} {l : Loop} (h : w.heap[k]? = some (.loop l)) : (Instr.getLoop k).run P w = .ok l w := by
  have : (getObj k).run P w = .ok (.loop l) w := by simp [getObj, Sem.run, h]
  simp only [Instr.getLoop, Sem.run_bind, this, Result.andThen_ok, Sem.run_pure]
end Go.Bv

namespace Go.Bv
variable {P : Program} {ops : Array Oper} {o : Oper} {T : VS}

theorem subH_len' (hp : List (Nat × Blk)) (R l : List Nat) : (subH hp R l).length = l.length := subH_len hp R l
theorem canon_len {na : Nat} {r r' : V} {hp : List (Nat × Blk)} {H' : List Blk} (hc : canon na r hp = some (r', H')) : na ≤ H'.length := by
  unfold canon at hc
  dsimp only at hc
  generalize geAll na (reach hp 100000 (napp (rangeFrom 0 na) (refsV r)) []) = l2 at hc
  cases hn : nodupB (napp (rangeFrom 0 na) l2) with
  | false => rw [hn] at hc; cases hc
  | true =>
    rw [hn] at hc
    simp only [cond_true, Option.some.injEq, Prod.mk.injEq] at hc
    obtain ⟨rfl, rfl⟩ := hc
    rw [mapBs_eq, subH_len, napp_eq, List.length_append, rangeFrom_len]; omega

theorem start_inv {g : Gh} {H : List Blk} {w : World} (hrel : RelH g (enumB 0 H) w) (hdom : Dom g H.length) {tm : List (Nat × V)} {N : Nat} {tmps : Array Value} (hs : tmps.size = N) (ht : ∀ t, RelV g (lk tm t) (tmps.getD t undef)) :
    Inv (entOf g H w) g { tm := tm, hp := enumB 0 H, nx := H.length, us := [], N := N } { tmps := tmps, defers := [] } w := {
  wg := hrel.wg
  mem := hrel.mem
  blk := hrel.blk
  inj := hrel.inj
  tm := ht
  size := hs
  dom := fun id hid => .inl (hdom id hid)
  fr := { leM := fun _ _ _ h => h, leB := fun _ _ => rfl, leS := fun _ _ => rfl, size := Nat.le_refl _, os := rfl, output := rfl, tape := rfl, kept := fun _ _ _ => rfl, own := fun k hk => .inl hk, mnew := fun _ _ _ h => .inl h }
  marks := ⟨[], rfl, List.nodup_nil, fun r hr => by cases hr⟩ }

theorem roundE_ok {self : Task → Option Res} (hself : ∀ t r, self t = some r → TaskOK P t r) {j : Nat} {args : List V} {H H' : List Blk} {r : V} (h : roundE self j args H = some (r, H')) : RSpec P j args H r H' := by
  unfold roundE at h
  split at h
  · rename_i pend tm N fn params assign body hHj
    split at h
    · rename_i tm' hset
      split at h
      · rename_i s1 hs1
        split at h
        · rename_i pend1 tm1 N1 fn1 params1 assign1 body1 hg1
          split at h
          · rename_i e s2 hs2
            split at h
            · rename_i p st2 pend2 tm2 N2 fn2 params2 assign2 body2 hp hg2
              refine ⟨canon_len h, fun g w cargs hrel hdom hall k hk => ?_⟩
              have hjl := (List.getElem?_eq_some_iff.1 hHj).1
              obtain ⟨k', arr, db, fn', hk', hw, has, htm⟩ := hrel.blk j _ (by rw [hget_enum0]; exact hHj)
              rw [hk] at hk'; cases hk'
              have hcl : cargs.toList.length = args.length := by simpa using hall.1
              obtain ⟨hpl, hfs, hft⟩ := setTs_rel params.toList args tm tm' cargs.toList arr hset has hcl (fun i v c a b => hall.2 i v c a (by simpa using b)) htm
              have hsz : ¬ cargs.size ≠ params.size := by
                have : params.toList.length = args.length := hpl
                simp at this
                have := hall.1
                omega
              have hfold : (params.zip cargs).foldl (fun tmps (x : Nat × Value) => tmps.setIfInBounds x.1 x.2) arr = (params.toList.zip cargs.toList).foldl (fun tmps (p : Nat × Value) => tmps.setIfInBounds p.1 p.2) arr := by
                rw [← Array.foldl_toList, Array.toList_zip]
              refine ⟨fn', (params.zip cargs).foldl (fun tmps (x : Nat × Value) => tmps.setIfInBounds x.1 x.2) arr, assign, body, ?_, fun ro n R' hR' => ?_⟩
              · simp only [Instr.yield, Sem.run_bind, run_getLoop hw, Result.andThen_ok, if_neg hsz, Sem.run_pure]
              · rw [hfold]
                have h1 := hself _ _ hs1
                have h2 := hself _ _ hs2
                have hinv := start_inv hrel hdom hfs hft
                have hro : RoOK (entOf g H w) (some j) (some k) := ⟨k, rfl, hjl, hk⟩
                refine roundIn_of_wpIn (F := rF ro) trivial ?_
                refine wpIn_mono (h1 (entOf g H w) g _ w n (some k) hro (Nat.le_refl _) hinv) ?_
                rintro e1 a1 w1 ⟨g1, s1', ⟨rfl, rfl⟩, hna1, hi1⟩
                have hk1 : g1.β j = some k := by rw [hi1.fr.leB j hjl]; exact hk
                obtain ⟨k', arr1, db1, fn1', hk1', hw1, has1, htm1⟩ := hi1.blk j _ hg1
                rw [hk1] at hk1'; cases hk1'
                obtain ⟨hso, hinv1⟩ := hi1.setLoop (P := P) (st' := .busy) (pend' := pend1) hg1 hk1 hw1 has1 htm1
                refine ⟨w1.putObj k (.loop { state := .busy, pending := pend1, fn := fn1', tmps := arr1, params := params1, assign := assign1, body := body1, defers := db1 }), ?_, ?_⟩
                · simp only [Instr.beginRound, Sem.run_bind, run_getLoop hw1, Result.andThen_ok, hso, Sem.run_pure]
                · refine wpIn_mono (h2 (entOf g H w) g1 a1 _ n (some k) hro hna1 hinv1) ?_
                  rintro e2 a2 w2 ⟨g2, s2', ⟨rfl, rfl⟩, hna2, hi2⟩
                  have hk2 : g2.β j = some k := by rw [hi2.fr.leB j hjl]; exact hk
                  obtain ⟨k', arr2, db2, fn2', hk2', hw2, has2, htm2⟩ := hi2.blk j _ hg2
                  rw [hk2] at hk2'; cases hk2'
                  obtain ⟨hso2, hinv2⟩ := hi2.setLoop (P := P) (st' := if p.isNone then .ready else .done) (pend' := p) hg2 hk2 hw2 has2 htm2
                  have hend : (Instr.endRound k p).run P w2 = .ok (.bool p.isNone) (w2.putObj k (.loop { state := if p.isNone then .ready else .done, pending := p, fn := fn2', tmps := arr2, params := params2, assign := assign2, body := body2, defers := db2 })) := by
                    simp only [Instr.endRound, Sem.run_bind, run_getLoop hw2, Result.andThen_ok, hso2, Sem.run_pure]
                  obtain ⟨_, g3, hr3, hh3, hf3, hd3⟩ := canon_ok hinv2 (r := .d (.bool p.isNone)) (.d (.bool _)) rfl h
                  have hfin := hR' (.bool p.isNone) _ ⟨g3, hr3, hh3, hf3, hd3⟩
                  cases e2 with
                  | normal => cases hp; exact ⟨_, _, hend, hfin⟩
                  | ret => cases hp; exact ⟨_, _, hend, hfin⟩
                  | exit id => cases hp; exact ⟨_, _, hend, hfin⟩
                  | goto l => cases hp; exact ⟨_, _, hend, hfin⟩
                  | panic c => cases hp
                  | outgrown => cases hp
            · cases h
          · cases h
        · cases h
      · cases h
    · cases h
  · cases h
end Go.Bv

namespace Go.Bv
variable {P : Program} {ops : Array Oper} {o : Oper} {T : VS}

theorem callE_ok {ex : ext} {self : Task → Option Res} (hex : ExtOK P ex) (hself : ∀ t r, self t = some r → TaskOK P t r) {draw : Bool} {hp : List (Nat × Blk)} {base : Nat} {f : FuncId} {vs : List V} {e : Eff} (h : callE ex self draw hp base f vs = some e) :
    ∃ (R : List Nat) (r : V) (H' : List Blk), e = callEff R base (chOf hp R H' draw) r H' ∧ H'.length - R.length ≤ 16 ∧ R.Nodup ∧ (∀ id, id ∈ R → (hget hp id).isSome = true) ∧ (∀ i, i < H'.length - R.length → base + i ∉ R) ∧
      (∀ (j id : Nat), R[j]? = some id → chOf hp R H' draw j = false → H'[j]? = (subH hp R R)[j]? ∧ okB R ((hget hp id).getD .dead) = true) ∧ VSpec P f (mapL (idx R) vs) (subH hp R R) r H' := by
  unfold callE at h
  dsimp only at h
  generalize reach hp 100000 (refsL vs) [] = R at h
  split at h
  · rename_i p hp
    obtain ⟨r, H', h1, h2, h16, h3, h4, h5, h6⟩ := backE_spec h
    refine ⟨R, r, H', h2, h16, h3, h4, h5, h6, ?_⟩
    unfold exE at hp
    split at hp
    · rename_i g hg
      exact hex f g _ _ _ _ hg (hp.trans h1)
    · cases hp
  · split at h
    · rename_i r0 H0 hs
      obtain ⟨r, H', h1, h2, h16, h3, h4, h5, h6⟩ := backE_spec h
      cases h1
      exact ⟨R, _, _, h2, h16, h3, h4, h5, h6, hself _ _ hs⟩
    · cases h

theorem opE_ok {ex : ext} {self : Task → Option Res} (hex : ExtOK P ex) (hself : ∀ t r, self t = some r → TaskOK P t r) {draw : Bool} {base : Nat} {s : VS} {e : Eff} (hd : ∀ d, o.dst = some d → d < s.N) (h : opE P ex self draw o base s = some e) : StepOK P ops o e s := by
  unfold opE at h
  split at h
  · rename_i fx args ts ho
    split at h
    · rename_i f first cap hf
      cases hc : callable P f with
      | false => rw [hc] at h; cases h
      | true =>
        rw [hc] at h
        simp only [cond_true] at h
        obtain ⟨R, r, H', rfl, _, h1, h2, h3, h4, h5⟩ := callE_ok hex hself h
        exact step_call (callAt ho rfl hf hc) hd h1 h2 h5 h4 h3
    · rename_i id hf
      dsimp only at h
      generalize hR : reach s.hp 100000 (id :: refsL (args.toList.map (evalV s.tm))) [] = R at h
      split at h
      · rename_i j hj
        obtain ⟨r, H', h1, rfl, _, h2, h3, h4, h5⟩ := backE_spec h
        exact step_yld (c := { callee := .value fx, args := args, argTypes := ts }) ho rfl hf rfl hd h2 hj h3 (roundE_ok hself h1) h5 h4
      · cases h
    · cases h
  · cases h
  · rename_i hno1 hno2
    exact stepE_ok hd (fun c e => hno2 c e) h

theorem dueE_due {ops : Array Oper} {o : Oper} {s : VS} (h : dueE ops o s = some true) : Due ops o s := by
  intro j want hg
  unfold dueE at h
  rw [hg] at h
  simp only at h
  split at h
  · rename_i t ht
    split at h
    · rename_i b hb
      simp only [Option.some.injEq, beq_iff_eq] at h
      subst h
      exact ⟨t, ht, hb⟩
    · simp at h
    · cases h
  · cases h
theorem dueE_not {ops : Array Oper} {o : Oper} {s : VS} (h : dueE ops o s = some false) : NotDue ops o s := by
  unfold dueE at h
  split at h
  · cases h
  · rename_i j want hg
    split at h
    · rename_i t ht
      split at h
      · rename_i b hb
        simp only [Option.some.injEq, beq_eq_false_iff_ne] at h
        refine ⟨j, want, t, hg, ht, .inl ?_⟩
        rw [hb]
        cases b <;> cases want <;> first | rfl | exact absurd rfl h
      · rename_i hb
        exact ⟨j, want, t, hg, ht, .inr hb⟩
      · cases h
    · cases h
theorem dstOK_spec {o : Oper} {N : Nat} (h : dstOK o N = true) : ∀ d, o.dst = some d → d < N := by
  intro d hd
  unfold dstOK at h
  rw [hd] at h
  simpa using h
theorem freshAll_spec {s : VS} : ∀ (nw : List (Nat × Blk)), freshAll s.nx s.us nw = true → ∀ j, j ∈ pfst nw → s.fresh j := by
  intro nw
  induction nw with
  | nil => intro _ j h; cases h
  | cons p r ih =>
    obtain ⟨i, b⟩ := p
    intro h j hj
    simp only [freshAll, Bool.and_eq_true, Bool.not_eq_true'] at h
    obtain ⟨⟨h1, h2⟩, h3⟩ := h
    simp only [pfst, List.mem_cons] at hj
    rcases hj with rfl | hj
    · rintro (h4 | h4)
      · have := Nat.le_of_ble_eq_true h1; omega
      · rw [(memN_spec _ _).2 h4] at h2; cases h2
    · exact ih h3 j hj
theorem ltAll_spec {n : Nat} : ∀ l : List Nat, ltAll n l = true → ∀ i, i ∈ l → i < n := by
  intro l
  induction l with
  | nil => intro _ i h; cases h
  | cons a r ih =>
    intro h i hi
    simp only [ltAll, Bool.and_eq_true] at h
    rcases List.mem_cons.1 hi with rfl | hi
    · simpa [Nat.blt_eq] using h.1
    · exact ih h.2 i hi

def Rec.itm (A : Nat → VS → Prop) (r : Rec) : Itm := { i := r.i, o := r.o, it := r.it, T := r.T, alt := match r.it with | .run _ => A r.i | .skip => fun _ => False }

def AltOK (P : Program) (ops : Array Oper) (A : Nat → VS → Prop) (r : Rec) : Prop := ∀ T, A r.i T → ∀ e, r.it = .run e → Due ops r.o T ∧ StepOK P ops r.o e T

theorem opsE_ok {ex : ext} {self : Task → Option Res} (hex : ExtOK P ex) (hself : ∀ t r, self t = some r → TaskOK P t r) {draw : Bool} {ops : Array Oper} {N nx : Nat} : ∀ (l : List Oper) (i : Nat) (s sn : VS) (acc out : List Rec), s.N = N → s.nx = nx → opsE P ex self draw ops N nx l i s acc = some (sn, out) →
    (∀ j, j ∈ sn.us → j < sn.nx + 16 * (i + l.length)) ∧ (draw = true → (∃ new, out.reverse = acc.reverse ++ new ∧ ∀ (k : Nat) (r : Rec), new[k]? = some r → r.i = i + k) ∧ out.length = acc.length + l.length) ∧
    ∀ (A : Nat → VS → Prop) (accI : List Itm) (K : VS → Prop), (draw = true → accI = acc.map (·.itm A)) → (draw = true → ∀ r, r ∈ out → AltOK P ops A r) → (draw = true → Pairs ops (out.reverse.map (·.itm A))) → (draw = false → ∀ j, ∀ T, ¬ A j T) → K (sn.close (i + l.length)) → VO P ops draw l i s accI K := by
  intro l
  induction l with
  | nil =>
    intro i s sn acc out hN hnx h
    subst hN; subst hnx
    simp only [opsE] at h
    cases hl : ltAll (s.nx + 16 * i) s.us with
    | false => rw [hl] at h; cases h
    | true =>
      rw [hl] at h
      simp only [cond_true, Option.some.injEq, Prod.mk.injEq] at h
      obtain ⟨rfl, rfl⟩ := h
      have hlt := ltAll_spec _ hl
      refine ⟨by simpa using hlt, fun _ => ⟨⟨[], by simp, fun k r h => by simp at h⟩, by simp⟩, fun A accI K h1 h2 h3 _ h4 => .done (fun hdr => ?_) hlt (by simpa using h4)⟩
      have := h3 hdr
      rw [h1 hdr, ← List.map_reverse]; exact this
  | cons o l ih =>
    intro i s sn acc out hN hnx h
    subst hN; subst hnx
    simp only [opsE] at h
    split at h
    · rename_i hdue
      cases hdst : dstOK o s.N with
      | false => rw [hdst] at h; cases h
      | true =>
        rw [hdst] at h
        simp only [cond_true] at h
        split at h
        · rename_i e he
          cases hfr : freshAll s.nx s.us e.nw with
          | false => rw [hfr] at h; cases h
          | true =>
            rw [hfr] at h
            simp only [cond_true] at h
            obtain ⟨h1, h2, h3⟩ := ih _ _ _ _ _ (VS.it_N s o (.run e)) (VS.it_nx s o (.run e)) h
            have hstep := opE_ok (ops := ops) hex hself (dstOK_spec hdst) he
            have e1 : i + 1 + l.length = i + (o :: l).length := by simp only [List.length_cons]; omega
            rw [e1] at h1
            refine ⟨h1, fun hdr => ?_, fun A accI K h4 h5 h6 h7 h8 => ?_⟩
            · obtain ⟨⟨new, hn1, hn2⟩, hn3⟩ := h2 hdr
              rw [hdr] at hn1 hn3
              simp only [cond_true, List.reverse_cons, List.append_assoc, List.singleton_append] at hn1
              simp only [cond_true, List.length_cons] at hn3
              refine ⟨⟨_, hn1, fun k r hk => ?_⟩, by simp only [List.length_cons]; omega⟩
              cases k with
              | zero => simp only [List.getElem?_cons_zero, Option.some.injEq] at hk; subst hk; rfl
              | succ k => have := hn2 k r (by simpa using hk); omega
            · refine .step e (A i) (dueE_due hdue) (fun j hj => freshAll_spec e.nw hfr j hj) hstep (fun T hT => ?_) ?_
              · cases draw with
                | false => exact absurd hT (h7 rfl i T)
                | true =>
                  obtain ⟨⟨new, hn1, hn2⟩, hn3⟩ := h2 rfl
                  have hmem : (⟨i, o, .run e, s⟩ : Rec) ∈ out := by
                    rw [← List.mem_reverse, hn1]
                    simp
                  exact h5 rfl _ hmem T hT e rfl
              · refine h3 A _ K (fun hdr => ?_) h5 h6 h7 (by rw [e1]; exact h8)
                rw [hdr]
                simp only [cond_true, List.map_cons]
                rw [h4 hdr]; rfl
        · cases h
    · rename_i hdue
      cases hdst : dstOK o s.N with
      | false => rw [hdst] at h; cases h
      | true =>
        rw [hdst] at h
        simp only [cond_true] at h
        obtain ⟨h1, h2, h3⟩ := ih _ _ _ _ _ (VS.it_N s o .skip) (VS.it_nx s o .skip) h
        have e1 : i + 1 + l.length = i + (o :: l).length := by simp only [List.length_cons]; omega
        rw [e1] at h1
        refine ⟨h1, fun hdr => ?_, fun A accI K h4 h5 h6 h7 h8 => ?_⟩
        · obtain ⟨⟨new, hn1, hn2⟩, hn3⟩ := h2 hdr
          rw [hdr] at hn1 hn3
          simp only [cond_true, List.reverse_cons, List.append_assoc, List.singleton_append] at hn1
          simp only [cond_true, List.length_cons] at hn3
          refine ⟨⟨_, hn1, fun k r hk => ?_⟩, by simp only [List.length_cons]; omega⟩
          cases k with
          | zero => simp only [List.getElem?_cons_zero, Option.some.injEq] at hk; subst hk; rfl
          | succ k => have := hn2 k r (by simpa using hk); omega
        · refine .skip (dueE_not hdue) (dstOK_spec hdst) ?_
          refine h3 A _ K (fun hdr => ?_) h5 h6 h7 (by rw [e1]; exact h8)
          rw [hdr]
          simp only [cond_true, List.map_cons]
          rw [h4 hdr]; rfl
    · cases h

theorem failsAt_spec {anc : List Nat} {ops : Array Oper} {y : Rec} : ∀ (l : List Rec) (x : Rec), x ∈ l → (x, y) ∈ failsAt anc ops y l ∨ x.i ∈ anc ∨ apartF (x.foot ops) (y.foot ops) = true := by
  intro l
  induction l with
  | nil => intro x h; cases h
  | cons z r ih =>
    intro x hx
    simp only [failsAt]
    cases hc : (anc.contains z.i || apartF (z.foot ops) (y.foot ops)) with
    | true =>
      simp only [cond_true]
      rcases List.mem_cons.1 hx with rfl | hx
      · rw [Bool.or_eq_true] at hc
        rcases hc with h | h
        · exact .inr (.inl (by simpa using h))
        · exact .inr (.inr h)
      · exact ih x hx
    | false =>
      simp only [cond_false]
      rcases List.mem_cons.1 hx with rfl | hx
      · exact .inl List.mem_cons_self
      · exact (ih x hx).imp (List.mem_cons_of_mem _) (fun h => h)
theorem fails_spec {ops : Array Oper} {all : List Rec} : ∀ (r : List Rec) (as : List (List Nat)) (pre : List Rec), pre.reverse ++ r = all → ∀ (k : Nat) (y : Rec), r[k]? = some y →
    (∃ x, (x, x) ∈ fails ops as pre r ∧ as.length ≤ k) ∨ ∃ a, as[k]? = some a ∧ ∀ x, x ∈ pre.reverse ++ r.take k → (x, y) ∈ fails ops as pre r ∨ x.i ∈ a ∨ apartF (x.foot ops) (y.foot ops) = true := by
  intro r
  induction r with
  | nil => intro as pre _ k y h; simp at h
  | cons z r ih =>
    intro as pre hall k y hk
    cases as with
    | nil => exact .inl ⟨z, by simp [fails], Nat.zero_le _⟩
    | cons a as =>
      simp only [fails]
      cases k with
      | zero =>
        simp only [List.getElem?_cons_zero, Option.some.injEq] at hk
        subst hk
        refine .inr ⟨a, rfl, fun x hx => ?_⟩
        simp only [List.take_zero, List.append_nil, List.mem_reverse] at hx
        exact (failsAt_spec pre x hx).imp (List.mem_append_left _) (fun h => h)
      | succ k =>
        simp only [List.getElem?_cons_succ] at hk
        rcases ih as (z :: pre) (by rw [← hall]; simp) k y hk with ⟨x, h1, h2⟩ | ⟨a', h1, h2⟩
        · exact .inl ⟨x, List.mem_append_right _ h1, by simp; omega⟩
        · refine .inr ⟨a', by simpa using h1, fun x hx => ?_⟩
          have hx' : x ∈ (z :: pre).reverse ++ r.take k := by
            simp only [List.reverse_cons, List.append_assoc, List.singleton_append]
            simpa using hx
          exact (h2 x hx').imp (List.mem_append_right _) (fun h => h)
end Go.Bv

namespace Go.Bv
variable {P : Program} {ops : Array Oper} {o : Oper} {T : VS}

theorem failsAt_mem {anc : List Nat} {ops : Array Oper} {y : Rec} : ∀ (l : List Rec) (p : Rec × Rec), p ∈ failsAt anc ops y l → p.1 ∈ l ∧ p.2 = y := by
  intro l
  induction l with
  | nil => intro p h; cases h
  | cons z r ih =>
    intro p h
    simp only [failsAt] at h
    cases hc : (anc.contains z.i || apartF (z.foot ops) (y.foot ops)) with
    | true => rw [hc] at h; exact ⟨List.mem_cons_of_mem _ (ih p h).1, (ih p h).2⟩
    | false =>
      rw [hc] at h
      simp only [cond_false, List.mem_cons] at h
      rcases h with rfl | h
      · exact ⟨List.mem_cons_self, rfl⟩
      · exact ⟨List.mem_cons_of_mem _ (ih p h).1, (ih p h).2⟩
theorem fails_mem {ops : Array Oper} : ∀ (r : List Rec) (as : List (List Nat)) (pre : List Rec) (p : Rec × Rec), p ∈ fails ops as pre r → (p.1 ∈ pre ∨ p.1 ∈ r) ∧ p.2 ∈ r := by
  intro r
  induction r with
  | nil => intro as pre p h; cases as <;> simp [fails] at h
  | cons z r ih =>
    intro as pre p h
    cases as with
    | nil =>
      simp only [fails, List.mem_singleton] at h
      subst h
      exact ⟨.inr List.mem_cons_self, List.mem_cons_self⟩
    | cons a as =>
      simp only [fails, List.mem_append] at h
      rcases h with h | h
      · obtain ⟨h1, h2⟩ := failsAt_mem _ _ h
        exact ⟨.inl h1, by rw [h2]; exact List.mem_cons_self⟩
      · obtain ⟨h1, h2⟩ := ih _ _ _ h
        refine ⟨?_, List.mem_cons_of_mem _ h2⟩
        rcases h1 with h1 | h1
        · rcases List.mem_cons.1 h1 with h1 | h1
          · exact .inr (by rw [h1]; exact List.mem_cons_self)
          · exact .inl h1
        · exact .inr (List.mem_cons_of_mem _ h1)

theorem Rec.foot_itm (A : Nat → VS → Prop) (r : Rec) : footOf ops (r.itm A) = r.foot ops := rfl

theorem testBit_maskL : ∀ (l : List Nat) (m x : Nat), Nat.testBit (maskL l m) x = (decide (x ∈ l) || Nat.testBit m x)
  | [], m, x => by simp [maskL]
  | i :: r, m, x => by
    simp only [maskL]
    rw [testBit_maskL r, testBit_add]
    by_cases h1 : x ∈ r <;> by_cases h2 : i = x <;> simp [h1, h2, eq_comm, Bool.or_comm]
theorem noB_spec {a b : Nat} (h : noB a b = true) (x : Nat) (ha : Nat.testBit a x = true) (hb : Nat.testBit b x = true) : False := by
  have h0 : a &&& b = 0 := Nat.eq_of_beq_eq_true h
  have := Nat.testBit_and a b x
  rw [h0, ha, hb] at this
  simp at this
theorem noB_disj {a b : List Nat} (h : noB (maskL a 0) (maskL b 0) = true) : disj a b = true := by
  simp only [disj, List.all_eq_true, Bool.not_eq_true', List.contains_eq_mem, decide_eq_false_iff_not]
  intro i hi hb
  exact noB_spec h i (by rw [testBit_maskL]; simp [hi]) (by rw [testBit_maskL]; simp [hb])
theorem testBit_maskO (d : Option Nat) (x : Nat) : Nat.testBit (maskO d) x = decide (d = some x) := by
  cases d with
  | none => simp [maskO]
  | some t =>
    show Nat.testBit (1 <<< t) x = _
    rw [Nat.one_shiftLeft, Nat.testBit_two_pow]
    simp
theorem noB_notIn {d : Option Nat} {l : List Nat} (h : noB (maskO d) (maskL l 0) = true) : notIn d l = true := by
  cases d with
  | none => rfl
  | some t =>
    simp only [notIn, Bool.not_eq_true', List.contains_eq_mem, decide_eq_false_iff_not]
    intro hi
    exact noB_spec h t (by rw [testBit_maskO]; simp) (by rw [testBit_maskL]; simp [hi])
theorem noB_dd {d d' : Option Nat} (h : noB (maskO d) (maskO d') = true) : notIn d d'.toList = true := by
  cases d with
  | none => rfl
  | some t =>
    simp only [notIn, Bool.not_eq_true', List.contains_eq_mem, decide_eq_false_iff_not]
    intro hi
    cases d' with
    | none => simp at hi
    | some t' =>
      simp at hi
      subst hi
      exact noB_spec h t (by rw [testBit_maskO]; simp) (by rw [testBit_maskO]; simp)
theorem pairM_fails {anc : List Nat} {y : Rec} : ∀ (pre : List Rec), pairM (maskL anc 0) (y.fm ops) (pre.map (·.fm ops)) = true → failsAt anc ops y pre = []
  | [], _ => rfl
  | x :: r, h => by
    simp only [List.map_cons, pairM, Bool.and_eq_true, Bool.or_eq_true] at h
    have hc : (anc.contains x.i || apartF (x.foot ops) (y.foot ops)) = true := by
      rcases h.1 with h1 | ⟨h1, h2, h3, h4, h5, h6⟩
      · have h1' : Nat.testBit (maskL anc 0) x.i = true := h1
        rw [testBit_maskL] at h1'
        simp at h1'
        simp [h1']
      · have : apartF (x.foot ops) (y.foot ops) = true := by
          simp only [apartF, Bool.and_eq_true]
          exact ⟨⟨⟨⟨⟨noB_notIn h1, noB_notIn h2⟩, noB_dd h3⟩, noB_disj h4⟩, noB_disj h5⟩, noB_disj h6⟩
        simp [this]
    simp only [failsAt, hc, cond_true]
    exact pairM_fails r h.2
theorem allM_fails : ∀ (L : List Rec) (as : List (List Nat)) (pre : List Rec), allM ops as (pre.map (·.fm ops)) L = true → fails ops as pre L = []
  | [], _, _, _ => by cases ‹List (List Nat)› <;> rfl
  | y :: r, [], _, h => by cases h
  | y :: r, a :: as, pre, h => by
    simp only [allM, Bool.and_eq_true] at h
    simp only [fails, pairM_fails pre h.1, List.nil_append]
    exact allM_fails r as (y :: pre) h.2
theorem chk2_of_okP {P : Program} {L : List Rec} (h : okP ops L = true) : chk2 P ops L = true := by
  simp only [okP, Bool.and_eq_true] at h
  simp only [chk2, h.1, allM_fails L _ [] h.2, Bool.and_self]

theorem pairs_but {L : List Rec} (hidx : ∀ (k : Nat) (r : Rec), L[k]? = some r → r.i = k) (hlen : L.length = ops.size) (A : Nat → VS → Prop)
    (hf : ∀ x y, (x, y) ∈ fails ops (ancs ops.toList []) [] L → x.i < y.i → Apart ops (x.itm A) (y.itm A)) (hself : ∀ x, (x, x) ∉ fails ops (ancs ops.toList []) [] L ∨ True) (he : edgesOK 0 ops.toList = true) :
    Pairs ops (L.map (·.itm A)) := by
  have hanc := ancs_good (ops := ops.toList) ops.toList [] (fun i => by simp) (fun k l hk => by simp at hk)
  refine ⟨he, fun x y hx hy hlt => ?_⟩
  obtain ⟨rx, hrx, rfl⟩ := List.mem_map.1 hx
  obtain ⟨ry, hry, rfl⟩ := List.mem_map.1 hy
  obtain ⟨kx, hkx⟩ := List.getElem?_of_mem hrx
  obtain ⟨ky, hky⟩ := List.getElem?_of_mem hry
  have ex := hidx kx rx hkx
  have ey := hidx ky ry hky
  have hlt' : kx < ky := by
    have : rx.i < ry.i := hlt
    omega
  have hkl := (List.getElem?_eq_some_iff.1 hky).1
  rcases fails_spec L (ancs ops.toList []) [] rfl ky ry hky with ⟨x, _, h2⟩ | ⟨a, ha, hp⟩
  · have := hanc.2; simp at this; omega
  · have hm : rx ∈ [].reverse ++ L.take ky := by
      simp only [List.reverse_nil, List.nil_append]
      exact List.mem_of_getElem? (i := kx) (by rw [List.getElem?_take, if_pos hlt']; exact hkx)
    rcases hp rx hm with h | h | h
    · exact .inr (hf rx ry h (by omega))
    · refine .inl ?_
      have := hanc.1 ky a ha rx.i h
      show Rch ops.toList ry.i rx.i
      rw [ey]; exact this
    · exact .inr (.inl (indep_of h))

theorem pairs_of_chk2 {L : List Rec} (hidx : ∀ (k : Nat) (r : Rec), L[k]? = some r → r.i = k) (hlen : L.length = ops.size) (h : chk2 P ops L = true) :
    ∃ A : Nat → VS → Prop, (∀ r, r ∈ L → AltOK P ops A r) ∧ Pairs ops (L.map (·.itm A)) := by
  unfold chk2 at h
  simp only [Bool.and_eq_true] at h
  obtain ⟨he, h⟩ := h
  split at h
  · rename_i hf
    exact ⟨fun _ _ => False, fun r _ T hT => hT.elim, pairs_but hidx hlen _ (fun x y hxy => by rw [hf] at hxy; cases hxy) (fun _ => .inr trivial) he⟩
  · rename_i X Y hf
    have hmem := fails_mem L (ancs ops.toList []) [] (X, Y) (by rw [hf]; exact List.mem_singleton.2 rfl)
    have hX : X ∈ L := hmem.1.resolve_left (by simp)
    unfold tolE at h
    split at h
    · rename_i ex ey hex hey
      split at h
      · rename_i id b hw1 hn1 hw2 hn2
        simp only [Bool.and_eq_true] at h
        obtain ⟨⟨⟨⟨⟨⟨⟨h1, h2⟩, h3⟩, h4⟩, h5⟩, h6⟩, h7⟩, h8⟩ := h
        have hsome : (hget X.T.hp id).isSome = true := by cases hg : hget X.T.hp id with | none => rw [hg] at h4; cases h4 | some _ => rfl
        have hguard : X.o.guard = none := by cases hg : X.o.guard with | none => rfl | some _ => rw [hg] at h5; cases h5
        have hnd : ∀ c, X.o.op ≠ .defer c := fun c hc => by rw [hc] at h7; cases h7
        split at h8
        · rename_i e' he'
          simp only [Bool.and_eq_true, decide_eq_true_eq] at h8
          obtain ⟨⟨h9, h10⟩, h11⟩ := h8
          have heq : e' = ex := by
            have hv := eqbV_ok _ _ h9
            have hwn : e'.wr = [] ∧ e'.nw = [] := by
              split at h10
              · rename_i ha hb; exact ⟨ha, hb⟩
              · cases h10
            obtain ⟨v1, w1, n1, r1⟩ := e'
            obtain ⟨v2, w2, n2, r2⟩ := ex
            simp only at hv hwn h11 hw1 hn1
            rw [hv, hwn.1, hwn.2, h11, hw1, hn1]
          subst heq
          let T2 : VS := { X.T with hp := hset X.T.hp id b }
          refine ⟨fun i T => i = X.i ∧ T = T2, fun r hr T hT e hre => ?_, pairs_but hidx hlen _ (fun x y hxy hlt => ?_) (fun _ => .inr trivial) he⟩
          · obtain ⟨hi, rfl⟩ := hT
            obtain ⟨k, hk⟩ := List.getElem?_of_mem hr
            obtain ⟨k', hk'⟩ := List.getElem?_of_mem hX
            have e1 := hidx k r hk
            have e2 := hidx k' X hk'
            have : k = k' := by omega
            subst this
            rw [hk] at hk'
            cases hk'
            rw [hex] at hre
            cases hre
            exact ⟨fun j want hg => (by rw [hguard] at hg; cases hg), mE_ok (T := T2) (dstOK_spec h6) hnd he'⟩
          · rw [hf] at hxy
            simp only [List.mem_singleton, Prod.mk.injEq] at hxy
            obtain ⟨rfl, rfl⟩ := hxy
            refine .inr ⟨fun d hd => notIn_spec h1 d hd, fun d hd => notIn_spec h2 d hd, fun d hd e => notIn_spec h3 d hd (by have e' : y.o.dst = some d := e; rw [e']; simp), ?_, fun T hT => ⟨T2, ?_, fun t ht => ?_, ?_, ?_, fun i hi s hs => ?_⟩⟩
            · show x.it.wr = []
              rw [hex]; simp only [It.wr, hw1, hn1, pfst, napp]
            · refine .inr ?_
              show (match x.it with | .run _ => fun T => x.i = x.i ∧ T = T2 | .skip => fun _ => False) T2
              rw [hex]; exact ⟨rfl, rfl⟩
            all_goals
              have hT' : T = x.T ∨ T = T2 := by
                rcases hT with h | h
                · exact .inl h
                · have h' : (match x.it with | .run _ => fun T => x.i = x.i ∧ T = T2 | .skip => fun _ => False) T := h
                  rw [hex] at h'
                  exact .inr h'.2
            · rcases hT' with rfl | rfl <;> rfl
            · rcases hT' with rfl | rfl <;> rfl
            · rcases hT' with rfl | rfl <;> rfl
            · have hyit : hget (s.it (y.itm fun i T => i = x.i ∧ T = T2).o (y.itm fun i T => i = x.i ∧ T = T2).it).hp i = hget (hset s.hp id b) i := by
                show hget (s.it y.o y.it).hp i = _
                rw [hey]
                simp only [VS.it, VS.app, VS.put_hp, VS.mem, hw2, hn2, hsets, happ]
              rw [hyit]
              show _ = hget (hset x.T.hp id b) i
              rcases hT' with rfl | rfl
              · rw [hget_hset, hget_hset]
                by_cases hii : id = i
                · subst hii; rw [hs]
                · rw [if_neg (fun e => hii e.1), if_neg (fun e => hii e.1)]; exact hs
              · have hs' : hget s.hp i = hget (hset x.T.hp id b) i := hs
                rw [hget_hset]
                by_cases hii : id = i
                · subst hii
                  rw [hget_hset, if_pos ⟨rfl, hsome⟩] at hs'
                  rw [if_pos ⟨rfl, by rw [hs']; rfl⟩, hget_hset, if_pos ⟨rfl, hsome⟩]
                · rw [if_neg (fun e => hii e.1)]; exact hs'
        · cases h8
      · cases h
    · cases h
  · cases h

theorem regE_ok {ex : ext} {self : Task → Option Res} (hex : ExtOK P ex) (hself : ∀ t r, self t = some r → TaskOK P t r) (hm : P.follows .mixedOrders = true) {draw : Bool} {rv : Option Nat} {id : Nat} {s s' : VS} (h : regE P ex self draw ops s = some s') :
    VW P rv (.region id ops draw) s (fun e s'' => e = .normal ∧ s'' = s') := by
  unfold regE at h
  split at h
  · rename_i sn recs hr
    obtain ⟨h1, h2, h3⟩ := opsE_ok hex hself ops.toList 0 s sn [] recs rfl rfl hr
    cases hc0 : (!draw || (okP ops recs.reverse || chk2 P ops recs.reverse)) with
    | false => rw [hc0] at h; cases h
    | true =>
      rw [hc0] at h
      have hc : (!draw || chk2 P ops recs.reverse) = true := by
        simp only [Bool.or_eq_true] at hc0 ⊢
        rcases hc0 with h0 | h0 | h0
        · exact .inl h0
        · exact .inr (chk2_of_okP h0)
        · exact .inr h0
      simp only [cond_true, Option.some.injEq] at h
      subst h
      have hsz : (0 : Nat) + ops.toList.length = ops.size := by simp
      refine VW.region (K := fun s'' => s'' = sn.close ops.size) hm ?_ (fun s'' hs => ⟨rfl, hs⟩)
      cases draw with
      | false => exact h3 (fun _ _ => False) [] _ (fun e => (by cases e)) (fun e => (by cases e)) (fun e => (by cases e)) (fun _ _ _ h => h) (by rw [hsz])
      | true =>
        simp only [Bool.not_true, Bool.false_or] at hc
        obtain ⟨⟨new, hn1, hn2⟩, hn3⟩ := h2 rfl
        simp only [List.reverse_nil, List.nil_append] at hn1
        obtain ⟨A, hA1, hA2⟩ := pairs_of_chk2 (L := recs.reverse) (fun k r hk => by rw [hn1] at hk; have := hn2 k r hk; omega) (by simp at hn3 ⊢; exact hn3) hc
        exact h3 A [] _ (fun _ => rfl) (fun _ r hr => hA1 r (by simpa using hr)) (fun _ => hA2) (fun e => (by cases e)) (by rw [hsz])
  · cases h
end Go.Bv

namespace Go.Bv
variable {P : Program} {rv : Option Nat} {s : VS} {Q : Exit → VS → Prop}

def VL (P : Program) (rv : Option Nat) (c : Code) (s : VS) (Q : Exit → VS → Prop) : Prop :=
  ∀ (E : Ent) (g : Gh) (a : Act) (w : World) (n : Nat) (ro : Option Nat), RoOK E rv ro → E.na ≤ s.nx → Inv E g s a w →
    ∀ (b : Frame) (k : List Item) (cs : List Frame), b.roundOf = (rF ro).round → (rF ro).fn b.fn → (rF ro).room (cs.length + 1 + n) →
      ∃ e a' w', (∃ g' s', Q e s' ∧ E.na ≤ s'.nx ∧ Inv E g' s' a' w') ∧ ArrivesIn (Machine.fenced P (rF ro)) P (lone (b.atR a (.code c :: .inLoop c :: k)) cs w) b k cs e a' w'

theorem VL.step {c : Code} (h : VW P rv c s (thenK (fun s' => VL P rv c s' Q) Q)) : VL P rv c s Q := by
  intro E g a w n ro hro h1 h2 b k cs hb hfn hroom
  obtain ⟨e, a1, w1, ⟨g', s', q, h5, h6⟩, harr⟩ := h E g a w n ro hro h1 h2 b (.inLoop c :: k) cs hb hfn hroom
  cases e with
  | normal =>
    obtain ⟨e2, a2, w2, hq2, harr2⟩ := q E g' a1 w1 n ro hro h5 h6 b k cs hb hfn hroom
    exact ⟨e2, a2, w2, hq2, .of_steps (StepsIn.trans harr (.one (fenced_calm hfn hroom rfl) stepR_inLoop)) harr2⟩
  | exit id => exact ⟨_, a1, w1, ⟨g', s', q, h5, h6⟩, .pass (x := .inLoop c) rfl (fun _ _ => .inl (by simp)) harr⟩
  | goto l => exact ⟨_, a1, w1, ⟨g', s', q, h5, h6⟩, .pass (x := .inLoop c) rfl (fun _ _ => .inl (by simp)) harr⟩
  | ret => exact ⟨_, a1, w1, ⟨g', s', q, h5, h6⟩, .pass (x := .inLoop c) rfl (fun _ _ => .inl (by simp)) harr⟩
  | panic ch => exact ⟨_, a1, w1, ⟨g', s', q, h5, h6⟩, .pass (x := .inLoop c) rfl (fun _ _ => .inl (by simp)) harr⟩
  | outgrown => exact ⟨_, a1, w1, ⟨g', s', q, h5, h6⟩, .pass (x := .inLoop c) rfl (fun _ _ => .inl (by simp)) harr⟩
theorem VW.of_VL {c : Code} (h : VL P rv c s Q) : VW P rv (.loop c) s Q := by
  intro E g a w n ro hro h1 h2 b k cs hb hfn hroom
  obtain ⟨e, a', w', hq, harr⟩ := h E g a w n ro hro h1 h2 b k cs hb hfn hroom
  exact ⟨e, a', w', hq, .of_steps (.one (fenced_calm hfn hroom rfl) stepR_loop) harr⟩

def CodeOK (P : Program) (rv : Option Nat) (c : Code) (s : VS) (e : Exit) (s' : VS) : Prop :=
  VW P rv c s (fun e' s'' => e' = e ∧ s'' = s') ∧ ∀ b, c = .loop b → VL P rv b s (fun e' s'' => e' = e ∧ s'' = s')
def TaskOK2 (P : Program) : Task → Res → Prop
  | .call f args H, .call r H' => VSpec P f args H r H'
  | .code rv c s, .code e s' => CodeOK P rv c s e s'
  | _, _ => False
theorem TaskOK2.one {t : Task} {r : Res} (h : TaskOK2 P t r) : TaskOK P t r := by
  cases t <;> cases r <;> first | exact h | exact h.1 | exact h.elim
theorem CodeOK.of {c : Code} {s s' : VS} {e : Exit} (hc : ∀ b, c ≠ .loop b) (h : VW P rv c s (fun e' s'' => e' = e ∧ s'' = s')) : CodeOK P rv c s e s' := ⟨h, fun b hb => absurd hb (hc b)⟩
end Go.Bv

namespace Go.Bv
variable {P : Program}

theorem Inv.allocOther {E : Ent} {g : Gh} {s : VS} {a : Act} {w : World} (h : Inv E g s a w) (o : Obj) : Inv E g s a (w.alloc o) := {
  wg := h.wg.of_lt (fun k hk => heap_alloc_lt hk)
  mem := fun b' o' c hm => by
    have := h.mem b' o' c hm
    rw [cell_heap (w := w) (heap_alloc_lt (cell_lt this))]; exact this
  blk := fun id b hb => (h.blk id b hb).step (Gh.le_refl g) (fun k x _ _ e => heap_alloc e) (fun _ _ _ _ _ e => e) (fun e => e)
  inj := h.inj
  tm := h.tm
  size := h.size
  dom := h.dom
  fr := {
    leM := h.fr.leM
    leB := h.fr.leB
    leS := h.fr.leS
    size := by have := h.fr.size; simp; omega
    os := h.fr.os
    output := h.fr.output
    tape := h.fr.tape
    kept := fun k hk hn => by rw [heap_alloc_lt (by have := h.fr.size; omega)]; exact h.fr.kept k hk hn
    own := h.fr.own
    mnew := h.fr.mnew }
  marks := by
    obtain ⟨ms, h1, h2, h3⟩ := h.marks
    exact ⟨ms, h1, h2, fun r hr => ⟨heap_alloc (h3 r hr).1, (h3 r hr).2⟩⟩ }
theorem Inv.mark {E : Ent} {g : Gh} {s : VS} {a : Act} {w : World} (h : Inv E g s a w) : Inv E g s { a with defers := { target := .collected w.heap.size, args := #[] } :: a.defers } (w.alloc (.deferred (some []))) := {
  h.allocOther (.deferred (some [])) with
  marks := by
    obtain ⟨ms, h1, h2, h3⟩ := h.marks
    refine ⟨w.heap.size :: ms, by simp [h1], List.nodup_cons.2 ⟨fun hm => ?_, h2⟩, fun r hr => ?_⟩
    · have := (Array.getElem?_eq_some_iff.1 (h3 _ hm).1).1
      exact absurd this (Nat.lt_irrefl _)
    · rcases List.mem_cons.1 hr with rfl | hr
      · exact ⟨heap_alloc_new _ _, h.fr.size⟩
      · exact ⟨heap_alloc (h3 r hr).1, (h3 r hr).2⟩ }

theorem Inv.loop {E : Ent} {g : Gh} {s : VS} {a : Act} {w : World} (h : Inv E g s a w) (hna : E.na ≤ s.nx) (hu : s.us = []) (fn db : Nat) (ps : Array Tmp) (as bd : Code) :
    ∃ g', g.le g' ∧ g'.β s.nx = some w.heap.size ∧ Inv E g' { s with hp := (s.nx, .loop .ready none s.tm s.N 0 ps as bd) :: s.hp, nx := s.nx + 1, us := [] } a (w.alloc (.loop { state := .ready, pending := none, fn := fn, tmps := a.tmps, params := ps, assign := as, body := bd, defers := db })) := by
  have hf : s.fresh s.nx := by
    rintro (h1 | h1)
    · exact Nat.lt_irrefl _ h1
    · rw [hu] at h1; cases h1
  have hle : g.le (g.bind s.nx w.heap.size none) := Gh.le_bind (h.toRelS.fresh_β hf) (h.toRelS.fresh_sv hf)
  refine ⟨_, hle, Gh.bind_β _ _ _ _, ?_⟩
  have hi := h.alloc hf hna (.loop { state := .ready, pending := none, fn := fn, tmps := a.tmps, params := ps, assign := as, body := bd, defers := db }) (.loop .ready none s.tm s.N 0 ps as bd) none
    ⟨w.heap.size, a.tmps, db, fn, Gh.bind_β _ _ _ _, heap_alloc_new _ _, h.size, fun t => (h.tm t).mono hle⟩
  refine hi.weaken (fun _ => .inr rfl) (fun _ _ hb => hb) (fun id hid => .inl ?_) rfl
  rcases hid with h1 | h1
  · exact Nat.lt_succ_of_lt h1
  · simp only [hu, List.mem_singleton] at h1
    show id < s.nx + 1
    omega

theorem rangeFunc_ok {ex : ext} {self : Task → Option Res} (hex : ExtOK P ex) (hself : ∀ t r, self t = some r → TaskOK P t r) {rv : Option Nat} {gf : Operand} {ps : Array Tmp} {as bd : Code} {s : VS} {res : Res} (h : codeE P ex self rv (.rangeFunc gf ps as bd) s = some res) :
    ∃ e s', res = .code e s' ∧ VW P rv (.rangeFunc gf ps as bd) s (fun e' s'' => e' = e ∧ s'' = s') := by
  have h0 : codeE P ex self rv (.rangeFunc gf ps as bd) s = rangeE P ex self rv gf ps as bd s := by unfold codeE; rfl
  rw [h0] at h
  unfold rangeE at h
  generalize hs1 : loopStart s ps as bd = s1 at h
  have hs1nx : s1.nx = s.nx + 1 := by rw [← hs1]; rfl
  have hs1us : s1.us = [] := by rw [← hs1]; rfl
  cases hc : (inLoopB s rv && isNil s.us) with
  | false => rw [hc] at h; cases h
  | true =>
    rw [hc] at h
    simp only [cond_true] at h
    simp only [Bool.and_eq_true] at hc
    have hus : s.us = [] := by
      cases hu : s.us with
      | nil => rfl
      | cons => rw [hu] at hc; exact absurd hc.2 (by simp [isNil])
    split at h
    · rename_i f first cap hf
      cases hcb : callable P f with
      | false => rw [hcb] at h; cases h
      | true =>
        rw [hcb] at h
        simp only [cond_true] at h
        split at h
        · rename_i e he
          obtain ⟨R, r, H', rfl, h16, hnd, hin, hno, hch, hspec⟩ := callE_ok hex hself he
          generalize hs2 : (s1.mem (callEff R s1.nx (chOf s1.hp R H' false) r H')).close 1 = s2 at h
          split at h
          · rename_i st pend tm N fn ps' as' bd' hg2
            generalize hs3 : loopOver s2 s.nx pend tm N fn ps' as' bd' = s3 at h

            have core : ∀ (Q : Exit → VS → Prop), st ≠ .busy → (pend = none → Q .normal s3) → (∀ c, pend = some c → VW P rv c s3 Q) → VW P rv (.rangeFunc gf ps as bd) s Q := by
              intro Q hst hq0 hq1 E g a w n ro hro hna hi
              refine wpIn_rangeFunc (fun fnid _ => ?_)

              have henter : ∃ (l : Nat) (mark : List Deferred) (w1 : World) (g1 : Gh), (Instr.enterLoop fnid a.tmps ps as bd (rF ro).round).run P w = .ok (l, mark) w1 ∧ g1.β s.nx = some l ∧ g.le g1 ∧ Inv E g1 s1 { a with defers := mark ++ a.defers } w1 := by
                cases rv with
                | none =>
                  have hro' : ro = none := hro
                  subst hro'
                  obtain ⟨g1, h1, h2, h3⟩ := hi.mark.loop hna hus fnid w.heap.size ps as bd
                  refine ⟨_, [{ target := .collected w.heap.size, args := #[] }], _, g1, ?_, h2, h1, by rw [← hs1]; exact h3⟩
                  simp only [rF, Instr.enterLoop, Sem.run_bind, Sem.run_pure, Result.andThen_ok]
                  simp
                | some j =>
                  obtain ⟨k, rfl, hjna, hjβ⟩ := hro
                  have hloop : ∃ st0 pe0 tm0 N0 fn0 ps0 as0 bd0, hget s.hp j = some (.loop st0 pe0 tm0 N0 fn0 ps0 as0 bd0) := by
                    have := hc.1
                    simp only [inLoopB] at this
                    split at this
                    · rename_i hh; exact ⟨_, _, _, _, _, _, _, _, hh⟩
                    · cases this
                  obtain ⟨st0, pe0, tm0, N0, fn0, ps0, as0, bd0, hgl⟩ := hloop
                  obtain ⟨k', arr, db, fn', hk', hw, has, htm⟩ := hi.blk j _ hgl
                  rw [hi.fr.leB j hjna, hjβ] at hk'
                  cases hk'
                  obtain ⟨g1, h1, h2, h3⟩ := hi.loop hna hus fnid db ps as bd
                  refine ⟨_, [], _, g1, ?_, h2, h1, by rw [← hs1]; exact h3⟩
                  simp only [rF, Instr.enterLoop, Sem.run_bind, Sem.run_pure, Result.andThen_ok, run_getLoop hw]
                  simp
              obtain ⟨l, mark, w1, g1, hen, hl, hle1, hi1⟩ := henter

              have hfr := (hi.toRelS.eval gf).mono hle1
              rw [hf] at hfr
              generalize hcv : a.eval gf = cv at hfr
              cases hfr with
              | fn _ _ _ fs cs hl1 hl2 hff hcc =>
                have hres : (resolve a.eval (rangeCall gf l) 0).run P w1 = .ok { target := .fn (.func f) cs, args := fs ++ #[.func (.yield l) #[] #[]] } w1 := by
                  simp only [resolve, rangeCall, hcv, Deferred.ofValue, Sem.run_pure, List.map_toArray, List.map_cons, List.map_nil]
                  rfl
                have hinv : (invoke (.fn (.func f) cs) (fs ++ #[.func (.yield l) #[] #[]])).run P w1 = .ok (.enter f (fs ++ #[.func (.yield l) #[] #[]] ++ cs)) w1 := by
                  simp only [invoke, run_call hcb]
                refine ⟨l, mark, w1, _, w1, f, _, w1, hen, hres, fun _ _ => trivial, hinv, fun hd => (by rw [rF_depth] at hd; cases hd), ?_⟩
                have hall : AllRel g1 (first ++ [V.yld s.nx] ++ cap) (fs ++ #[.func (.yield l) #[] #[]] ++ cs) := by
                  refine AllRel.append (AllRel.append ⟨hl1, hff⟩ ⟨rfl, fun i v c hv hc => ?_⟩) ⟨hl2, hcc⟩
                  match i with
                  | 0 => simp at hv hc; subst hv; subst hc; exact .yld hl
                  | i + 1 => simp at hv
                obtain ⟨hren, hrel, hdom⟩ := sub_world hi1 hnd
                obtain ⟨hlen, hsp⟩ := hspec
                have hcalls := hsp (subG g1 R) w1 _ hrel hdom (callVals hren hall)
                refine callsIn_rF (hcalls.mono ?_)
                rintro e' w' ⟨c, rfl, hends⟩
                have hna1 : E.na ≤ s1.nx := by rw [hs1nx]; omega
                have hfresh : ∀ i, i < H'.length - R.length → s1.fresh (s1.nx + i) := fun i _ => by
                  rintro (h1 | h1)
                  · omega
                  · rw [hs1us] at h1; cases h1
                obtain ⟨g', hle', _, hi2⟩ := call_inv hi1 hna1 hnd hin rfl hlen hch hfresh hno rfl hends
                have hi2' : Inv E g' s2 { a with defers := mark ++ a.defers } w' := by
                  rw [← hs2]
                  refine hi2.close (fun j hj => ?_)
                  have hus2 : (s1.mem (callEff R s1.nx (chOf s1.hp R H' false) r H')).us = rangeFrom s1.nx (H'.length - R.length) := by
                    simp only [VS.mem, callEff, napp_eq, nws_fst, List.length_drop, hs1us, List.append_nil]
                  rw [hus2] at hj
                  obtain ⟨i, hi'⟩ := List.getElem?_of_mem hj
                  rw [rangeFrom_get] at hi'
                  split at hi'
                  · cases hi'
                    show s1.nx + i < s1.nx + 16 * 1
                    omega
                  · cases hi'
                have hl' : g'.β s.nx = some l := hle'.2.1 _ _ hl
                obtain ⟨k2, arr2, db2, fn2, hk2, hw2, has2, htm2⟩ := hi2'.blk s.nx _ hg2
                rw [hl'] at hk2; cases hk2
                obtain ⟨hso, hi3⟩ := hi2'.setLoop (P := P) (st' := .exhausted) (pend' := pend) hg2 hl' hw2 has2 htm2
                have hend : (Instr.endLoop l).run P w' = .ok pend (w'.putObj l (.loop { state := .exhausted, pending := pend, fn := fn2, tmps := arr2, params := ps', assign := as', body := bd', defers := db2 })) := by
                  have hbz : ¬ (st == LoopState.busy) = true := by
                    cases st <;> first | (exact absurd rfl hst) | decide
                  simp only [Instr.endLoop, Sem.run_bind, run_getLoop hw2, Result.andThen_ok, if_neg hbz, hso, Sem.run_pure]
                have hi3' : Inv E g' s3 { a with defers := mark ++ a.defers } (w'.putObj l (.loop { state := .exhausted, pending := pend, fn := fn2, tmps := arr2, params := ps', assign := as', body := bd', defers := db2 })) := by
                  rw [← hs3]; exact hi3
                have hna3 : E.na ≤ s3.nx := by
                  rw [← hs3, ← hs2]
                  show E.na ≤ s1.nx + 16 * 1
                  omega
                refine ⟨pend, _, hend, ?_⟩
                cases pend with
                | none => exact ⟨g', s3, hq0 rfl, hna3, hi3'⟩
                | some c => exact hq1 c rfl E g' _ _ n ro hro hna3 hi3'
            have hst : st ≠ .busy := fun e => by subst e; simp [afterE] at h
            have haft : (pend = none ∧ some (Res.code .normal s3) = some res) ∨ ∃ c, pend = some c ∧ self (.code rv c s3) = some res := by
              unfold afterE at h
              split at h
              · cases h
              · split at h
                · exact .inl ⟨rfl, h⟩
                · exact .inr ⟨_, rfl, h⟩
            rcases haft with ⟨hp, hr⟩ | ⟨c, hp, hr⟩
            · cases hr
              exact ⟨_, _, rfl, core _ hst (fun _ => ⟨rfl, rfl⟩) (fun c e => by rw [hp] at e; cases e)⟩
            · have hs := hself _ _ hr
              cases res with
              | call => exact hs.elim
              | code e' s' => exact ⟨e', s', rfl, core _ hst (fun e => by rw [hp] at e; cases e) (fun c' e => by rw [hp] at e; cases e; exact hs)⟩
          · cases h
        · cases h
    · cases h
end Go.Bv

namespace Go.Bv
variable {P : Program}

theorem notLoop_code {ex : ext} {self : Task → Option Res} (hex : ExtOK P ex) (hself : ∀ t r, self t = some r → TaskOK2 P t r) (hm : P.follows .mixedOrders = true) {rv : Option Nat} {c : Code} {s : VS} {res : Res} (h : codeE P ex self rv c s = some res) :
    ∃ e s', res = .code e s' ∧ CodeOK P rv c s e s' := by
  have hself1 : ∀ t r, self t = some r → TaskOK P t r := fun t r h => (hself t r h).one
  have code : ∀ (rv : Option Nat) (c : Code) (s : VS) (r : Res), self (.code rv c s) = some r → ∃ e s', r = .code e s' ∧ CodeOK P rv c s e s' := fun rv c s r h => by
    have := hself _ _ h
    cases r with
    | call => exact this.elim
    | code e s' => exact ⟨e, s', rfl, this⟩
  cases c with
  | skip => simp only [codeE, Option.some.injEq] at h; subst h; exact ⟨_, _, rfl, .of (fun b e => by cases e) (VW.skip ⟨rfl, rfl⟩)⟩
  | label l => simp only [codeE, Option.some.injEq] at h; subst h; exact ⟨_, _, rfl, .of (fun b e => by cases e) (VW.label ⟨rfl, rfl⟩)⟩
  | exit id => simp only [codeE, Option.some.injEq] at h; subst h; exact ⟨_, _, rfl, .of (fun b e => by cases e) (VW.exit ⟨rfl, rfl⟩)⟩
  | goto l => simp only [codeE, Option.some.injEq] at h; subst h; exact ⟨_, _, rfl, .of (fun b e => by cases e) (VW.goto ⟨rfl, rfl⟩)⟩
  | ret => simp only [codeE, Option.some.injEq] at h; subst h; exact ⟨_, _, rfl, .of (fun b e => by cases e) (VW.ret ⟨rfl, rfl⟩)⟩
  | region id ops draw =>
    simp only [codeE] at h
    split at h
    · rename_i s' hr
      rw [VS.force_eq] at h
      cases h
      exact ⟨_, _, rfl, .of (fun b e => by cases e) (regE_ok hex hself1 hm hr).comp⟩
    · cases h
  | seq a b =>
    simp only [codeE] at h
    cases ha : self (.code rv a s) with
    | none => rw [ha] at h; cases h
    | some ra =>
      obtain ⟨e1, s1, rfl, hok⟩ := code _ _ _ _ ha
      rw [ha] at h
      cases e1 with
      | normal =>
        simp only at h
        obtain ⟨e2, s2, rfl, hok2⟩ := code _ _ _ _ h
        refine ⟨_, _, rfl, .of (fun b e => by cases e) (VW.seq (hok.1.mono fun e' s'' ⟨h1, h2⟩ => ?_))⟩
        subst h1; subst h2; exact hok2.1
      | _ =>
        simp only [Option.some.injEq] at h
        subst h
        refine ⟨_, _, rfl, .of (fun b e => by cases e) (VW.seq (hok.1.mono fun e' s'' ⟨h1, h2⟩ => ?_))⟩
        subst h1; subst h2; exact ⟨rfl, rfl⟩
  | cond c a b =>
    simp only [codeE] at h
    split at h
    · rename_i hc
      obtain ⟨e, s', rfl, hok⟩ := code _ _ _ _ h
      exact ⟨_, _, rfl, .of (fun b e => by cases e) (VW.cond hc (fun _ => hok.1) (fun e => by cases e))⟩
    · rename_i hc
      obtain ⟨e, s', rfl, hok⟩ := code _ _ _ _ h
      exact ⟨_, _, rfl, .of (fun b e => by cases e) (VW.cond hc (fun e => by cases e) (fun _ => hok.1))⟩
    · cases h
  | block id b =>
    simp only [codeE] at h
    cases ha : self (.code rv b s) with
    | none => rw [ha] at h; cases h
    | some ra =>
      obtain ⟨e1, s1, rfl, hok⟩ := code _ _ _ _ ha
      rw [ha] at h
      cases e1 with
      | exit id' =>
        simp only at h
        by_cases hid : id' = id
        · rw [if_pos hid] at h
          cases h
          refine ⟨_, _, rfl, .of (fun b e => by cases e) (VW.block (hok.1.mono fun e' s'' ⟨h1, h2⟩ => ?_))⟩
          subst h1; subst h2
          show (if id' = id then _ else _)
          rw [if_pos hid]; exact ⟨rfl, rfl⟩
        · rw [if_neg hid] at h
          cases h
          refine ⟨_, _, rfl, .of (fun b e => by cases e) (VW.block (hok.1.mono fun e' s'' ⟨h1, h2⟩ => ?_))⟩
          subst h1; subst h2
          show (if id' = id then _ else _)
          rw [if_neg hid]; exact ⟨rfl, rfl⟩
      | _ =>
        simp only [Option.some.injEq] at h
        subst h
        refine ⟨_, _, rfl, .of (fun b e => by cases e) (VW.block (hok.1.mono fun e' s'' ⟨h1, h2⟩ => ?_))⟩
        subst h1; subst h2; exact ⟨rfl, rfl⟩
  | loop b =>
    simp only [codeE] at h
    cases ha : self (.code rv b s) with
    | none => rw [ha] at h; cases h
    | some ra =>
      obtain ⟨e1, s1, rfl, hok⟩ := code _ _ _ _ ha
      rw [ha] at h
      have fin : ∀ e s', VL P rv b s (fun e' s'' => e' = e ∧ s'' = s') → CodeOK P rv (.loop b) s e s' := fun e s' hv => ⟨VW.of_VL hv, fun b' hb => by cases hb; exact hv⟩
      cases e1 with
      | normal =>
        simp only at h
        obtain ⟨e2, s2, rfl, hok2⟩ := code _ _ _ _ h
        refine ⟨_, _, rfl, fin _ _ (VL.step (hok.1.mono fun e' s'' ⟨h1, h2⟩ => ?_))⟩
        subst h1; subst h2; exact hok2.2 b rfl
      | _ =>
        simp only [Option.some.injEq] at h
        subst h
        refine ⟨_, _, rfl, fin _ _ (VL.step (hok.1.mono fun e' s'' ⟨h1, h2⟩ => ?_))⟩
        subst h1; subst h2; exact ⟨rfl, rfl⟩
  | rangeFunc g ps as bd =>
    obtain ⟨e, s', rfl, hv⟩ := rangeFunc_ok hex hself1 h
    exact ⟨e, s', rfl, .of (fun b e => by cases e) hv⟩
  | scope b => simp [codeE] at h
  | refuse w => simp [codeE] at h
end Go.Bv

namespace Go.Bv
variable {P : Program}

def resM (tmps : Array Value) (x : ResultVar) : Sem Value :=
  match x with
  | .tmp t => pure (tmps.getD t undef)
  | .cell ad t => do loadVar t (← asAddr (tmps.getD ad undef))
theorem results_eq (fn : Func) (tmps : Array Value) : results fn tmps = (do let vs ← fn.results.mapM (resM tmps); pure (if h : vs.size = 1 then vs[0] else .tuple vs)) := rfl
theorem resV_ok {E : Ent} {g : Gh} {s : VS} {a : Act} {w : World} (hi : Inv E g s a w) {x : ResultVar} {v : V} (h : resV P s x = some v) :
    ∃ c, (resM a.tmps x).run P w = .ok c w ∧ RelV g v c := by
  cases x with
  | tmp t =>
    simp only [resV, Option.some.injEq] at h
    subst h
    exact ⟨_, rfl, hi.tm t⟩
  | cell ad t =>
    simp only [resV] at h
    split at h
    · rename_i ag id off hag hlk
      split at h
      · rename_i fz cs hb
        have hv := hi.tm ad
        rw [hlk] at hv
        generalize hc : a.tmps.getD ad undef = c at hv
        cases hv with
        | @ptr _ _ k hk =>
          obtain ⟨k', arr, ty, h1, h2, h3, h4, _⟩ := hi.blk id _ hb
          rw [hk] at h1; cases h1
          obtain ⟨c, hrun, hrel⟩ := load_cells (P := P) (g := g) (o := off) hag rfl h2 h3 (fun i v c a b => (h4 i v c a b).1) h
          refine ⟨c, ?_, hrel⟩
          simp only [resM, asAddr, hc, Sem.run_bind, Sem.run_pure, Result.andThen_ok, hrun]
      · cases h
    · cases h

theorem resL_ok {E : Ent} {g : Gh} {s : VS} {a : Act} {w : World} (hi : Inv E g s a w) : ∀ (l : List ResultVar) (vs : List V), allSome (l.map (resV P s)) = some vs →
    ∃ cs : List Value, (l.mapM (resM a.tmps)).run P w = .ok cs w ∧ cs.length = vs.length ∧
      ∀ (i : Nat) (v : V) (c : Value), vs[i]? = some v → cs[i]? = some c → RelV g v c := by
  intro l
  induction l with
  | nil => intro vs h; simp only [List.map_nil, allSome, Option.some.injEq] at h; subst h; exact ⟨[], rfl, rfl, fun i v c h _ => by simp at h⟩
  | cons x l ih =>
    intro vs h
    simp only [List.map_cons] at h
    cases hx : resV P s x with
    | none => rw [hx] at h; simp [allSome] at h
    | some v =>
      rw [hx] at h
      simp only [allSome] at h
      obtain ⟨vs', hvs, rfl⟩ := Option.map_eq_some_iff.1 h
      obtain ⟨c, h1, h2⟩ := resV_ok (P := P) hi hx
      obtain ⟨cs, h3, h4, h5⟩ := ih vs' hvs
      refine ⟨c :: cs, ?_, by simp [h4], fun i v' c' hv hc => ?_⟩
      · rw [List.mapM_cons]
        simp only [Sem.run_bind, h1, Result.andThen_ok, h3, Sem.run_pure]
      · cases i with
        | zero => simp at hv hc; subst hv; subst hc; exact h2
        | succ i => exact h5 i v' c' (by simpa using hv) (by simpa using hc)

theorem resE_ok {E : Ent} {g : Gh} {s : VS} {a : Act} {w : World} {fn : Func} {r : V} (hi : Inv E g s a w) (h : resE P fn s = some r) : ∃ c, (results fn a.tmps).run P w = .ok c w ∧ RelV g r c := by
  unfold resE at h
  have key : ∀ vs, allSome (fn.results.toList.map (resV P s)) = some vs → ∃ cs : List Value, (results fn a.tmps).run P w = .ok (if h : cs.length = 1 then cs[0] else .tuple cs.toArray) w ∧ cs.length = vs.length ∧ ∀ (i : Nat) (v : V) (c : Value), vs[i]? = some v → cs[i]? = some c → RelV g v c := fun vs hvs => by
    obtain ⟨cs, h1, h2, h3⟩ := resL_ok (P := P) hi _ vs hvs
    refine ⟨cs, ?_, h2, h3⟩
    rw [results_eq, Array.mapM_eq_mapM_toList]
    simp [h1]
  split at h
  · rename_i v hvs
    cases h
    obtain ⟨cs, h1, h2, h3⟩ := key _ hvs
    have hl : cs.length = 1 := h2
    rw [dif_pos hl] at h1
    exact ⟨_, h1, h3 0 _ _ rfl (List.getElem?_eq_getElem (by omega))⟩
  · rename_i vs hne hvs
    cases h
    obtain ⟨cs, h1, h2, h3⟩ := key _ hvs
    have hl : ¬ cs.length = 1 := fun e => by
      rw [h2] at e
      match vs, e, hne with
      | [v], _, hne => exact hne v rfl
    rw [dif_neg hl] at h1
    exact ⟨_, h1, .tup vs cs.toArray (by simp [h2]) (fun i v c a b => h3 i v c a (by simpa using b))⟩
  · cases h

theorem callF_ok {self : Task → Option Res} (hself : ∀ t r, self t = some r → TaskOK2 P t r) {f : FuncId} {args : List V} {H : List Blk} {res : Res} (h : callF P self f args H = some res) : ∃ r H', res = .call r H' ∧ VSpec P f args H r H' := by
  unfold callF at h
  split at h
  · rename_i fn hf
    split at h
    · rename_i c hc
      cases hn : Nat.ble args.length fn.ntmps with
      | false => rw [hn] at h; cases h
      | true =>
        rw [hn] at h
        simp only [cond_true] at h
        have hn' := Nat.le_of_ble_eq_true hn
        split at h
        · rename_i e s' hs
          have hok := hself _ _ hs
          have fin : (e = .ret ∨ e = .normal) → (match resE P fn s' with
              | some r => match canon H.length r s'.hp with
                | some p => some (Res.call p.1 p.2)
                | none => none
              | none => none) = some res → ∃ r H', res = .call r H' ∧ VSpec P f args H r H' := fun he hm => by
            split at hm
            · rename_i r0 hr0
              split at hm
              · rename_i p hp
                cases hm
                obtain ⟨r, H'⟩ := p
                refine ⟨r, H', rfl, VSpec.of_body hf hc hn' (canon_len hp) (hok.1.mono fun e' s'' ⟨h1, h2⟩ => ?_)⟩
                subst h1; subst h2
                refine ⟨he, fun E g a w hna hnx hi => ?_⟩
                obtain ⟨c', h3, h4⟩ := resE_ok hi hr0
                obtain ⟨_, g', h5, h6, h7, h8⟩ := canon_ok hi h4 hna hp
                exact ⟨c', g', h3, h5, h6, h7, h8⟩
              · cases hm
            · cases hm
          split at h
          · exact fin (.inl rfl) h
          · exact fin (.inr rfl) h
          · cases h
        · cases h
    · cases h
  · cases h

theorem run_ok {ex : ext} (hex : ExtOK P ex) (hm : P.follows .mixedOrders = true) : ∀ (n : Nat) (t : Task) (r : Res), run P ex n t = some r → TaskOK2 P t r := by
  intro n
  induction n with
  | zero => intro t r h; cases t <;> simp [run] at h
  | succ n ih =>
    intro t r h
    cases t with
    | call f args H =>
      simp only [run] at h
      obtain ⟨r', H', rfl, hv⟩ := callF_ok ih h
      exact hv
    | code rv c s =>
      simp only [run] at h
      obtain ⟨e, s', rfl, hv⟩ := notLoop_code hex ih hm h
      exact hv
end Go.Bv

namespace Go.Bv

def digs : Nat → Nat → List UInt8 → List UInt8
  | 0, _, acc => acc
  | f + 1, n, acc => bif Nat.blt n 10 then UInt8.ofNat (48 + n) :: acc else digs f (n / 10) (UInt8.ofNat (48 + n % 10) :: acc)
def itoaL (n : Int) : List UInt8 := match n with
  | .ofNat m => digs 20 m []
  | .negSucc m => 45 :: digs 20 (m + 1) []
def splitL (c : UInt8) : List UInt8 → List UInt8 → List (List UInt8)
  | [], cur => [cur.reverse]
  | x :: r, cur => bif Nat.beq x.toNat c.toNat then cur.reverse :: splitL c r [] else splitL c r (x :: cur)
def joinL (sep : List UInt8) : List (List UInt8) → List UInt8
  | [] => []
  | [a] => a
  | a :: r => a ++ (sep ++ joinL sep r)
def trimL (p s : List UInt8) : List UInt8 := match p with
  | [] => s
  | a :: p' => match s with
    | [] => []
    | b :: s' => bif Nat.beq a.toNat b.toNat then (match p' with | [] => s' | _ => b :: s') else b :: s'
def strsD (xs : List (List UInt8)) : List (List D) := xs.map fun x => [.str x]
def strsOf : List (List D) → Option (List (List UInt8))
  | [] => some []
  | [.str x] :: r => (strsOf r).map (x :: ·)
  | _ :: _ => none
def sumL : List UInt8 → Nat → Nat
  | [], c => c
  | b :: r, c => sumL r ((31 * c + b.toNat) % 65521)
def lastL (n : Nat) (before : List UInt8) : List UInt8 := [101, 110, 100, 32] ++ (itoaL n ++ ([32] ++ (itoaL (sumL before 7) ++ [10])))
def bodyL : List (List UInt8) → List UInt8
  | [] => []
  | s :: r => itoaL s.length ++ ([32] ++ (s ++ (10 :: bodyL r)))
def writableL (s : List UInt8) : Bool := s.all (fun b => decide (32 ≤ b.toNat ∧ b.toNat ≤ 126)) && decide (s.length ≤ 60)
def writeL (script : List (List UInt8)) : List UInt8 × Int :=
  bif decide (80 < script.length) then ([], 2) else bif script.all writableL then (bodyL script ++ lastL script.length (bodyL script), 0) else ([], 121)

structure LibNos where
  itoa : FuncId
  join : FuncId
  split : FuncId
  trim : FuncId
  atoi : FuncId
  write : FuncId
def atoiL.go (acc : Nat) : List UInt8 → Option Nat
  | [] => some acc
  | b :: r => bif Nat.ble 48 b.toNat && Nat.ble b.toNat 57 then atoiL.go (acc * 10 + (b.toNat - 48)) r else none
def atoiL.dec (l : List UInt8) : Option Nat := match l with
  | [] => none
  | l => atoiL.go 0 l
def atoiL : List UInt8 → Option Int
  | [] => none
  | b :: r => bif Nat.beq b.toNat 45 then (atoiL.dec r).map (fun (m : Nat) => -(m : Int)) else (atoiL.dec (b :: r)).map (fun (m : Nat) => (m : Int))
def extItoa : List V → List Blk → Option (V × List Blk)
  | [.d (.int .i64 n)], H => bif decide (-9223372036854775808 ≤ n) && decide (n ≤ 9223372036854775807) then some (.d (.str (itoaL n)), H) else none
  | _, _ => none
def extJoin : List V → List Blk → Option (V × List Blk)
  | [s, .d (.str sep)], H => match slOf (fun i => H[i]?) 1 s with
    | some (es, _) => match strsOf es with
      | some xs => bif Nat.ble xs.length 140737488355328 && Nat.ble (joinL sep xs).length 140737488355328 then some (.d (.str (joinL sep xs)), H) else none
      | none => none
    | none => none
  | _, _ => none
def extSplit : List V → List Blk → Option (V × List Blk)
  | [.d (.str s), .d (.str [c])], H => bif Nat.ble s.length 4294967280 then some (.sref H.length (splitL c s []).length, H ++ [.row 1 0 false (strsD (splitL c s []))]) else none
  | _, _ => none
def extTrim : List V → List Blk → Option (V × List Blk)
  | [.d (.str s), .d (.str [c])], H => some (.d (.str (trimL [c] s)), H)
  | _, _ => none
def extAtoi : List V → List Blk → Option (V × List Blk)
  | [.d (.str l)], H => bif Nat.ble l.length 18 then (atoiL l).map fun n => (.tup [.d (.int .i64 n), .d .nili], H) else none
  | _, _ => none
def extWrite : List V → List Blk → Option (V × List Blk)
  | [s], H => match slOf (fun i => H[i]?) 1 s with
    | some (es, _) => match strsOf es with
      | some xs => bif xs.all (fun x => Nat.ble x.length 4294967280) && Nat.ble xs.length 9223372036854775807 then some (.tup [.d (.str (writeL xs).1), .d (.int .i64 (writeL xs).2)], H) else none
      | none => none
    | none => none
  | _, _ => none
def extAt (n : LibNos) : ext := fun f =>
  bif Nat.beq f n.itoa then some extItoa else bif Nat.beq f n.join then some extJoin else bif Nat.beq f n.split then some extSplit
  else bif Nat.beq f n.trim then some extTrim else bif Nat.beq f n.atoi then some extAtoi else bif Nat.beq f n.write then some extWrite else none
end Go.Bv

namespace Go.Bv

structure Known where
  f : FuncId
  args : List V
  H : List Blk
  r : V
  H' : List Blk
abbrev vi (n : Int) : V := .d (.int .i64 n)
abbrev vs (s : List UInt8) : V := .d (.str s)
abbrev vb (b : Bool) : V := .d (.bool b)
abbrev vu (n : Int) : V := .d (.int .u64 n)
abbrev vl (nil : Bool) (es : List (List D)) : V := .d (.slice nil es)
abbrev di (n : Int) : D := .int .i64 n
abbrev du (n : Int) : D := .int .u64 n
abbrev ds (s : List UInt8) : D := .str s
abbrev db (b : Bool) : D := .bool b
abbrev dl (nil : Bool) (es : List (List D)) : D := .slice nil es
def Known.OK (P : Program) (k : Known) : Prop := VSpec P k.f k.args k.H k.r k.H'
def eqbBs : List Blk → List Blk → Bool
  | [], [] => true
  | x :: r, y :: r' => eqbB x y && eqbBs r r'
  | _, _ => false
def findKn (f : FuncId) (args : List V) (H : List Blk) : List Known → Option (V × List Blk)
  | [] => none
  | k :: r => bif Nat.beq k.f f && (eqbVL k.args args && eqbBs k.H H) then some (k.r, k.H') else findKn f args H r
def extK (n : LibNos) (tab : List Known) : ext := fun f => some fun args H =>
  match findKn f args H tab with
  | some p => some p
  | none => match extAt n f with
    | some g => g args H
    | none => none
def KOK (P : Program) : List Known → Prop
  | [] => True
  | k :: r => k.OK P ∧ KOK P r
theorem eqbBs_ok : ∀ (x y : List Blk), eqbBs x y = true → x = y
  | [], [], _ => rfl
  | a :: x, b :: y, h => by
    simp only [eqbBs, Bool.and_eq_true] at h
    rw [eqbB_ok h.1, eqbBs_ok x y h.2]
  | [], _ :: _, h => by cases h
  | _ :: _, [], h => by cases h
theorem findKn_ok {P : Program} {f : FuncId} {args : List V} {H : List Blk} {p : V × List Blk} : ∀ (tab : List Known), KOK P tab → findKn f args H tab = some p → VSpec P f args H p.1 p.2
  | [], _, h => by cases h
  | k :: r, hk, h => by
    simp only [findKn] at h
    cases hc : (Nat.beq k.f f && (eqbVL k.args args && eqbBs k.H H)) with
    | true =>
      rw [hc] at h
      simp only [cond_true, Option.some.injEq] at h
      simp only [Bool.and_eq_true] at hc
      subst h
      have e1 := Nat.eq_of_beq_eq_true hc.1
      have e2 := eqbVL_ok _ _ hc.2.1
      have e3 := eqbBs_ok _ _ hc.2.2
      subst e1; subst e2; subst e3
      exact hk.1
    | false => rw [hc] at h; exact findKn_ok r hk.2 h
theorem extK_ok {P : Program} {n : LibNos} {tab : List Known} (hn : ExtOK P (extAt n)) (ht : KOK P tab) : ExtOK P (extK n tab) := by
  intro f g args H r H' hg h
  simp only [extK, Option.some.injEq] at hg
  subst hg
  simp only at h
  split at h
  · rename_i p hp
    cases h
    exact findKn_ok tab ht hp
  · split at h
    · rename_i g hg; exact hn f g _ _ _ _ hg h
    · cases h

theorem Known.of_run {P : Program} {n : LibNos} {tab : List Known} (hm : P.follows .mixedOrders = true) (hn : ExtOK P (extAt n)) (ht : KOK P tab) {k : Known} {fuel : Nat} (h : run P (extK n tab) fuel (.call k.f k.args k.H) = some (.call k.r k.H')) : k.OK P :=
  run_ok (extK_ok hn ht) hm fuel _ _ h
end Go.Bv
