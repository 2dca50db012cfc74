/- A part of the proof: an abstract heap, a verified walk over the program, and plain laws over lists. Conditions: none beyond the statement. -/
import Derived.RangeFuncLeaves
import Derived.OrdersIn
import Derived.Laws.World
import Derived.Laws.Entries
import Derived.KernelRfl
import Derived.RangeFuncRecord
import Derived.Laws.Bits
import Derived.WalkSpells
import Derived.Laws.StructEq
import Derived.Laws.Tables
import Derived.Laws.MakeOwn
import Derived.Laws.CopyRow
import Derived.Laws.AppendOwn
set_option linter.unusedVariables false
set_option linter.unusedSimpArgs false
namespace Go.Bv

inductive D where
  | bool (b : Bool)
  | int (k : IntKind) (n : Int)
  | str (s : List UInt8)
  | slice (nil : Bool) (es : List (List D))
  | nilp
  | nilf
  | nili
  | nilm
  | iface (t : TypeId) (x : D)

instance : Inhabited D := ⟨.nilp⟩

inductive V where
  | junk
  | d (x : D)
  | ptr (id off : Nat)
  | rptr (id sz i off : Nat)
  | eptr (e : List D) (off : Nat)
  | sref (id n : Nat)
  | ssub (id sz off len : Nat)
  | emp0 (nil : Bool)
  | bsl (id sz off len cap : Nat)
  | mapr (id : Nat)
  | iter (id : Nat)
  | yld (id : Nat)
  | glo (n off : Nat)
  | fn (f : Fn) (first cap : List V)
  | iface (t : TypeId) (v : V)
  | agg (cs : List V)
  | tup (cs : List V)

instance : Inhabited V := ⟨.junk⟩

inductive Blk where
  | dead
  | box (fz : Bool) (cs : List V)
  | row (sz fz : Nat) (nil : Bool) (es : List (List D))
  | map (c0 : Nat) (es : List (V × V))
  | loop (st : LoopState) (pend : Option Code) (tm : List (Nat × V)) (N : Nat) (fn : FuncId) (params : Array Tmp) (assign body : Code)
  | siter (s : List UInt8) (pos : Nat)
  | brow (l : List UInt8)

instance : Inhabited Blk := ⟨.dead⟩

def Blk.holds : Blk → Bool
  | .dead => false
  | _ => true

inductive RelD (M : Nat → Nat → Option Value) : D → Value → Prop
  | bool (b : Bool) : RelD M (.bool b) (.bool b)
  | int (k : IntKind) (n : Int) : RelD M (.int k n) (.int k n)
  | str (s : List UInt8) : RelD M (.str s) (.string ⟨s.toArray⟩)
  | nilp : RelD M .nilp (.pointer none)
  | nilf : RelD M .nilf .nilFunc
  | nili : RelD M .nili .nilIface
  | nilm : RelD M .nilm (.map none)
  | iface (t : TypeId) {x : D} {v : Value} : RelD M x v → RelD M (.iface t x) (.iface t v)
  | nils : RelD M (.slice true []) (.slice none 0 0)
  | emp (a : Addr) (cap : Nat) : RelD M (.slice false []) (.slice (some a) 0 cap)
  | slice (sz : Nat) (es : List (List D)) (b o cap n : Nat) (hn : n = es.length) (hc : n ≤ cap) (hl : ∀ e, e ∈ es → e.length = sz)
      (hs : ∀ i j, i < es.length → j < sz → (M b (o + i * sz + j)).isSome = true)
      (hr : ∀ (i j : Nat) (e : List D) (x : D) (c : Value), es[i]? = some e → e[j]? = some x → M b (o + i * sz + j) = some c → RelD M x c) :
      RelD M (.slice false es) (.slice (some ⟨b, o, none⟩) n cap)

theorem RelD.mono {M M' : Nat → Nat → Option Value} (h : ∀ b o c, M b o = some c → M' b o = some c) {x : D} {v : Value} (hx : RelD M x v) : RelD M' x v := by
  induction hx with
  | bool b => exact .bool b
  | int k n => exact .int k n
  | str s => exact .str s
  | nilp => exact .nilp
  | nilf => exact .nilf
  | nili => exact .nili
  | nilm => exact .nilm
  | iface t _ ih => exact .iface t ih
  | nils => exact .nils
  | emp a cap => exact .emp a cap
  | slice sz es b o cap n hn hc hl hs hr ih =>
    refine .slice sz es b o cap n hn hc hl (fun i j hi hj => ?_) (fun i j e x c he hx hm => ?_)
    · have := hs i j hi hj
      obtain ⟨c, hc'⟩ := Option.isSome_iff_exists.1 this
      rw [h _ _ _ hc']; rfl
    · have hi : i < es.length := (List.getElem?_eq_some_iff.1 he).1
      have hel : e.length = sz := hl e (List.mem_of_getElem? he)
      have hj : j < sz := by have := (List.getElem?_eq_some_iff.1 hx).1; omega
      obtain ⟨c', hc'⟩ := Option.isSome_iff_exists.1 (hs i j hi hj)
      have := h _ _ _ hc'
      rw [this] at hm
      injection hm with hm
      subst hm
      exact ih i j e x c' he hx hc'

theorem RelD.one {M : Nat → Nat → Option Value} {x : D} {v : Value} (hx : RelD M x v) : v.oneCell' = true := by cases hx <;> rfl

def gtab : Nat → Option (List D)
  | 6 => some ([0, 1, 28, 2, 29, 14, 24, 3, 30, 22, 20, 15, 25, 17, 4, 8, 31, 27, 13, 23, 21, 19, 16, 7, 26, 12, 18, 6, 11, 5, 10, 9].map (.int .u8))
  | 7 => some ([0, 1, 56, 2, 57, 49, 28, 3, 61, 58, 42, 50, 38, 29, 17, 4, 62, 47, 59, 36, 45, 43, 51, 22, 53, 39, 33, 30, 24, 18, 12, 5, 63, 55, 48, 27, 60, 41, 37, 16, 46, 35, 44, 21, 52, 32, 23, 11, 54, 26, 40, 15, 34, 20, 31, 10, 25, 14, 19, 9, 13, 8, 7, 6].map (.int .u8))
  | 0 => some ([1, 10, 100, 1000, 10000, 100000, 1000000, 10000000, 100000000, 1000000000, 10000000000, 100000000000, 1000000000000, 10000000000000, 100000000000000, 1000000000000000, 10000000000000000, 100000000000000000, 1000000000000000000, 10000000000000000000].map (.int .u64))
  | _ => none

def gvar : Nat → Bool
  | 1 => true
  | _ => false
def GloOK (M : Nat → Nat → Option Value) : Prop :=
  (∀ (n : Nat) (e : List D), gtab n = some e → ∀ (j : Nat) (x : D), e[j]? = some x → ∃ c, M n j = some c ∧ RelD M x c) ∧ ∀ n, gvar n = true → ∃ m, M n 0 = some (.int .i64 m)

structure Gh where
  M : Nat → Nat → Option Value
  β : Nat → Option Nat
  sv : Nat → Option Value
  glo : GloOK M

def Gh.le (g g' : Gh) : Prop :=
  (∀ b o c, g.M b o = some c → g'.M b o = some c) ∧ (∀ i k, g.β i = some k → g'.β i = some k) ∧ (∀ i v, g.sv i = some v → g'.sv i = some v)
theorem Gh.le_refl (g : Gh) : g.le g := ⟨fun _ _ _ h => h, fun _ _ h => h, fun _ _ h => h⟩
theorem Gh.le_trans {a b c : Gh} (h : a.le b) (k : b.le c) : a.le c :=
  ⟨fun x o v e => k.1 x o v (h.1 x o v e), fun i x e => k.2.1 i x (h.2.1 i x e), fun i x e => k.2.2 i x (h.2.2 i x e)⟩

inductive RelV (g : Gh) : V → Value → Prop
  | junk (v : Value) : RelV g .junk v
  | d {x : D} {v : Value} : RelD g.M x v → RelV g (.d x) v
  | ptr {id off k : Nat} : g.β id = some k → RelV g (.ptr id off) (.pointer (some ⟨k, off, none⟩))
  | rptr {id sz i off k : Nat} : g.β id = some k → RelV g (.rptr id sz i off) (.pointer (some ⟨k, i * sz + off, none⟩))
  | eptr (e : List D) (off b o : Nat) (hs : ∀ j, j < e.length → (g.M b (o + j)).isSome = true)
      (hr : ∀ (j : Nat) (x : D) (c : Value), e[j]? = some x → g.M b (o + j) = some c → RelD g.M x c) :
      RelV g (.eptr e off) (.pointer (some ⟨b, o + off, none⟩))
  | sref {id n cap : Nat} {a : Option Addr} : g.sv id = some (.slice a n cap) → n ≤ cap → (0 < n → ∃ k, g.β id = some k ∧ a = some ⟨k, 0, none⟩) → RelV g (.sref id n) (.slice a n cap)
  | ssub {id sz off len n cap : Nat} {a a' : Option Addr} : g.sv id = some (.slice a n cap) → n ≤ cap → (0 < n → ∃ k, g.β id = some k ∧ a = some ⟨k, 0, none⟩) → off + len ≤ n → (a = none → a' = none) →
      (∀ a0, a = some a0 → ∃ ad, a' = some ad ∧ ((off = 0 ∨ 0 < len) → ad = a0.add (off * sz))) → RelV g (.ssub id sz off len) (.slice a' len (cap - off))
  | emp0t : RelV g (.emp0 true) (.slice none 0 0)
  | emp0f (a : Addr) : RelV g (.emp0 false) (.slice (some a) 0 0)
  | bsl {id sz off len cap k : Nat} {ad : Addr} : g.β id = some k → len ≤ cap → ((off = 0 ∨ 0 < len) → ad = ⟨k, off * sz, none⟩) → RelV g (.bsl id sz off len cap) (.slice (some ad) len cap)
  | mapr {id k : Nat} : g.β id = some k → RelV g (.mapr id) (.map (some k))
  | iter {id k : Nat} : g.β id = some k → RelV g (.iter id) (.pointer (some ⟨k, 0, none⟩))
  | yld {id k : Nat} : g.β id = some k → RelV g (.yld id) (.func (.yield k) #[] #[])
  | glo (n off : Nat) : RelV g (.glo n off) (.pointer (some ⟨n, off, none⟩))
  | fn (f : Fn) (first cap : List V) (fs cs : Array Value) (h1 : fs.size = first.length) (h2 : cs.size = cap.length)
      (hf : ∀ (i : Nat) (v : V) (c : Value), first[i]? = some v → fs[i]? = some c → RelV g v c) (hc : ∀ (i : Nat) (v : V) (c : Value), cap[i]? = some v → cs[i]? = some c → RelV g v c) :
      RelV g (.fn f first cap) (.func f fs cs)
  | iface (t : TypeId) {v : V} {c : Value} : RelV g v c → RelV g (.iface t v) (.iface t c)
  | agg (vs : List V) (cs : Array Value) (h1 : cs.size = vs.length) (hr : ∀ (i : Nat) (v : V) (c : Value), vs[i]? = some v → cs[i]? = some c → RelV g v c) : RelV g (.agg vs) (.agg cs)
  | tup (vs : List V) (cs : Array Value) (h1 : cs.size = vs.length) (hr : ∀ (i : Nat) (v : V) (c : Value), vs[i]? = some v → cs[i]? = some c → RelV g v c) : RelV g (.tup vs) (.tuple cs)

theorem RelV.mono {g g' : Gh} (h : g.le g') {x : V} {v : Value} (hx : RelV g x v) : RelV g' x v := by
  induction hx with
  | junk v => exact .junk v
  | d hd => exact .d (hd.mono h.1)
  | ptr hk => exact .ptr (h.2.1 _ _ hk)
  | rptr hk => exact .rptr (h.2.1 _ _ hk)
  | eptr e off b o hs hr =>
    refine .eptr e off b o (fun j hj => ?_) (fun j x c hx hm => ?_)
    · obtain ⟨c, hc⟩ := Option.isSome_iff_exists.1 (hs j hj)
      rw [h.1 _ _ _ hc]; rfl
    · have hj := (List.getElem?_eq_some_iff.1 hx).1
      obtain ⟨c', hc'⟩ := Option.isSome_iff_exists.1 (hs j hj)
      rw [h.1 _ _ _ hc'] at hm
      injection hm with hm
      subst hm
      exact (hr j x c' hx hc').mono h.1
  | sref hs hc h0 => exact .sref (h.2.2 _ _ hs) hc (fun hn => let ⟨k, h1, h2⟩ := h0 hn; ⟨k, h.2.1 _ _ h1, h2⟩)
  | ssub hs hc h0 h1 h2 h3 => exact .ssub (h.2.2 _ _ hs) hc (fun hn => let ⟨k, h1, h2⟩ := h0 hn; ⟨k, h.2.1 _ _ h1, h2⟩) h1 h2 h3
  | emp0t => exact .emp0t
  | emp0f a => exact .emp0f a
  | bsl hk hc ha => exact .bsl (h.2.1 _ _ hk) hc ha
  | mapr hk => exact .mapr (h.2.1 _ _ hk)
  | iter hk => exact .iter (h.2.1 _ _ hk)
  | yld hk => exact .yld (h.2.1 _ _ hk)
  | glo n off => exact .glo n off
  | fn f first cap fs cs h1 h2 _ _ ihf ihc => exact .fn f first cap fs cs h1 h2 ihf ihc
  | iface t _ ih => exact .iface t ih
  | agg vs cs h1 _ ih => exact .agg vs cs h1 ih
  | tup vs cs h1 _ ih => exact .tup vs cs h1 ih

def constC : Value → V
  | .bool b => .d (.bool b)
  | .int k n => .d (.int k n)
  | .string s => .d (.str s.data.toList)
  | .pointer none => .d .nilp
  | .slice none 0 0 => .d (.slice true [])
  | .nilIface => .d .nili
  | .nilFunc => .d .nilf
  | .map none => .d .nilm
  | .func f a c => if a.size = 0 ∧ c.size = 0 then .fn f [] [] else .junk
  | _ => .junk
def constV : Value → V
  | .agg cs => .agg (cs.toList.map constC)
  | v => constC v
theorem constC_rel (g : Gh) (v : Value) : RelV g (constC v) v := by
  unfold constC
  split
  · exact .d (.bool _)
  · exact .d (.int _ _)
  · exact .d (.str _)
  · exact .d .nilp
  · exact .d .nils
  · exact .d .nili
  · exact .d .nilf
  · exact .d .nilm
  · split
    · rename_i f a c h
      refine .fn f [] [] a c (by simp [h.1]) (by simp [h.2]) (fun i v c h _ => by simp at h) (fun i v c h _ => by simp at h)
    · exact .junk _
  · exact .junk _
theorem constV_rel (g : Gh) (v : Value) : RelV g (constV v) v := by
  unfold constV
  split
  · rename_i cs
    refine .agg _ _ (by simp) (fun i v c h1 h2 => ?_)
    rw [List.getElem?_map] at h1
    have h3 : cs.toList[i]? = some c := by simpa using h2
    rw [h3] at h1
    simp only [Option.map_some, Option.some.injEq] at h1
    subst h1
    exact constC_rel g c
  · exact constC_rel g v

def lk : List (Nat × V) → Nat → V
  | [], _ => .junk
  | (k, v) :: r, t => bif k == t then v else lk r t
def hget : List (Nat × Blk) → Nat → Option Blk
  | [], _ => none
  | (k, b) :: r, i => bif k == i then some b else hget r i
def hset : List (Nat × Blk) → Nat → Blk → List (Nat × Blk)
  | [], _, _ => []
  | (k, b) :: r, i, b' => bif k == i then (k, b') :: r else (k, b) :: hset r i b'

theorem beq_ne {a b : Nat} (h : ¬ a = b) : (a == b) = false := by simpa using h
theorem beq_self (a : Nat) : (a == a) = true := by simp
theorem lk_cons (k : Nat) (v : V) (r : List (Nat × V)) (t : Nat) : lk ((k, v) :: r) t = if k = t then v else lk r t := by
  by_cases h : k = t
  · subst h; simp [lk]
  · simp only [lk, beq_ne h, cond_false, if_neg h]
theorem hget_cons (k : Nat) (b : Blk) (r : List (Nat × Blk)) (t : Nat) : hget ((k, b) :: r) t = if k = t then some b else hget r t := by
  by_cases h : k = t
  · subst h; simp [hget]
  · simp only [hget, beq_ne h, cond_false, if_neg h]

def compG : List (Nat × V) → List (Nat × V) → Nat → List (Nat × V)
  | [], acc, _ => acc
  | (t, v) :: r, acc, m => bif Nat.testBit m t then compG r acc m else compG r ((t, v) :: acc) (Nat.lor m (Nat.shiftLeft 1 t))
def compT (l : List (Nat × V)) : List (Nat × V) := compG l [] 0
def hasT (x : Nat) : List (Nat × V) → Prop
  | [] => False
  | (k, _) :: r => k = x ∨ hasT x r
theorem testBit_add (m t x : Nat) : Nat.testBit (Nat.lor m (Nat.shiftLeft 1 t)) x = (Nat.testBit m x || decide (t = x)) := by
  show (m ||| (1 <<< t)).testBit x = _
  rw [Nat.testBit_or, Nat.one_shiftLeft, Nat.testBit_two_pow]
theorem lk_compG (x : Nat) : ∀ (l acc : List (Nat × V)) (m : Nat), (∀ t, Nat.testBit m t = true ↔ hasT t acc) → (hasT x acc → lk (compG l acc m) x = lk acc x) ∧ (¬ hasT x acc → lk (compG l acc m) x = lk l x)
  | [], acc, m, h => ⟨fun _ => rfl, fun hn => by
      simp only [compG, lk]
      clear h
      induction acc with
      | nil => rfl
      | cons p r ih =>
        obtain ⟨k, v⟩ := p
        rw [lk_cons, if_neg (fun e => hn (.inl e))]
        exact ih (fun e => hn (.inr e))⟩
  | (t, v) :: r, acc, m, h => by
    simp only [compG]
    cases hb : Nat.testBit m t with
    | true =>
      simp only [cond_true]
      have ht := (h t).1 hb
      obtain ⟨h1, h2⟩ := lk_compG x r acc m h
      refine ⟨h1, fun hn => ?_⟩
      have hne : ¬ t = x := fun e => hn (e ▸ ht)
      rw [h2 hn, lk_cons, if_neg hne]
    | false =>
      simp only [cond_false]
      have ht : ¬ hasT t acc := fun e => by rw [(h t).2 e] at hb; cases hb
      obtain ⟨h1, h2⟩ := lk_compG x r ((t, v) :: acc) _ (fun y => by
        rw [testBit_add, Bool.or_eq_true, decide_eq_true_eq, h y]
        exact ⟨fun e => e.symm, fun e => e.symm⟩)
      refine ⟨fun hx => ?_, fun hx => ?_⟩
      · have hne : ¬ t = x := fun e => ht (e ▸ hx)
        rw [h1 (.inr hx), lk_cons, if_neg hne]
      · by_cases e : t = x
        · rw [h1 (.inl e), lk_cons, lk_cons, if_pos e, if_pos e]
        · rw [h2 (fun e' => e'.elim e hx), lk_cons, if_neg e]
theorem lk_compT (l : List (Nat × V)) (x : Nat) : lk (compT l) x = lk l x := (lk_compG x l [] 0 (fun t => by simp [hasT])).2 (fun h => h)
theorem hget_hset (h : List (Nat × Blk)) (i : Nat) (b : Blk) (j : Nat) : hget (hset h i b) j = if i = j ∧ (hget h i).isSome = true then some b else hget h j := by
  induction h with
  | nil => simp [hset, hget]
  | cons p r ih =>
    obtain ⟨k, b0⟩ := p
    simp only [hset]
    by_cases hk : k = i
    · subst hk
      simp only [beq_self, cond_true, hget_cons, if_pos, Option.isSome_some, and_true]
      split <;> rfl
    · simp only [beq_ne hk, cond_false, hget_cons, if_neg hk, ih]
      by_cases hj : k = j
      · subst hj
        have h2 : ¬ i = k := fun e => hk e.symm
        simp [h2]
      · simp [hj]

def evalV (tm : List (Nat × V)) : Operand → V
  | .tmp t => lk tm t
  | .const v => constV v
  | .global n => .glo n 0
  | .func f => .fn (.func f) [] []

structure VS where
  tm : List (Nat × V)
  hp : List (Nat × Blk)
  nx : Nat
  us : List Nat
  N : Nat

def rowRel (g : Gh) (w : World) (id sz fz : Nat) (es : List (List D)) : Prop :=
  ∃ k arr t cap, g.β id = some k ∧ g.sv id = some (.slice (some ⟨k, 0, none⟩) es.length cap) ∧ w.heap[k]? = some (.cells arr t (0, 0)) ∧
    arr.size = cap * sz ∧ es.length ≤ cap ∧ (es.length < fz → ∀ o, o < es.length * sz → (g.M k o).isSome = true) ∧ (∀ e, e ∈ es → e.length = sz) ∧
    (∀ (i j : Nat) (e : List D) (x : D) (c : Value), es[i]? = some e → e[j]? = some x → arr[i * sz + j]? = some c → RelD g.M x c) ∧
    (∀ o, (g.M k o).isSome = true → o < fz * sz ∧ o < es.length * sz)

def BlkRel (g : Gh) (w : World) (id : Nat) : Blk → Prop
  | .dead => True
  | .box fz cs => ∃ k arr t, g.β id = some k ∧ w.heap[k]? = some (.cells arr t (0, 0)) ∧ arr.size = cs.length ∧
      (∀ (i : Nat) (v : V) (c : Value), cs[i]? = some v → arr[i]? = some c → RelV g v c ∧ c.oneCell' = true) ∧ (fz = false → ∀ o, g.M k o = none) ∧ (fz = true → ∀ o, o < cs.length → (g.M k o).isSome = true)
  | .row sz fz nil es => (nil = true → es = [] ∧ g.sv id = some (.slice none 0 0) ∧ g.β id = none) ∧
      (nil = false → (es = [] ∧ True ∧ g.β id = none ∧ ∃ a, g.sv id = some (.slice (some a) 0 0)) ∨ rowRel g w id sz fz es)
  | .map c0 es => ∃ k ents, g.β id = some k ∧ w.heap[k]? = some (.map ents (c0 + es.length)) ∧ ents.size = es.length ∧
      (∀ (i : Nat) (kv : V × V) (e : MapEntry), es[i]? = some kv → ents[i]? = some e → RelV g kv.1 e.key ∧ RelV g kv.2 e.val ∧ e.born = c0 + i)
  | .loop st pend tm N _ params assign body => ∃ k arr db fn, g.β id = some k ∧ w.heap[k]? = some (.loop { state := st, pending := pend, fn, tmps := arr, params, assign, body, defers := db }) ∧
      arr.size = N ∧ ∀ t, RelV g (lk tm t) (arr.getD t undef)
  | .siter s pos => ∃ k, g.β id = some k ∧ w.heap[k]? = some (.stringIter ⟨s.toArray⟩ pos)
  | .brow l => ∃ k arr t cap, g.β id = some k ∧ g.sv id = some (.slice (some ⟨k, 0, none⟩) l.length cap) ∧ w.heap[k]? = some (.cells arr t (arr.size, arr.size + 1)) ∧ l.length ≤ cap ∧
      (∀ (i : Nat) (b : UInt8), l[i]? = some b → arr[i]? = some (.int .u8 (b.toNat : Int))) ∧ ∀ o, g.M k o = none

def Owned (g : Gh) (H : List (Nat × Blk)) (k : Nat) : Prop := ∃ id b, hget H id = some b ∧ b.holds = true ∧ g.β id = some k

def WG (w : World) : Prop := ∀ n e, gtab n = some e → ∃ arr t f, w.heap[n]? = some (.cells arr t f) ∧ arr.size = e.length
theorem WG.of_lt {w w' : World} (h : WG w) (hk : ∀ k, k < w.heap.size → w'.heap[k]? = w.heap[k]?) : WG w' := fun n e he => by
  obtain ⟨arr, t, f, h1, h2⟩ := h n e he
  exact ⟨arr, t, f, by rw [hk n (Array.getElem?_eq_some_iff.1 h1).1]; exact h1, h2⟩

structure RelH (g : Gh) (H : List (Nat × Blk)) (w : World) : Prop where
  wg : WG w
  mem : ∀ b o c, g.M b o = some c → w.cell? ⟨b, o, none⟩ = some c
  blk : ∀ id b, hget H id = some b → BlkRel g w id b
  inj : ∀ id id' b b' k, hget H id = some b → hget H id' = some b' → b.holds = true → b'.holds = true → g.β id = some k → g.β id' = some k → id = id'

structure RelS (g : Gh) (s : VS) (a : Act) (w : World) : Prop extends RelH g s.hp w where
  tm : ∀ t, RelV g (lk s.tm t) (a.tmps.getD t undef)
  size : a.tmps.size = s.N
  dom : ∀ id, (g.β id).isSome = true ∨ (g.sv id).isSome = true → id < s.nx ∨ id ∈ s.us

theorem RelS.eval {g : Gh} {s : VS} {a : Act} {w : World} (h : RelS g s a w) (x : Operand) : RelV g (evalV s.tm x) (a.eval x) := by
  cases x with
  | tmp t => exact h.tm t
  | const v => exact constV_rel g v
  | global n => exact .glo n 0
  | func f => exact .fn _ _ _ _ _ rfl rfl (fun i v c h _ => by simp at h) (fun i v c h _ => by simp at h)

structure Ent where
  g0 : Gh
  O : Nat → Prop
  w0 : World
  na : Nat

structure Fr (E : Ent) (g : Gh) (H : List (Nat × Blk)) (w : World) : Prop where
  leM : ∀ b o c, E.g0.M b o = some c → g.M b o = some c
  leB : ∀ i, i < E.na → g.β i = E.g0.β i
  leS : ∀ i, i < E.na → g.sv i = E.g0.sv i
  size : E.w0.heap.size ≤ w.heap.size
  os : w.os = E.w0.os
  output : w.output = E.w0.output
  tape : w.tape = E.w0.tape
  kept : ∀ k, k < E.w0.heap.size → ¬ E.O k → w.heap[k]? = E.w0.heap[k]?
  own : ∀ k, Owned g H k → E.O k ∨ E.w0.heap.size ≤ k
  mnew : ∀ b o c, g.M b o = some c → E.g0.M b o = some c ∨ E.O b ∨ E.w0.heap.size ≤ b

def Marks (E : Ent) (a : Act) (w : World) : Prop :=
  ∃ ms : List Nat, a.defers = ms.map (fun r => { target := .collected r, args := #[] }) ∧ ms.Nodup ∧ ∀ r, r ∈ ms → w.heap[r]? = some (.deferred (some [])) ∧ E.w0.heap.size ≤ r

structure Inv (E : Ent) (g : Gh) (s : VS) (a : Act) (w : World) : Prop extends RelS g s a w where
  fr : Fr E g s.hp w
  marks : Marks E a w

end Go.Bv

namespace Go.Bv

theorem heap_alloc {w : World} {o x : Obj} {k : Nat} (h : w.heap[k]? = some x) : (w.alloc o).heap[k]? = some x := by
  have hk := (Array.getElem?_eq_some_iff.1 h).1
  simp only [World.alloc, Array.getElem?_push]
  rw [if_neg (by omega)]; exact h
theorem heap_alloc_lt {w : World} {o : Obj} {k : Nat} (h : k < w.heap.size) : (w.alloc o).heap[k]? = w.heap[k]? := by
  simp only [World.alloc, Array.getElem?_push]
  rw [if_neg (by omega)]
theorem heap_alloc_new (w : World) (o : Obj) : (w.alloc o).heap[w.heap.size]? = some o := by
  show (w.heap.push o)[w.heap.size]? = some o
  simp
theorem cell_heap {w w' : World} {b o : Nat} (h : w'.heap[b]? = w.heap[b]?) : w'.cell? ⟨b, o, none⟩ = w.cell? ⟨b, o, none⟩ := by simp [World.cell?, h]
theorem cell_lt {w : World} {b o : Nat} {c : Value} (h : w.cell? ⟨b, o, none⟩ = some c) : b < w.heap.size := World.block_lt_of_cell? w ⟨b, o, none⟩ h
theorem cell_cells {w : World} {b o : Nat} {arr : Array Value} {t : TypeId} {f : Nat × Nat} (h : w.heap[b]? = some (.cells arr t f)) : w.cell? ⟨b, o, none⟩ = arr[o]? := by simp [World.cell?, h]

theorem BlkRel.step {g g' : Gh} {w w' : World} {id : Nat} {b : Blk} (hle : g.le g') (h : BlkRel g w id b)
    (hk : ∀ k x, b.holds = true → g.β id = some k → w.heap[k]? = some x → w'.heap[k]? = some x)
    (hM : ∀ k, b.holds = true → g.β id = some k → ∀ o c, g'.M k o = some c → g.M k o = some c) (hβ0 : g.β id = none → g'.β id = none) : BlkRel g' w' id b := by
  have hβ : ∀ x : Unit, g.β id = none → g'.β id = none := fun _ => hβ0
  cases b with
  | dead => trivial
  | box fz cs =>
    obtain ⟨k, arr, t, h1, h2, h3, h4, h5⟩ := h
    refine ⟨k, arr, t, hle.2.1 _ _ h1, hk _ _ rfl h1 h2, h3, fun i v c a b => ⟨(h4 i v c a b).1.mono hle, (h4 i v c a b).2⟩, fun hf o => ?_, fun hf o ho => ?_⟩
    · cases hm : g'.M k o with
      | none => rfl
      | some c => have := hM k rfl h1 o c hm; rw [h5.1 hf o] at this; cases this
    · obtain ⟨c, hc⟩ := Option.isSome_iff_exists.1 (h5.2 hf o ho)
      rw [hle.1 _ _ _ hc]; rfl
  | row sz fz nil es =>
    refine ⟨fun hn => ⟨(h.1 hn).1, hle.2.2 _ _ (h.1 hn).2.1, hβ () (h.1 hn).2.2⟩, fun hn => ?_⟩
    rcases h.2 hn with ⟨h1, h2, h3, a, h4⟩ | ⟨k, arr, t, cap, h1, h2, h3, h4, h5, h6, h7, h8, h9⟩
    · exact .inl ⟨h1, h2, hβ () h3, a, hle.2.2 _ _ h4⟩
    refine .inr ⟨k, arr, t, cap, hle.2.1 _ _ h1, hle.2.2 _ _ h2, hk _ _ (by simp [Blk.holds, hn]) h1 h3, h4, h5, fun hf o ho => (by obtain ⟨c, hc⟩ := Option.isSome_iff_exists.1 (h6 hf o ho); rw [hle.1 _ _ _ hc]; rfl), h7, fun i j e x c a b d => (h8 i j e x c a b d).mono hle.1, fun o ho => ?_⟩
    obtain ⟨c, hc⟩ := Option.isSome_iff_exists.1 ho
    exact h9 o (by rw [hM k (by simp [Blk.holds, hn]) h1 o c hc]; rfl)
  | map c0 es =>
    obtain ⟨k, ents, h1, h2, h3, h4⟩ := h
    exact ⟨k, ents, hle.2.1 _ _ h1, hk _ _ rfl h1 h2, h3, fun i kv e a b => ⟨(h4 i kv e a b).1.mono hle, (h4 i kv e a b).2.1.mono hle, (h4 i kv e a b).2.2⟩⟩
  | loop st pend tm N fn params assign body =>
    obtain ⟨k, arr, db, fn', h1, h2, h3, h4⟩ := h
    exact ⟨k, arr, db, fn', hle.2.1 _ _ h1, hk _ _ rfl h1 h2, h3, fun t => (h4 t).mono hle⟩
  | siter s pos =>
    obtain ⟨k, h1, h2⟩ := h
    exact ⟨k, hle.2.1 _ _ h1, hk _ _ rfl h1 h2⟩
  | brow l =>
    obtain ⟨k, arr, t, cap, h1, h2, h3, h4, h5, h6⟩ := h
    refine ⟨k, arr, t, cap, hle.2.1 _ _ h1, hle.2.2 _ _ h2, hk _ _ rfl h1 h3, h4, h5, fun o => ?_⟩
    cases hm : g'.M k o with
    | none => rfl
    | some c => have := hM k rfl h1 o c hm; rw [h6 o] at this; cases this

theorem BlkRel.obj {g : Gh} {w : World} {id : Nat} {b : Blk} (h : BlkRel g w id b) (hb : b.holds = true) {k : Nat} (hk : g.β id = some k) :
    ∃ x, w.heap[k]? = some x ∧ (∀ d, x ≠ .deferred d) := by
  cases b with
  | dead => cases hb
  | box fz cs => obtain ⟨k', arr, t, h1, h2, _⟩ := h; rw [hk] at h1; cases h1; exact ⟨_, h2, fun d e => by cases e⟩
  | row sz fz nil es =>
    cases nil with
    | true => have := (h.1 rfl).2.2; rw [hk] at this; cases this
    | false =>
      rcases h.2 rfl with ⟨_, _, h3, _⟩ | ⟨k', arr, t, cap, h1, h2, h3, _⟩
      · rw [hk] at h3; cases h3
      · rw [hk] at h1; cases h1; exact ⟨_, h3, fun d e => by cases e⟩
  | map c0 es => obtain ⟨k', ents, h1, h2, _⟩ := h; rw [hk] at h1; cases h1; exact ⟨_, h2, fun d e => by cases e⟩
  | loop st pend tm N fn params assign body => obtain ⟨k', arr, db, fn', h1, h2, _⟩ := h; rw [hk] at h1; cases h1; exact ⟨_, h2, fun d e => by cases e⟩
  | siter s pos => obtain ⟨k', h1, h2⟩ := h; rw [hk] at h1; cases h1; exact ⟨_, h2, fun d e => by cases e⟩
  | brow l => obtain ⟨k', arr, t, cap, h1, _, h3, _⟩ := h; rw [hk] at h1; cases h1; exact ⟨_, h3, fun d e => by cases e⟩

theorem RelH.lt {g : Gh} {H : List (Nat × Blk)} {w : World} (h : RelH g H w) {id k : Nat} {b : Blk} (hb : hget H id = some b) (hh : b.holds = true) (hk : g.β id = some k) : k < w.heap.size := by
  obtain ⟨x, h2, _⟩ := (h.blk id b hb).obj hh hk
  exact (Array.getElem?_eq_some_iff.1 h2).1

theorem Inv.put {E : Ent} {g : Gh} {s : VS} {a : Act} {w : World} (h : Inv E g s a w) {d : Nat} {v : V} {c : Value} (hv : RelV g v c) (hd : d < s.N) :
    Inv E g { s with tm := (d, v) :: s.tm } (a.put (some d) c) w := {
  wg := h.wg
  mem := h.mem
  blk := h.blk
  inj := h.inj
  tm := fun t => by
    rw [lk_cons]
    by_cases e : d = t
    · subst e
      rw [if_pos rfl]
      have : (a.put (some d) c).tmps.getD d undef = c := by simp [Act.put, h.size, hd]
      rw [this]; exact hv
    · rw [if_neg e]
      have : (a.put (some d) c).tmps.getD t undef = a.tmps.getD t undef := by
        simp [Act.put, Array.getElem?_setIfInBounds_ne e]
      rw [this]; exact h.tm t
  size := by simp [Act.put, h.size]
  dom := h.dom
  fr := h.fr
  marks := h.marks }

theorem Inv.putNone {E : Ent} {g : Gh} {s : VS} {a : Act} {w : World} (h : Inv E g s a w) (c : Value) : Inv E g s (a.put none c) w := h

theorem Inv.world {E : Ent} {g : Gh} {s : VS} {a : Act} {w w' : World} (h : Inv E g s a w) (hh : w'.heap = w.heap) (ho : w'.os = w.os) (hp : w'.output = w.output) (ht : w'.tape = w.tape) : Inv E g s a w' := {
  wg := h.wg.of_lt (fun k _ => by rw [hh])
  mem := fun b o c hm => by rw [cell_heap (w := w) (by rw [hh])]; exact h.mem b o c hm
  blk := fun id b hb => (h.blk id b hb).step (Gh.le_refl g) (fun k x _ _ e => by rw [hh]; exact e) (fun _ _ _ _ _ e => e) (fun e => e)
  inj := h.inj
  tm := h.tm
  size := h.size
  dom := h.dom
  fr := { h.fr with size := by rw [hh]; exact h.fr.size, os := ho.trans h.fr.os, output := hp.trans h.fr.output, tape := ht.trans h.fr.tape, kept := fun k hk hn => by rw [hh]; exact h.fr.kept k hk hn }
  marks := by
    obtain ⟨ms, h1, h2, h3⟩ := h.marks
    exact ⟨ms, h1, h2, fun r hr => by rw [hh]; exact h3 r hr⟩ }

def Gh.bind (g : Gh) (id k : Nat) (v : Option Value) : Gh := { g with β := fun i => if i = id then some k else g.β i, sv := fun i => if i = id then v else g.sv i }
theorem Gh.le_bind {g : Gh} {id k : Nat} {v : Option Value} (h1 : g.β id = none) (h2 : g.sv id = none) : g.le (g.bind id k v) := by
  refine ⟨fun _ _ _ e => e, fun i x e => ?_, fun i x e => ?_⟩
  · by_cases hi : i = id
    · subst hi; rw [h1] at e; cases e
    · simp only [Gh.bind, if_neg hi]; exact e
  · by_cases hi : i = id
    · subst hi; rw [h2] at e; cases e
    · simp only [Gh.bind, if_neg hi]; exact e
theorem Gh.bind_β (g : Gh) (id k : Nat) (v : Option Value) : (g.bind id k v).β id = some k := by simp [Gh.bind]
theorem Gh.bind_sv (g : Gh) (id k : Nat) (v : Option Value) : (g.bind id k v).sv id = v := by simp [Gh.bind]
theorem Gh.bind_β_ne (g : Gh) {id k i : Nat} {v : Option Value} (h : i ≠ id) : (g.bind id k v).β i = g.β i := by simp [Gh.bind, h]
theorem Gh.bind_sv_ne (g : Gh) {id k i : Nat} {v : Option Value} (h : i ≠ id) : (g.bind id k v).sv i = g.sv i := by simp [Gh.bind, h]

def VS.fresh (s : VS) (id : Nat) : Prop := ¬ (id < s.nx ∨ id ∈ s.us)
theorem RelS.fresh_β {g : Gh} {s : VS} {a : Act} {w : World} (h : RelS g s a w) {id : Nat} (hf : s.fresh id) : g.β id = none := by
  cases hb : g.β id with
  | none => rfl
  | some k => exact absurd (h.dom id (.inl (by rw [hb]; rfl))) hf
theorem RelS.fresh_sv {g : Gh} {s : VS} {a : Act} {w : World} (h : RelS g s a w) {id : Nat} (hf : s.fresh id) : g.sv id = none := by
  cases hb : g.sv id with
  | none => rfl
  | some k => exact absurd (h.dom id (.inr (by rw [hb]; rfl))) hf

theorem Inv.alloc {E : Ent} {g : Gh} {s : VS} {a : Act} {w : World} (h : Inv E g s a w) {id : Nat} (hf : s.fresh id) (hna : E.na ≤ s.nx) (o : Obj) (b : Blk) (sv : Option Value)
    (hb : BlkRel (g.bind id w.heap.size sv) (w.alloc o) id b) :
    Inv E (g.bind id w.heap.size sv) { s with hp := (id, b) :: s.hp, us := id :: s.us } a (w.alloc o) := by
  have hβ := h.toRelS.fresh_β hf
  have hsv := h.toRelS.fresh_sv hf
  have hle : g.le (g.bind id w.heap.size sv) := Gh.le_bind hβ hsv
  have hidna : ∀ i, i < E.na → i ≠ id := fun i hi e => hf (.inl (by omega))
  have hold : ∀ id' b', hget s.hp id' = some b' → id ≠ id' → BlkRel (g.bind id w.heap.size sv) (w.alloc o) id' b' := fun id' b' hb' hne =>
    (h.blk id' b' hb').step hle (fun k x _ _ e => heap_alloc e) (fun k _ _ o c e => e) (fun e => by rw [Gh.bind_β_ne g (Ne.symm hne)]; exact e)
  exact {
    wg := h.wg.of_lt (fun k hk => heap_alloc_lt hk)
    mem := fun b' o' c hm => by
      have := h.mem b' o' c hm
      rw [cell_heap (w := w) (heap_alloc_lt (cell_lt this))]; exact this
    blk := fun id' b' hb' => by
      simp only [hget_cons] at hb'
      by_cases e : id = id'
      · rw [if_pos e] at hb'; cases hb'; subst e; exact hb
      · rw [if_neg e] at hb'; exact hold id' b' hb' e
    inj := fun i j bi bj k hi hj hbi hbj hki hkj => by
      simp only [hget_cons] at hi hj
      by_cases ei : id = i
      · subst ei
        by_cases ej : id = j
        · exact ej
        · rw [if_neg ej] at hj
          rw [Gh.bind_β] at hki; cases hki
          rw [Gh.bind_β_ne g (Ne.symm ej)] at hkj
          have := h.toRelH.lt hj hbj hkj
          omega
      · rw [if_neg ei] at hi
        rw [Gh.bind_β_ne g (Ne.symm ei)] at hki
        by_cases ej : id = j
        · subst ej
          rw [Gh.bind_β] at hkj; cases hkj
          have := h.toRelH.lt hi hbi hki
          omega
        · rw [if_neg ej] at hj
          rw [Gh.bind_β_ne g (Ne.symm ej)] at hkj
          exact h.inj i j bi bj k hi hj hbi hbj hki hkj
    tm := fun t => (h.tm t).mono hle
    size := h.size
    dom := fun i hi => by
      by_cases e : i = id
      · exact .inr (by simp [e])
      · rw [Gh.bind_β_ne g e, Gh.bind_sv_ne g e] at hi
        rcases h.dom i hi with h1 | h1
        · exact .inl h1
        · exact .inr (List.mem_cons_of_mem _ h1)
    fr := {
      leM := h.fr.leM
      leB := fun i hi => by rw [Gh.bind_β_ne g (hidna i hi)]; exact h.fr.leB i hi
      leS := fun i hi => by rw [Gh.bind_sv_ne g (hidna i hi)]; exact h.fr.leS i hi
      size := by have := h.fr.size; simp; omega
      os := h.fr.os
      output := h.fr.output
      tape := h.fr.tape
      kept := fun k hk hn => by rw [heap_alloc_lt (by have := h.fr.size; omega)]; exact h.fr.kept k hk hn
      own := fun k hk => by
        obtain ⟨i, b', hi, hb', hki⟩ := hk
        simp only [hget_cons] at hi
        by_cases e : id = i
        · subst e
          rw [Gh.bind_β] at hki; cases hki
          exact .inr h.fr.size
        · rw [if_neg e] at hi
          rw [Gh.bind_β_ne g (Ne.symm e)] at hki
          exact h.fr.own k ⟨i, b', hi, hb', hki⟩
      mnew := h.fr.mnew }
    marks := by
      obtain ⟨ms, h1, h2, h3⟩ := h.marks
      exact ⟨ms, h1, h2, fun r hr => ⟨heap_alloc (h3 r hr).1, (h3 r hr).2⟩⟩ }

theorem Inv.mod {E : Ent} {g : Gh} {s : VS} {a : Act} {w w' : World} (h : Inv E g s a w) {id k : Nat} {b b' : Blk} (hget : hget s.hp id = some b) (hb : b.holds = true) (hk : g.β id = some k)
    (hsz : w'.heap.size = w.heap.size) (hother : ∀ j, j ≠ k → w'.heap[j]? = w.heap[j]?) (hos : w'.os = w.os) (hout : w'.output = w.output) (htape : w'.tape = w.tape)
    (hM : ∀ o c, g.M k o = some c → w'.cell? ⟨k, o, none⟩ = some c)
    (hwg : ∀ arr t f, w.heap[k]? = some (.cells arr t f) → ∃ arr', w'.heap[k]? = some (.cells arr' t f) ∧ arr'.size = arr.size) (hb' : BlkRel g w' id b') :
    Inv E g { s with hp := hset s.hp id b' } a w' := by
  obtain ⟨x, hx, hnd⟩ := (h.blk id b hget).obj hb hk
  have hne : ∀ i bi ki, i ≠ id → Bv.hget s.hp i = some bi → bi.holds = true → g.β i = some ki → ki ≠ k := fun i bi ki hi hbi hh hki e => by
    subst e; exact hi (h.inj i id bi b ki hbi hget hh hb hki hk)
  have hcases : ∀ i bi, Bv.hget (hset s.hp id b') i = some bi → (i = id ∧ bi = b') ∨ (i ≠ id ∧ Bv.hget s.hp i = some bi) := fun i bi hi => by
    rw [hget_hset] at hi
    by_cases e : id = i
    · subst e
      rw [if_pos ⟨rfl, by rw [hget]; rfl⟩] at hi
      cases hi; exact .inl ⟨rfl, rfl⟩
    · rw [if_neg (fun x => e x.1)] at hi
      exact .inr ⟨Ne.symm e, hi⟩
  have hbβ : b'.holds = true → True := fun _ => trivial
  exact {
    wg := fun n e he => by
      obtain ⟨arr, t, f, h1, h2⟩ := h.wg n e he
      by_cases hn : n = k
      · subst hn
        obtain ⟨arr', h3, h4⟩ := hwg arr t f h1
        exact ⟨arr', t, f, h3, h4.trans h2⟩
      · exact ⟨arr, t, f, by rw [hother n hn]; exact h1, h2⟩
    mem := fun b o c hm => by
      by_cases e : b = k
      · subst e; exact hM o c hm
      · rw [cell_heap (w := w) (hother b e)]; exact h.mem b o c hm
    blk := fun i bi hi => by
      rcases hcases i bi hi with ⟨rfl, rfl⟩ | ⟨hne', hi'⟩
      · exact hb'
      · exact (h.blk i bi hi').step (Gh.le_refl g) (fun ki x hh hki e => by rw [hother ki (hne i bi ki hne' hi' hh hki)]; exact e) (fun _ _ _ _ _ e => e) (fun e => e)
    inj := fun i j bi bj ki hi hj hbi hbj hki hkj => by
      rcases hcases i bi hi with ⟨rfl, rfl⟩ | ⟨hi1, hi2⟩
      · rcases hcases j bj hj with ⟨rfl, rfl⟩ | ⟨hj1, hj2⟩
        · rfl
        · rw [hk] at hki; cases hki
          exact absurd rfl (hne j bj _ hj1 hj2 hbj hkj)
      · rcases hcases j bj hj with ⟨rfl, rfl⟩ | ⟨hj1, hj2⟩
        · rw [hk] at hkj; cases hkj
          exact absurd rfl (hne i bi _ hi1 hi2 hbi hki)
        · exact h.inj i j bi bj ki hi2 hj2 hbi hbj hki hkj
    tm := h.tm
    size := h.size
    dom := h.dom
    fr := {
      leM := h.fr.leM
      leB := h.fr.leB
      leS := h.fr.leS
      size := by rw [hsz]; exact h.fr.size
      os := hos.trans h.fr.os
      output := hout.trans h.fr.output
      tape := htape.trans h.fr.tape
      kept := fun j hj hn => by
        have : j ≠ k := fun e => by
          subst e
          rcases h.fr.own j ⟨id, b, hget, hb, hk⟩ with h1 | h1
          · exact hn h1
          · omega
        rw [hother j this]; exact h.fr.kept j hj hn
      own := fun j hj => by
        obtain ⟨i, bi, hi, hbi, hki⟩ := hj
        rcases hcases i bi hi with ⟨rfl, rfl⟩ | ⟨hi1, hi2⟩
        · rw [hk] at hki; cases hki
          exact h.fr.own k ⟨i, b, hget, hb, hk⟩
        · exact h.fr.own j ⟨i, bi, hi2, hbi, hki⟩
      mnew := h.fr.mnew }
    marks := by
      obtain ⟨ms, h1, h2, h3⟩ := h.marks
      refine ⟨ms, h1, h2, fun r hr => ⟨?_, (h3 r hr).2⟩⟩
      have : r ≠ k := fun e => by
        subst e
        rw [(h3 r hr).1] at hx
        cases hx
        exact hnd _ rfl
      rw [hother r this]; exact (h3 r hr).1 }

theorem Inv.weaken {E : Ent} {g : Gh} {s s' : VS} {a : Act} {w : World} (h : Inv E g s a w) (ht : ∀ t, lk s'.tm t = .junk ∨ lk s'.tm t = lk s.tm t)
    (hh : ∀ id b, hget s'.hp id = some b → hget s.hp id = some b) (hd : ∀ id, id < s.nx ∨ id ∈ s.us → id < s'.nx ∨ id ∈ s'.us) (hN : s'.N = s.N) : Inv E g s' a w := {
  wg := h.wg
  mem := h.mem
  blk := fun id b hb => h.blk id b (hh id b hb)
  inj := fun i j bi bj k hi hj => h.inj i j bi bj k (hh i bi hi) (hh j bj hj)
  tm := fun t => by
    rcases ht t with e | e
    · rw [e]; exact .junk _
    · rw [e]; exact h.tm t
  size := by rw [hN]; exact h.size
  dom := fun id hi => hd id (h.dom id hi)
  fr := { h.fr with own := fun k hk => by obtain ⟨i, b, hi, hb, hki⟩ := hk; exact h.fr.own k ⟨i, b, hh i b hi, hb, hki⟩ }
  marks := h.marks }

end Go.Bv

namespace Go.Bv

structure Eff where
  val : V
  wr : List (Nat × Blk) := []
  nw : List (Nat × Blk) := []
  rd : List Nat := []

def hsets : List (Nat × Blk) → List (Nat × Blk) → List (Nat × Blk)
  | h, [] => h
  | h, (i, b) :: r => hsets (hset h i b) r
def pfst : List (Nat × Blk) → List Nat
  | [] => []
  | (i, _) :: r => i :: pfst r
theorem pfst_eq (l : List (Nat × Blk)) : pfst l = l.map (·.1) := by
  induction l with
  | nil => rfl
  | cons p r ih => obtain ⟨i, b⟩ := p; simp [pfst, ih]
def happ : List (Nat × Blk) → List (Nat × Blk) → List (Nat × Blk)
  | [], h => h
  | p :: r, h => p :: happ r h
def napp : List Nat → List Nat → List Nat
  | [], h => h
  | p :: r, h => p :: napp r h
theorem happ_eq (l h : List (Nat × Blk)) : happ l h = l ++ h := by
  induction l with
  | nil => rfl
  | cons p r ih => simp [happ, ih]
theorem napp_eq (l h : List Nat) : napp l h = l ++ h := by
  induction l with
  | nil => rfl
  | cons p r ih => simp [napp, ih]

def VS.mem (s : VS) (e : Eff) : VS := { s with hp := happ e.nw (hsets s.hp e.wr), us := napp (pfst e.nw) s.us }
def VS.put (s : VS) : Option Nat → V → VS
  | none, _ => s
  | some d, v => { s with tm := (d, v) :: s.tm }
def VS.app (s : VS) (o : Oper) (e : Eff) : VS := (s.mem e).put o.dst e.val

theorem hsets_other {wr : List (Nat × Blk)} {i : Nat} (hi : i ∉ pfst wr) : ∀ h, hget (hsets h wr) i = hget h i := by
  induction wr with
  | nil => intro h; rfl
  | cons p r ih =>
    obtain ⟨j, b⟩ := p
    intro h
    simp only [pfst, List.mem_cons, not_or] at hi
    simp only [hsets]
    rw [ih hi.2, hget_hset, if_neg (fun e => hi.1 e.1.symm)]
theorem happ_other {nw : List (Nat × Blk)} {i : Nat} (hi : i ∉ pfst nw) (h : List (Nat × Blk)) : hget (happ nw h) i = hget h i := by
  induction nw with
  | nil => rfl
  | cons p r ih =>
    obtain ⟨j, b⟩ := p
    simp only [pfst, List.mem_cons, not_or] at hi
    simp only [happ, hget_cons]
    rw [if_neg (fun e => hi.1 e.symm), ih hi.2]
theorem hsets_congr {wr : List (Nat × Blk)} {i : Nat} : ∀ {h h' : List (Nat × Blk)}, (∀ j, hget h j = hget h' j) → hget (hsets h wr) i = hget (hsets h' wr) i := by
  induction wr with
  | nil => intro h h' e; exact e i
  | cons p r ih =>
    obtain ⟨j, b⟩ := p
    intro h h' e
    simp only [hsets]
    refine ih (fun k => ?_)
    rw [hget_hset, hget_hset, e, e]

theorem hsets_at {wr : List (Nat × Blk)} {i : Nat} : ∀ {h h' : List (Nat × Blk)}, hget h i = hget h' i → hget (hsets h wr) i = hget (hsets h' wr) i := by
  induction wr with
  | nil => intro h h' e; exact e
  | cons p r ih =>
    obtain ⟨j, b⟩ := p
    intro h h' e
    simp only [hsets]
    refine ih ?_
    rw [hget_hset, hget_hset]
    by_cases hj : j = i
    · subst hj; rw [e]
    · rw [if_neg (fun x => hj x.1), if_neg (fun x => hj x.1)]; exact e
theorem happ_at {nw : List (Nat × Blk)} {i : Nat} {h h' : List (Nat × Blk)} (e : hget h i = hget h' i) : hget (happ nw h) i = hget (happ nw h') i := by
  induction nw with
  | nil => exact e
  | cons p r ih =>
    obtain ⟨j, b⟩ := p
    simp only [happ, hget_cons, ih]
theorem happ_comm {a b : List (Nat × Blk)} {h : List (Nat × Blk)} (hd : ∀ i, i ∈ pfst a → i ∉ pfst b) (i : Nat) : hget (happ a (happ b h)) i = hget (happ b (happ a h)) i := by
  by_cases ha : i ∈ pfst a
  · have hb := hd i ha
    rw [happ_other hb]
    exact happ_at (happ_other hb h)
  · rw [happ_other ha]
    exact (happ_at (happ_other ha h)).symm

structure Same (s s' : VS) : Prop where
  tm : ∀ t, lk s.tm t = lk s'.tm t
  hp : ∀ i, hget s.hp i = hget s'.hp i
  nx : s.nx = s'.nx
  N : s.N = s'.N
  us : ∀ i, i ∈ s.us ↔ i ∈ s'.us
theorem Same.refl (s : VS) : Same s s := ⟨fun _ => rfl, fun _ => rfl, rfl, rfl, fun _ => Iff.rfl⟩
theorem Same.symm {s s' : VS} (h : Same s s') : Same s' s := ⟨fun t => (h.tm t).symm, fun i => (h.hp i).symm, h.nx.symm, h.N.symm, fun i => (h.us i).symm⟩
theorem Same.trans {a b c : VS} (h : Same a b) (k : Same b c) : Same a c :=
  ⟨fun t => (h.tm t).trans (k.tm t), fun i => (h.hp i).trans (k.hp i), h.nx.trans k.nx, h.N.trans k.N, fun i => (h.us i).trans (k.us i)⟩
theorem Inv.same {E : Ent} {g : Gh} {s s' : VS} {a : Act} {w : World} (h : Inv E g s a w) (e : Same s s') : Inv E g s' a w :=
  h.weaken (fun t => .inr (e.tm t).symm) (fun i b hb => by rw [e.hp]; exact hb) (fun i hi => hi.imp (fun x => e.nx ▸ x) (fun x => (e.us i).1 x)) e.N.symm

def VS.comp (s : VS) : VS := { s with tm := compT s.tm }
theorem Same.comp (s : VS) : Same s s.comp := ⟨fun t => (lk_compT s.tm t).symm, fun _ => rfl, rfl, rfl, fun _ => Iff.rfl⟩

def forceN {α : Type} : Nat → (Nat → α) → α
  | 0, k => k 0
  | n + 1, k => k (n + 1)
def forceH {α : Type} : List (Nat × Blk) → List (Nat × Blk) → (List (Nat × Blk) → α) → α
  | [], acc, k => k acc.reverse
  | (i, b) :: r, acc, k => forceN i fun i => forceH r ((i, b) :: acc) k
def VS.force {α : Type} (s : VS) (k : VS → α) : α := forceN s.nx fun nx => forceN s.N fun N => forceH s.hp [] fun hp => k { tm := compT s.tm, hp := hp, nx := nx, us := s.us, N := N }
theorem forceN_eq {α : Type} (n : Nat) (k : Nat → α) : forceN n k = k n := by cases n <;> rfl
theorem forceH_eq {α : Type} : ∀ (l acc : List (Nat × Blk)) (k : List (Nat × Blk) → α), forceH l acc k = k (acc.reverse ++ l)
  | [], acc, k => by simp [forceH]
  | (i, b) :: r, acc, k => by simp [forceH, forceN_eq, forceH_eq r]
theorem VS.force_eq {α : Type} (s : VS) (k : VS → α) : s.force k = k s.comp := by simp [VS.force, forceN_eq, forceH_eq, VS.comp]
theorem Same.put {s s' : VS} (e : Same s s') (d : Option Nat) (v : V) : Same (s.put d v) (s'.put d v) := by
  cases d with
  | none => exact e
  | some d => exact ⟨fun t => by simp only [VS.put, lk_cons, e.tm], e.hp, e.nx, e.N, e.us⟩
theorem Same.mem {s s' : VS} (e : Same s s') (f : Eff) : Same (s.mem f) (s'.mem f) :=
  ⟨e.tm, fun i => happ_at (hsets_at (e.hp i)), e.nx, e.N, fun i => by simp only [VS.mem, napp_eq, List.mem_append, e.us]⟩

inductive It where
  | run (e : Eff)
  | skip
def VS.it (s : VS) (o : Oper) : It → VS
  | .run e => s.app o e
  | .skip => s.put o.dst (.tup [])
def It.rd : It → List Nat
  | .run e => e.rd
  | .skip => []
def It.wr : It → List Nat
  | .run e => napp (pfst e.wr) (pfst e.nw)
  | .skip => []
def It.nw : It → List Nat
  | .run e => pfst e.nw
  | .skip => []
def It.val : It → V
  | .run e => e.val
  | .skip => .tup []
theorem VS.it_tm (s : VS) (o : Oper) (it : It) (t : Nat) : lk (s.it o it).tm t = if o.dst = some t then it.val else lk s.tm t := by
  cases it with
  | run e =>
    simp only [VS.it, VS.app, It.val]
    cases hd : o.dst with
    | none => simp [VS.put, VS.mem]
    | some d => simp only [VS.put, VS.mem, lk_cons, Option.some.injEq]
  | skip =>
    simp only [VS.it, It.val]
    cases hd : o.dst with
    | none => simp [VS.put]
    | some d => simp only [VS.put, lk_cons, Option.some.injEq]
theorem VS.put_hp (s : VS) (d : Option Nat) (v : V) : (s.put d v).hp = s.hp := by cases d <;> rfl
theorem VS.put_nx (s : VS) (d : Option Nat) (v : V) : (s.put d v).nx = s.nx := by cases d <;> rfl
theorem VS.put_us (s : VS) (d : Option Nat) (v : V) : (s.put d v).us = s.us := by cases d <;> rfl
theorem VS.put_N (s : VS) (d : Option Nat) (v : V) : (s.put d v).N = s.N := by cases d <;> rfl
theorem VS.it_hp (s : VS) (o : Oper) (it : It) {i : Nat} (hi : i ∉ it.wr) : hget (s.it o it).hp i = hget s.hp i := by
  cases it with
  | run e =>
    simp only [It.wr, napp_eq, List.mem_append, not_or] at hi
    simp only [VS.it, VS.app, VS.put_hp, VS.mem]
    rw [happ_other hi.2, hsets_other hi.1]
  | skip => simp only [VS.it, VS.put_hp]
theorem VS.it_nx (s : VS) (o : Oper) (it : It) : (s.it o it).nx = s.nx := by cases it <;> simp [VS.it, VS.app, VS.put_nx, VS.mem]
theorem VS.it_N (s : VS) (o : Oper) (it : It) : (s.it o it).N = s.N := by cases it <;> simp [VS.it, VS.app, VS.put_N, VS.mem]
theorem VS.it_us (s : VS) (o : Oper) (it : It) (i : Nat) : i ∈ (s.it o it).us ↔ i ∈ it.nw ∨ i ∈ s.us := by
  cases it with
  | run e => simp [VS.it, VS.app, VS.put_us, VS.mem, It.nw, napp_eq]
  | skip => simp [VS.it, VS.put_us, It.nw]
theorem It.nw_wr {it : It} {i : Nat} (h : i ∈ it.nw) : i ∈ it.wr := by
  cases it with
  | run e => simp only [It.wr, napp_eq, List.mem_append]; exact .inr h
  | skip => cases h

structure Agree (ops : Array Oper) (s T : VS) (o : Oper) (it : It) : Prop where
  tm : ∀ t, t ∈ o.looksAt ops → lk s.tm t = lk T.tm t
  rd : ∀ i, i ∈ it.rd → hget s.hp i = hget T.hp i
  fresh : ∀ i, i ∈ it.nw → s.fresh i
  N : s.N = T.N
  nx : s.nx = T.nx

def guardTmp (ops : Array Oper) (j : Nat) : Option Nat := (ops[j]?).bind (·.dst)

def Due (ops : Array Oper) (o : Oper) (T : VS) : Prop := ∀ j want, o.guard = some (j, want) → ∃ t, guardTmp ops j = some t ∧ lk T.tm t = .d (.bool want)
def NotDue (ops : Array Oper) (o : Oper) (T : VS) : Prop := ∃ j want t, o.guard = some (j, want) ∧ guardTmp ops j = some t ∧ (lk T.tm t = .d (.bool (!want)) ∨ lk T.tm t = .tup [])

def rF (ro : Option Nat) : Fence := { Fence.wide with round := ro }
theorem rF_fn (ro : Option Nat) (f : FuncId) : (rF ro).fn f := trivial
theorem rF_depth (ro : Option Nat) : (rF ro).depth = none := rfl

def StepOK (P : Program) (ops : Array Oper) (o : Oper) (e : Eff) (T : VS) : Prop :=
  ∀ s, Agree ops s T o (.run e) → ∀ (ro : Option Nat) (E : Ent) (g : Gh) (a : Act) (w : World) (n : Nat) (K : Act → World → Prop) (Q : Exit → Act → World → Prop), E.na ≤ s.nx → Inv E g s a w →
    (∀ g' a' w', Inv E g' (s.app o e) a' w' → K a' w') → o.wpIn (rF ro) n P a w K Q

def ItOK (P : Program) (ops : Array Oper) (o : Oper) (T : VS) : It → Prop
  | .run e => Due ops o T ∧ StepOK P ops o e T
  | .skip => NotDue ops o T ∧ ∀ d, o.dst = some d → d < T.N

structure Itm where
  i : Nat
  o : Oper
  it : It
  T : VS
  alt : VS → Prop := fun _ => False

def Itm.at (x : Itm) (T : VS) : Prop := T = x.T ∨ x.alt T

inductive Ch (ops : Array Oper) : List Itm → VS → VS → Prop
  | nil {s sn : VS} : Same s sn → Ch ops [] s sn
  | cons {x : Itm} {l : List Itm} {s sn : VS} (T : VS) : x.at T → Agree ops s T x.o x.it → Ch ops l (s.it x.o x.it) sn → Ch ops (x :: l) s sn

theorem Same.it {s s' : VS} (e : Same s s') (o : Oper) (it : It) : Same (s.it o it) (s'.it o it) := by
  cases it with
  | run f => exact (e.mem f).put _ _
  | skip => exact e.put _ _
theorem Agree.same {ops : Array Oper} {s s' T : VS} {o : Oper} {it : It} (h : Agree ops s T o it) (e : Same s s') : Agree ops s' T o it :=
  ⟨fun t ht => (e.tm t).symm.trans (h.tm t ht), fun i hi => (e.hp i).symm.trans (h.rd i hi), fun i hi x => h.fresh i hi (x.imp (fun y => e.nx ▸ y) (fun y => (e.us i).2 y)), e.N.symm.trans h.N, e.nx.symm.trans h.nx⟩
theorem Ch.same {ops : Array Oper} {l : List Itm} {s s' sn : VS} (h : Ch ops l s sn) (e : Same s s') : Ch ops l s' sn := by
  induction h generalizing s' with
  | nil h => exact .nil (e.symm.trans h)
  | cons T hT ha _ ih => exact .cons T hT (ha.same e) (ih (e.it _ _))

structure Indep (ops : Array Oper) (x y : Itm) : Prop where
  d1 : ∀ d, x.o.dst = some d → d ∉ y.o.looksAt ops
  d2 : ∀ d, y.o.dst = some d → d ∉ x.o.looksAt ops
  dd : ∀ d, x.o.dst = some d → y.o.dst ≠ some d
  r1 : ∀ i, i ∈ x.it.wr → i ∉ y.it.rd
  r2 : ∀ i, i ∈ y.it.wr → i ∉ x.it.rd
  ww : ∀ i, i ∈ x.it.wr → i ∉ y.it.wr

theorem hget_mem (s : VS) (e : Eff) (i : Nat) : hget (s.mem e).hp i = hget (happ e.nw (hsets s.hp e.wr)) i := rfl

theorem it_comm_hp {s : VS} {x y : Itm} (h : ∀ i, i ∈ x.it.wr → i ∉ y.it.wr) (i : Nat) : hget ((s.it x.o x.it).it y.o y.it).hp i = hget ((s.it y.o y.it).it x.o x.it).hp i := by
  have key : ∀ (a b : Itm), i ∉ b.it.wr → hget ((s.it a.o a.it).it b.o b.it).hp i = hget ((s.it b.o b.it).it a.o a.it).hp i := by
    intro a b hb
    rw [VS.it_hp _ _ _ hb]
    have h1 : hget (s.it b.o b.it).hp i = hget s.hp i := VS.it_hp _ _ _ hb
    cases ha : a.it with
    | skip => simp only [VS.it, VS.put_hp]; exact h1.symm
    | run e =>
      simp only [VS.it, VS.app, VS.put_hp, VS.mem]
      exact happ_at (hsets_at h1.symm)
  by_cases hx : i ∈ x.it.wr
  · exact key x y (h i hx)
  · exact (key y x hx).symm

structure Tol (ops : Array Oper) (x y : Itm) : Prop where
  d1 : ∀ d, x.o.dst = some d → d ∉ y.o.looksAt ops
  d2 : ∀ d, y.o.dst = some d → d ∉ x.o.looksAt ops
  dd : ∀ d, x.o.dst = some d → y.o.dst ≠ some d
  nw : x.it.wr = []
  q : ∀ T, x.at T → ∃ T2, x.at T2 ∧ (∀ t, t ∈ x.o.looksAt ops → lk T2.tm t = lk T.tm t) ∧ T2.N = T.N ∧ T2.nx = T.nx ∧ ∀ i, i ∈ x.it.rd → ∀ s : VS, hget s.hp i = hget T.hp i → hget (s.it y.o y.it).hp i = hget T2.hp i
def Apart (ops : Array Oper) (x y : Itm) : Prop := Indep ops x y ∨ Tol ops x y

theorem Ch.swapEnd {ops : Array Oper} {x y : Itm} {l : List Itm} {s sn : VS} (dd : ∀ d, x.o.dst = some d → y.o.dst ≠ some d) (ww : ∀ i, i ∈ x.it.wr → i ∉ y.it.wr) (h : Ch ops l ((s.it x.o x.it).it y.o y.it) sn) : Ch ops l ((s.it y.o y.it).it x.o x.it) sn := by
  refine h.same ⟨fun t => ?_, fun i => it_comm_hp ww i, ?_, ?_, fun i => ?_⟩
  · rw [VS.it_tm, VS.it_tm, VS.it_tm, VS.it_tm]
    by_cases h1 : x.o.dst = some t
    · have h2 : y.o.dst ≠ some t := dd t h1
      simp [h1, h2]
    · simp [h1]
  · simp [VS.it_nx]
  · simp [VS.it_N]
  · simp only [VS.it_us]
    constructor
    · rintro (h1 | h1 | h1)
      · exact .inr (.inl h1)
      · exact .inl h1
      · exact .inr (.inr h1)
    · rintro (h1 | h1 | h1)
      · exact .inr (.inl h1)
      · exact .inl h1
      · exact .inr (.inr h1)

theorem Ch.swap {ops : Array Oper} {x y : Itm} {l : List Itm} {s sn : VS} (hap : Apart ops x y) (h : Ch ops (x :: y :: l) s sn) : Ch ops (y :: x :: l) s sn := by
  cases h with
  | cons Tx hTx hx h =>
    cases h with
    | cons Ty hTy hy h =>
      rcases hap with hi | hi
      · have ny : Agree ops s Ty y.o y.it := by
          refine ⟨fun t ht => ?_, fun i hi' => ?_, fun i hi' hf => hy.fresh i hi' ?_, ?_, ?_⟩
          · have := hy.tm t ht
            rw [VS.it_tm, if_neg (fun e => hi.d1 t e ht)] at this
            exact this
          · have := hy.rd i hi'
            rw [VS.it_hp _ _ _ (fun e => hi.r1 i e hi')] at this
            exact this
          · rw [VS.it_nx, VS.it_us]; exact hf.imp id .inr
          · have := hy.N; rw [VS.it_N] at this; exact this
          · have := hy.nx; rw [VS.it_nx] at this; exact this
        have nx : Agree ops (s.it y.o y.it) Tx x.o x.it := by
          refine ⟨fun t ht => ?_, fun i hi' => ?_, fun i hi' hf => ?_, ?_, ?_⟩
          · rw [VS.it_tm, if_neg (fun e => hi.d2 t e ht)]; exact hx.tm t ht
          · rw [VS.it_hp _ _ _ (fun e => hi.r2 i e hi')]; exact hx.rd i hi'
          · rw [VS.it_nx, VS.it_us] at hf
            rcases hf with hf | hf | hf
            · exact hx.fresh i hi' (.inl hf)
            · exact hi.ww i (It.nw_wr hi') (It.nw_wr hf)
            · exact hx.fresh i hi' (.inr hf)
          · rw [VS.it_N]; exact hx.N
          · rw [VS.it_nx]; exact hx.nx
        exact .cons Ty hTy ny (.cons Tx hTx nx (h.swapEnd hi.dd hi.ww))
      · have hnw : ∀ i, i ∉ x.it.wr := fun i h => by rw [hi.nw] at h; cases h
        have hnn : ∀ i, i ∉ x.it.nw := fun i h => hnw i (It.nw_wr h)
        have ny : Agree ops s Ty y.o y.it := by
          refine ⟨fun t ht => ?_, fun i hi' => ?_, fun i hi' hf => hy.fresh i hi' ?_, ?_, ?_⟩
          · have := hy.tm t ht
            rw [VS.it_tm, if_neg (fun e => hi.d1 t e ht)] at this
            exact this
          · have := hy.rd i hi'
            rw [VS.it_hp _ _ _ (hnw i)] at this
            exact this
          · rw [VS.it_nx, VS.it_us]; exact hf.imp id .inr
          · have := hy.N; rw [VS.it_N] at this; exact this
          · have := hy.nx; rw [VS.it_nx] at this; exact this
        obtain ⟨T2, h1, h2, h3, h4, h5⟩ := hi.q Tx hTx
        have nx : Agree ops (s.it y.o y.it) T2 x.o x.it := by
          refine ⟨fun t ht => ?_, fun i hi' => h5 i hi' s (hx.rd i hi'), fun i hi' => absurd hi' (hnn i), ?_, ?_⟩
          · rw [VS.it_tm, if_neg (fun e => hi.d2 t e ht), h2 t ht]; exact hx.tm t ht
          · rw [VS.it_N, h3]; exact hx.N
          · rw [VS.it_nx, h4]; exact hx.nx
        exact .cons Ty hTy ny (.cons T2 h1 nx (h.swapEnd hi.dd (fun i h => absurd h (hnw i))))

theorem Ch.front {ops : Array Oper} {x : Itm} {l1 l2 : List Itm} {s sn : VS} (hi : ∀ y, y ∈ l1 → Apart ops y x) (h : Ch ops (l1 ++ x :: l2) s sn) : Ch ops (x :: (l1 ++ l2)) s sn := by
  induction l1 generalizing s with
  | nil => exact h
  | cons y l1 ih =>
    cases h with
    | cons T hT hy h =>
      have := ih (fun z hz => hi z (List.mem_cons_of_mem _ hz)) h
      exact Ch.swap (hi y List.mem_cons_self) (.cons T hT hy this)

def ancs : List Oper → List (List Nat) → List (List Nat)
  | [], acc => acc
  | o :: r, acc => ancs r (acc ++ [o.after.toList.foldl (fun l e => bif Region.binds .any e then l ++ (e.on :: acc.getD e.on []) else l) []])

structure Foot where
  dst : Option Nat
  tr : List Nat
  rd : List Nat
  wr : List Nat
def notIn (d : Option Nat) (l : List Nat) : Bool := match d with | none => true | some t => !l.contains t
def disj (a b : List Nat) : Bool := a.all fun i => !b.contains i
def apartF (x y : Foot) : Bool :=
  notIn x.dst y.tr && notIn y.dst x.tr && notIn x.dst (y.dst.toList) && disj x.wr y.rd && disj y.wr x.rd && disj x.wr y.wr

def chkAt (anc : List Nat) (y : Foot) : Nat → List Foot → Bool
  | _, [] => true
  | j, x :: r => (anc.contains j || apartF x y) && chkAt anc y (j + 1) r
def chkAll (fs : List Foot) : List (List Nat) → List Foot → Bool
  | _, [] => true
  | [], _ :: _ => false
  | a :: as, y :: r => chkAt a y 0 (fs.take (fs.length - (r.length + 1))) && chkAll fs as r
def edgesOK : Nat → List Oper → Bool
  | _, [] => true
  | i, o :: r => (o.after.toList.all fun e => !Region.binds .any e || e.on < i) && edgesOK (i + 1) r
def chk (ops : List Oper) (fs : List Foot) : Bool := edgesOK 0 ops && chkAll fs (ancs ops []) fs

end Go.Bv

namespace Go.Bv

inductive Rch (ops : List Oper) : Nat → Nat → Prop
  | one {k : Nat} {o : Oper} {e : Edge} : ops[k]? = some o → e ∈ o.after → Region.binds .any e = true → Rch ops k e.on
  | more {k j : Nat} {o : Oper} {e : Edge} : ops[k]? = some o → e ∈ o.after → Region.binds .any e = true → Rch ops e.on j → Rch ops k j

def Good (ops : List Oper) (acc : List (List Nat)) : Prop := ∀ k l, acc[k]? = some l → ∀ j, j ∈ l → Rch ops k j

theorem anc_fold (acc : List (List Nat)) (es : List Edge) : ∀ (l0 : List Nat) (j : Nat), j ∈ es.foldl (fun l e => bif Region.binds .any e then l ++ (e.on :: acc.getD e.on []) else l) l0 →
    j ∈ l0 ∨ ∃ e, e ∈ es ∧ Region.binds .any e = true ∧ (j = e.on ∨ j ∈ acc.getD e.on []) := by
  induction es with
  | nil => intro l0 j h; exact .inl h
  | cons e es ih =>
    intro l0 j h
    simp only [List.foldl_cons] at h
    rcases ih _ _ h with h | ⟨e', he', hb, hj⟩
    · cases hb : Region.binds .any e with
      | false => rw [hb] at h; exact .inl h
      | true =>
        rw [hb] at h
        simp only [cond_true, List.mem_append, List.mem_cons] at h
        rcases h with h | h | h
        · exact .inl h
        · exact .inr ⟨e, List.mem_cons_self, hb, .inl h⟩
        · exact .inr ⟨e, List.mem_cons_self, hb, .inr h⟩
    · exact .inr ⟨e', List.mem_cons_of_mem _ he', hb, hj⟩

theorem ancs_good {ops : List Oper} : ∀ (l : List Oper) (acc : List (List Nat)), (∀ i, l[i]? = ops[acc.length + i]?) → Good ops acc → Good ops (ancs l acc) ∧ (ancs l acc).length = acc.length + l.length := by
  intro l
  induction l with
  | nil => intro acc _ h; exact ⟨h, rfl⟩
  | cons o l ih =>
    intro acc hl h
    simp only [ancs]
    have ho : ops[acc.length]? = some o := by have := hl 0; simpa using this.symm
    have := ih (acc ++ [o.after.toList.foldl (fun l e => bif Region.binds .any e then l ++ (e.on :: acc.getD e.on []) else l) []]) (fun i => by
      have := hl (i + 1)
      simp only [List.getElem?_cons_succ] at this
      rw [this, List.length_append, List.length_singleton]; congr 1; omega) (by
      intro k l' hk j hj
      rcases Nat.lt_or_ge k acc.length with hlt | hge
      · rw [List.getElem?_append_left hlt] at hk
        exact h k l' hk j hj
      · have hk' : k = acc.length := by
          have := (List.getElem?_eq_some_iff.1 hk).1
          simp at this; omega
        subst hk'
        rw [List.getElem?_append_right (Nat.le_refl _)] at hk
        simp only [Nat.sub_self, List.getElem?_cons_zero, Option.some.injEq] at hk
        subst hk
        rcases anc_fold acc _ _ j hj with h0 | ⟨e, he, hb, hj'⟩
        · cases h0
        · have he' : e ∈ o.after := by simpa using he
          rcases hj' with rfl | hj'
          · exact .one ho he' hb
          · refine .more ho he' hb ?_
            rw [List.getD_eq_getElem?_getD] at hj'
            cases ha : acc[e.on]? with
            | none => rw [ha] at hj'; cases hj'
            | some l'' => rw [ha] at hj'; exact h _ _ ha j hj')
    refine ⟨this.1, ?_⟩
    rw [this.2]; simp; omega

theorem chkAt_spec {anc : List Nat} {y : Foot} : ∀ (l : List Foot) (j0 : Nat), chkAt anc y j0 l = true → ∀ j x, l[j]? = some x → (j0 + j) ∈ anc ∨ apartF x y = true := by
  intro l
  induction l with
  | nil => intro j0 _ j x h; simp at h
  | cons z l ih =>
    intro j0 h j x hx
    simp only [chkAt, Bool.and_eq_true, Bool.or_eq_true, List.contains_iff_mem] at h
    cases j with
    | zero =>
      simp only [List.getElem?_cons_zero, Option.some.injEq] at hx
      subst hx; exact h.1
    | succ j =>
      have := ih (j0 + 1) h.2 j x (by simpa using hx)
      rw [Nat.add_assoc, Nat.add_comm 1 j] at this; exact this

theorem chkAll_spec {fs : List Foot} : ∀ (r : List Foot) (as : List (List Nat)), (∀ i, r[i]? = fs[fs.length - r.length + i]?) → r.length ≤ fs.length → chkAll fs as r = true →
    ∀ i y, r[i]? = some y → ∃ a, as[i]? = some a ∧ ∀ j x, j < fs.length - r.length + i → fs[j]? = some x → j ∈ a ∨ apartF x y = true := by
  intro r
  induction r with
  | nil => intro as _ _ _ i y h; simp at h
  | cons z r ih =>
    intro as hr hlen h i y hy
    cases as with
    | nil => simp [chkAll] at h
    | cons a as =>
      simp only [chkAll, Bool.and_eq_true] at h
      simp only [List.length_cons] at hr hlen
      cases i with
      | zero =>
        simp only [List.getElem?_cons_zero, Option.some.injEq] at hy
        subst hy
        refine ⟨a, rfl, fun j x hj hx => ?_⟩
        have := chkAt_spec _ 0 h.1 j x (by
          rw [List.getElem?_take, if_pos (by simp at hj; omega)]; exact hx)
        simpa using this
      | succ i =>
        obtain ⟨a', ha', hp⟩ := ih as (fun i => by
          have := hr (i + 1)
          simp only [List.getElem?_cons_succ] at this
          rw [this]; congr 1; omega) (by omega) h.2 i y (by simpa using hy)
        refine ⟨a', by simpa using ha', fun j x hj hx => hp j x ?_ hx⟩
        simp only [List.length_cons] at hj
        omega

theorem edgesOK_spec : ∀ (l : List Oper) (i0 : Nat), edgesOK i0 l = true → ∀ i o, l[i]? = some o → ∀ e, e ∈ o.after → Region.binds .any e = true → e.on < i0 + i := by
  intro l
  induction l with
  | nil => intro i0 _ i o h; simp at h
  | cons o' l ih =>
    intro i0 h i o ho e he hb
    simp only [edgesOK, Bool.and_eq_true, List.all_eq_true, Bool.or_eq_true, Bool.not_eq_true', decide_eq_true_eq] at h
    cases i with
    | zero =>
      simp only [List.getElem?_cons_zero, Option.some.injEq] at ho
      subst ho
      rcases h.1 e (by simpa using he) with h1 | h1
      · rw [hb] at h1; cases h1
      · exact h1
    | succ i =>
      have := ih (i0 + 1) h.2 i o (by simpa using ho) e he hb
      omega

theorem disj_spec {a b : List Nat} (h : disj a b = true) (i : Nat) (hi : i ∈ a) : i ∉ b := by
  simp only [disj, List.all_eq_true, Bool.not_eq_true', List.contains_eq_mem, decide_eq_false_iff_not] at h
  exact h i hi
theorem notIn_spec {d : Option Nat} {l : List Nat} (h : notIn d l = true) (t : Nat) (ht : d = some t) : t ∉ l := by
  subst ht
  simpa [notIn, List.contains_eq_mem] using h

def footOf (ops : Array Oper) (x : Itm) : Foot := { dst := x.o.dst, tr := x.o.looksAt ops, rd := x.it.rd, wr := x.it.wr }

theorem indep_of {ops : Array Oper} {x y : Itm} (h : apartF (footOf ops x) (footOf ops y) = true) : Indep ops x y := by
  simp only [apartF, Bool.and_eq_true, footOf] at h
  obtain ⟨⟨⟨⟨⟨h1, h2⟩, h3⟩, h4⟩, h5⟩, h6⟩ := h
  refine ⟨fun d hd => notIn_spec h1 d hd, fun d hd => notIn_spec h2 d hd, fun d hd e => notIn_spec h3 d hd (by rw [e]; simp), fun i hi => disj_spec h4 i hi, fun i hi => disj_spec h5 i hi, fun i hi => disj_spec h6 i hi⟩

def VS.close (s : VS) (n : Nat) : VS := { s with nx := s.nx + 16 * n, us := [] }

def Pairs (ops : Array Oper) (L : List Itm) : Prop := edgesOK 0 ops.toList = true ∧ ∀ x y, x ∈ L → y ∈ L → x.i < y.i → Rch ops.toList y.i x.i ∨ Apart ops x y

inductive VO (P : Program) (ops : Array Oper) (draw : Bool) : List Oper → Nat → VS → List Itm → (VS → Prop) → Prop
  | done {i : Nat} {s : VS} {acc : List Itm} {K : VS → Prop} : (draw = true → Pairs ops acc.reverse) → (∀ j, j ∈ s.us → j < s.nx + 16 * i) → K (s.close i) → VO P ops draw [] i s acc K
  | step {o : Oper} {l : List Oper} {i : Nat} {s : VS} {acc : List Itm} {K : VS → Prop} (e : Eff) (alt : VS → Prop) : Due ops o s → (∀ j, j ∈ (It.run e).nw → s.fresh j) → StepOK P ops o e s → (∀ T, alt T → Due ops o T ∧ StepOK P ops o e T) →
      VO P ops draw l (i + 1) (s.app o e) ({ i := i, o := o, it := .run e, T := s, alt := alt } :: acc) K → VO P ops draw (o :: l) i s acc K
  | skip {o : Oper} {l : List Oper} {i : Nat} {s : VS} {acc : List Itm} {K : VS → Prop} : NotDue ops o s → (∀ d, o.dst = some d → d < s.N) →
      VO P ops draw l (i + 1) (s.put o.dst (.tup [])) ({ i := i, o := o, it := .skip, T := s } :: acc) K → VO P ops draw (o :: l) i s acc K

theorem Ch.refl_cons {ops : Array Oper} {s sn : VS} {l : List Itm} {x : Itm} (hT : x.T = s) (hf : ∀ j, j ∈ x.it.nw → s.fresh j) (h : Ch ops l (s.it x.o x.it) sn) : Ch ops (x :: l) s sn :=
  .cons s (.inl hT.symm) ⟨fun _ _ => rfl, fun _ _ => rfl, hf, rfl, rfl⟩ h

theorem VO.items {P : Program} {ops : Array Oper} {draw : Bool} {l : List Oper} {i : Nat} {s : VS} {acc : List Itm} {K : VS → Prop} (h : VO P ops draw l i s acc K) :
    ∃ (L : List Itm) (sn : VS), L.map (·.o) = l ∧ (∀ k x, L[k]? = some x → x.i = i + k) ∧ (∀ x, x ∈ L → ∀ T, x.at T → ItOK P ops x.o T x.it) ∧ Ch ops L s sn ∧ (∀ j, j ∈ sn.us → j < sn.nx + 16 * (i + l.length)) ∧
      K (sn.close (i + l.length)) ∧ (draw = true → Pairs ops (acc.reverse ++ L)) := by
  induction h with
  | @done i s acc K h0 h1 h2 => exact ⟨[], s, rfl, (fun k x hk => by simp at hk), (fun x hx => absurd hx (by simp)), Ch.nil (Same.refl s), h1, h2, by simpa using h0⟩
  | @step o l i s acc K e alt hd hf hs halt _ ih =>
    obtain ⟨L, sn, h1, h2, h3, h4, h5, h6, h7⟩ := ih
    refine ⟨⟨i, o, .run e, s, alt⟩ :: L, sn, by simp [h1], fun k x hk => ?_, fun x hx => ?_, Ch.refl_cons rfl hf h4, ?_, ?_, fun hdr => ?_⟩
    · cases k with
      | zero => simp only [List.getElem?_cons_zero, Option.some.injEq] at hk; subst hk; rfl
      | succ k => have := h2 k x (by simpa using hk); omega
    · cases hx with
      | head =>
        intro T hT
        rcases hT with rfl | hT
        · exact ⟨hd, hs⟩
        · exact halt T hT
      | tail _ hx => exact h3 x hx
    · intro j hj; have := h5 j hj; simp only [List.length_cons]; omega
    · have e1 : i + (o :: l).length = i + 1 + l.length := by simp only [List.length_cons]; omega
      rw [e1]; exact h6
    · have := h7 hdr
      simpa using this
  | @skip o l i s acc K hd hN _ ih =>
    obtain ⟨L, sn, h1, h2, h3, h4, h5, h6, h7⟩ := ih
    refine ⟨⟨i, o, .skip, s, fun _ => False⟩ :: L, sn, by simp [h1], fun k x hk => ?_, fun x hx => ?_, Ch.refl_cons rfl (fun j hj => by cases hj) h4, ?_, ?_, fun hdr => ?_⟩
    · cases k with
      | zero => simp only [List.getElem?_cons_zero, Option.some.injEq] at hk; subst hk; rfl
      | succ k => have := h2 k x (by simpa using hk); omega
    · cases hx with
      | head =>
        intro T hT
        rcases hT with rfl | hT
        · exact ⟨hd, hN⟩
        · cases hT
      | tail _ hx => exact h3 x hx
    · intro j hj; have := h5 j hj; simp only [List.length_cons]; omega
    · have e1 : i + (o :: l).length = i + 1 + l.length := by simp only [List.length_cons]; omega
      rw [e1]; exact h6
    · have := h7 hdr
      simpa using this

theorem wanted_due {ops : Array Oper} {o : Oper} {g : Gh} {s T : VS} {a : Act} {w : World} (hr : RelS g s a w) (ht : ∀ t, t ∈ o.looksAt ops → lk s.tm t = lk T.tm t) (hd : Due ops o T) :
    Region.wanted o (yielded ops a.tmps) = true := by
  unfold Region.wanted
  cases hg : o.guard with
  | none => rfl
  | some jw =>
    obtain ⟨j, want⟩ := jw
    obtain ⟨t, h1, h2⟩ := hd j want hg
    have hmem : t ∈ o.looksAt ops := by
      simp only [Oper.looksAt, hg, List.mem_append]
      right
      simp only [guardTmp] at h1
      rw [h1]; simp
    have hv := hr.tm t
    rw [ht t hmem, h2] at hv
    cases hv with
    | d hv =>
      generalize hc : a.tmps.getD t undef = c at hv
      cases hv
      simp only [guardTmp] at h1
      have : yielded ops a.tmps j = some want := by
        unfold yielded
        rw [h1]
        simp only [Option.bind_some]
        rw [Array.getD_eq_getD_getElem?] at hc
        cases hx : a.tmps[t]? with
        | none => rw [hx] at hc; cases hc
        | some z => rw [hx] at hc; simp at hc; subst hc; rfl
      simp [this]

theorem wanted_not {ops : Array Oper} {o : Oper} {g : Gh} {s T : VS} {a : Act} {w : World} (hr : RelS g s a w) (ht : ∀ t, t ∈ o.looksAt ops → lk s.tm t = lk T.tm t) (hd : NotDue ops o T) :
    Region.wanted o (yielded ops a.tmps) = false := by
  obtain ⟨j, want, t, hg, h1, h2⟩ := hd
  have hmem : t ∈ o.looksAt ops := by
    simp only [Oper.looksAt, hg, List.mem_append]
    right
    simp only [guardTmp] at h1
    rw [h1]; simp
  have hv := hr.tm t
  simp only [guardTmp] at h1
  rcases h2 with h2 | h2
  · rw [ht t hmem, h2] at hv
    cases hv with
    | d hv =>
      generalize hc : a.tmps.getD t undef = c at hv
      cases hv
      have : yielded ops a.tmps j = some (!want) := by
        unfold yielded
        rw [h1]
        simp only [Option.bind_some]
        rw [Array.getD_eq_getD_getElem?] at hc
        cases hx : a.tmps[t]? with
        | none => rw [hx] at hc; cases hc
        | some z => rw [hx] at hc; simp at hc; subst hc; rfl
      simp [Region.wanted, hg, this]
  · rw [ht t hmem, h2] at hv
    generalize hc : a.tmps.getD t undef = c at hv
    cases hv with
    | tup vs cs _ _ =>
      have : yielded ops a.tmps j = none := by
        unfold yielded
        rw [h1]
        simp only [Option.bind_some]
        rw [Array.getD_eq_getD_getElem?] at hc
        cases hx : a.tmps[t]? with
        | none => rfl
        | some z => rw [hx] at hc; simp at hc; subst hc; rfl
      simp [Region.wanted, hg, this]

theorem wpOp_it {P : Program} {ro : Option Nat} {ops : Array Oper} {x : Itm} {s : VS} {E : Ent} {g : Gh} {a : Act} {w : World} {n i : Nat} {K : Act → World → Prop} {Q : Exit → Act → World → Prop}
    {T : VS} (ho : ops[i]? = some x.o) (hok : ItOK P ops x.o T x.it) (ha : Agree ops s T x.o x.it) (hna : E.na ≤ s.nx) (hi : Inv E g s a w) (hK : ∀ g' a' w', Inv E g' (s.it x.o x.it) a' w' → K a' w') :
    wpOpIn (rF ro) n P ops Q i K a w := by
  unfold wpOpIn
  rw [ho]
  simp only
  obtain ⟨i', o, it, T', alt⟩ := x
  cases it with
  | run e =>
    rw [if_pos (wanted_due hi.toRelS ha.tm hok.1)]
    exact hok.2 s ha ro E g a w n K Q hna hi hK
  | skip =>
    rw [if_neg (by rw [wanted_not hi.toRelS ha.tm hok.1]; simp)]
    refine ⟨fun _ _ => trivial, hK g _ w ?_⟩
    simp only [VS.it]
    cases hd : o.dst with
    | none => exact hi
    | some d => exact hi.put (.tup [] #[] rfl (fun i v c h => by simp at h)) (by have := hok.2 d hd; rw [ha.N]; exact this)

theorem Same.close {s s' : VS} (e : Same s s') (n : Nat) : Same (s.close n) (s'.close n) := ⟨e.tm, e.hp, by simp [VS.close, e.nx], e.N, fun _ => Iff.rfl⟩
theorem Inv.close {E : Ent} {g : Gh} {s : VS} {a : Act} {w : World} (h : Inv E g s a w) {n : Nat} (hu : ∀ j, j ∈ s.us → j < s.nx + 16 * n) : Inv E g (s.close n) a w :=
  h.weaken (fun _ => .inr rfl) (fun _ _ hb => hb) (fun id hid => .inl (by
    simp only [VS.close]
    rcases hid with h1 | h1
    · omega
    · exact hu id h1)) rfl

theorem wp_text {P : Program} {ro : Option Nat} {ops : Array Oper} {E : Ent} {n : Nat} {Q : Exit → Act → World → Prop} {sn : VS} (hQ : ∀ g a w, Inv E g sn a w → Q .normal a w) :
    ∀ (L : List Itm) (i : Nat) (s : VS) (g : Gh) (a : Act) (w : World), (∀ k x, L[k]? = some x → ops[i + k]? = some x.o) → (∀ x, x ∈ L → ∀ T, x.at T → ItOK P ops x.o T x.it) → Ch ops L s sn → E.na ≤ s.nx → Inv E g s a w →
      wpOpsIn (rF ro) n P ops Q (List.range' i L.length) a w := by
  intro L
  induction L with
  | nil =>
    intro i s g a w _ _ hc _ hi
    cases hc with
    | nil he => exact hQ g a w (hi.same he)
  | cons x L ih =>
    intro i s g a w hops hok hc hna hi
    cases hc with
    | cons T hT ha hc =>
      simp only [List.length_cons, List.range'_succ]
      rw [wpOpsIn_cons]
      refine wpOp_it (x := x) (by have := hops 0 x rfl; simpa using this) (hok x List.mem_cons_self T hT) ha hna hi (fun g' a' w' hi' => ?_)
      refine ih (i + 1) _ g' a' w' (fun k y hk => ?_) (fun y hy => hok y (List.mem_cons_of_mem _ hy)) hc (by rw [VS.it_nx]; exact hna) hi'
      have := hops (k + 1) y (by simpa using hk)
      rw [show i + 1 + k = i + (k + 1) from by omega]; exact this

theorem wp_any {P : Program} {ro : Option Nat} {ops : Array Oper} {E : Ent} {n : Nat} {Q : Exit → Act → World → Prop} {sn : VS} (hQ : ∀ g a w, Inv E g sn a w → Q .normal a w)
    (hedge : ∀ i o, ops[i]? = some o → ∀ e, e ∈ o.after → Region.binds .any e = true → e.on < i) {L0 : List Itm}
    (hind : ∀ x y, x ∈ L0 → y ∈ L0 → x.i < y.i → Rch ops.toList y.i x.i ∨ Apart ops x y)
    (hok : ∀ x, x ∈ L0 → ∀ T, x.at T → ItOK P ops x.o T x.it) (hops : ∀ x, x ∈ L0 → ops[x.i]? = some x.o) :
    ∀ (fuel : Nat) (listed : Array Bool) (L : List Itm) (s : VS) (g : Gh) (a : Act) (w : World), listed.size = ops.size → L.length ≤ fuel → (∀ x, x ∈ L → x ∈ L0 ∧ listed.getD x.i true = false) → L.Pairwise (fun x y => x.i < y.i) →
      (∀ i, i < ops.size → listed.getD i true = false → ∃ x, x ∈ L ∧ x.i = i) →
      (∀ i o, ops[i]? = some o → listed.getD i true = true → ∀ e, e ∈ o.after → Region.binds .any e = true → listed.getD e.on true = true) →
      Ch ops L s sn → E.na ≤ s.nx → Inv E g s a w → wpAnyIn (rF ro) n P .any ops Q fuel listed a w := by
  intro fuel
  have hgd : ∀ (listed : Array Bool) (i : Nat), i < listed.size → listed.getD i false = listed.getD i true := fun listed i h => by
    simp [Array.getD_eq_getD_getElem?, h]
  have hcl : ∀ (listed : Array Bool), (∀ i o, ops[i]? = some o → listed.getD i true = true → ∀ e, e ∈ o.after → Region.binds .any e = true → listed.getD e.on true = true) →
      ∀ i j, Rch ops.toList i j → (∀ o, ops[i]? = some o → ∀ e, e ∈ o.after → Region.binds .any e = true → listed.getD e.on true = true) → listed.getD j true = true := by
    intro listed hc i j hr
    induction hr with
    | one ho he hb => intro h; exact h _ (by simpa using ho) _ he hb
    | @more k j o e ho he hb _ ih =>
      intro h
      have hl := h _ (by simpa using ho) _ he hb
      exact ih (fun o' ho' e' he' hb' => hc _ o' ho' hl e' he' hb')
  have hready : ∀ (listed : Array Bool) (L : List Itm), listed.size = ops.size → (∀ x, x ∈ L → x ∈ L0 ∧ listed.getD x.i true = false) → L.Pairwise (fun x y => x.i < y.i) →
      (∀ i, i < ops.size → listed.getD i true = false → ∃ x, x ∈ L ∧ x.i = i) → Region.ready .any ops listed = [] → L = [] := by
    intro listed L hsz hL hp hall hr
    cases L with
    | nil => rfl
    | cons x L =>
      exfalso
      have hx := hL x List.mem_cons_self
      have hxo := hops x hx.1
      have hm : x.i ∈ Region.ready .any ops listed := by
        rw [mem_ready]
        refine ⟨hx.2, x.o, hxo, fun e he hb => ?_⟩
        have hlt := hedge x.i x.o hxo e he hb
        have hxs := (Array.getElem?_eq_some_iff.1 hxo).1
        rw [hgd listed e.on (by omega)]
        cases hle : listed.getD e.on true with
        | true => rfl
        | false =>
          obtain ⟨y, hy, hyi⟩ := hall e.on (by omega) hle
          cases hy with
          | head => omega
          | tail _ hy => have := (List.pairwise_cons.1 hp).1 y hy; omega
      rw [hr] at hm; cases hm
  induction fuel with
  | zero =>
    intro listed L s g a w hsz hlen hL hp hall hclosed hc hna hi
    have hnil : L = [] := by cases L with | nil => rfl | cons x l => simp at hlen
    subst hnil
    cases hc with
    | nil he =>
      refine ⟨?_, hQ g a w (hi.same he)⟩
      cases hr : Region.ready .any ops listed with
      | nil => rfl
      | cons i r =>
        have hm : i ∈ Region.ready .any ops listed := by rw [hr]; exact List.mem_cons_self
        rw [mem_ready] at hm
        obtain ⟨h0, o, ho, _⟩ := hm
        obtain ⟨x, hx, _⟩ := hall i (Array.getElem?_eq_some_iff.1 ho).1 h0
        cases hx
  | succ fuel ih =>
    intro listed L s g a w hsz hlen hL hp hall hclosed hc hna hi
    refine ⟨fun hr => ?_, fun i hm => ?_⟩
    · have := hready listed L hsz hL hp hall hr
      subst this
      cases hc with
      | nil he => exact hQ g a w (hi.same he)
    · rw [mem_ready] at hm
      obtain ⟨h0, o, ho, hdeps⟩ := hm
      have hisz := (Array.getElem?_eq_some_iff.1 ho).1
      obtain ⟨x, hx, hxi⟩ := hall i hisz h0
      obtain ⟨l1, l2, rfl⟩ := List.append_of_mem hx
      have hx0 := (hL x hx).1
      have hxo := hops x hx0
      rw [hxi, ho] at hxo
      injection hxo with hxo
      have hdeps' : ∀ o', ops[i]? = some o' → ∀ e, e ∈ o'.after → Region.binds .any e = true → listed.getD e.on true = true := by
        intro o' ho' e he hb
        rw [ho] at ho'; injection ho' with ho'; subst ho'
        have h1 := hdeps e he hb
        have hlt := hedge i o ho e he hb
        rw [← hgd listed e.on (by omega)]; exact h1
      have hfront : Ch ops (x :: (l1 ++ l2)) s sn := hc.front (fun y hy => by
        have hy0 := hL y (List.mem_append_left _ hy)
        have hlt : y.i < x.i := (List.pairwise_append.1 hp).2.2 y hy x List.mem_cons_self
        rcases hind y x hy0.1 hx0 hlt with hr | hr
        · exfalso
          have := hcl listed hclosed x.i y.i hr (by rw [hxi]; exact hdeps')
          rw [hy0.2] at this; cases this
        · exact hr)
      cases hfront with
      | cons T hT ha hc' =>
        refine wpOp_it (x := x) (by rw [ho, hxo]) (hok x hx0 T hT) ha hna hi (fun g' a' w' hi' => ?_)
        have hset : ∀ j, j ≠ i → (listed.setIfInBounds i true).getD j true = listed.getD j true := fun j hj => getD_set_ne true (Ne.symm hj)
        have hseti : (listed.setIfInBounds i true).getD i true = true := by simp
        have hpp := List.pairwise_append.1 hp
        have hsub : ∀ y, y ∈ l1 ++ l2 → y ∈ l1 ++ x :: l2 := fun y hy => by
          simp only [List.mem_append, List.mem_cons] at hy ⊢
          rcases hy with h | h
          · exact .inl h
          · exact .inr (.inr h)
        have hne : ∀ y, y ∈ l1 ++ l2 → y.i ≠ i := fun y hy => by
          rw [List.mem_append] at hy
          rcases hy with h | h
          · have := hpp.2.2 y h x List.mem_cons_self; omega
          · have := (List.pairwise_cons.1 hpp.2.1).1 y h; omega
        refine ih (listed.setIfInBounds i true) (l1 ++ l2) _ g' a' w' (by simp [hsz]) (by simp at hlen ⊢; omega) (fun y hy => ⟨(hL y (hsub y hy)).1, by rw [hset _ (hne y hy)]; exact (hL y (hsub y hy)).2⟩) ?_ (fun j hj hlj => ?_) (fun j o' ho' hlj e he hb => ?_) hc' (by rw [VS.it_nx]; exact hna) hi'
        · refine List.pairwise_append.2 ⟨hpp.1, (List.pairwise_cons.1 hpp.2.1).2, fun y hy z hz => hpp.2.2 y hy z (List.mem_cons_of_mem _ hz)⟩
        · have hji : j ≠ i := fun e => by subst e; rw [hseti] at hlj; cases hlj
          rw [hset j hji] at hlj
          obtain ⟨y, hy, hyj⟩ := hall j hj hlj
          refine ⟨y, ?_, hyj⟩
          simp only [List.mem_append, List.mem_cons] at hy ⊢
          rcases hy with h | h | h
          · exact .inl h
          · subst h; exact absurd (hxi.symm.trans hyj) (fun e => hji e.symm)
          · exact .inr h
        · by_cases hei : e.on = i
          · rw [hei]; exact hseti
          · rw [hset e.on hei]
            by_cases hji : j = i
            · subst hji; exact hdeps' o' ho' e he hb
            · rw [hset j hji] at hlj
              exact hclosed j o' ho' hlj e he hb

theorem pairs_of_chk {ops : Array Oper} {L : List Itm} (hidx : ∀ x, x ∈ L → L[x.i]? = some x) (hchk : chk ops.toList (L.map (footOf ops)) = true) : Pairs ops L := by
  simp only [chk, Bool.and_eq_true] at hchk
  have hanc := ancs_good (ops := ops.toList) ops.toList [] (fun i => by simp) (fun k l hk => by simp at hk)
  refine ⟨hchk.1, fun x y hx hy hlt => ?_⟩
  have hx' := hidx x hx
  have hy' := hidx y hy
  have hfx : (L.map (footOf ops))[x.i]? = some (footOf ops x) := by rw [List.getElem?_map, hx']; rfl
  have hfy : (L.map (footOf ops))[y.i]? = some (footOf ops y) := by rw [List.getElem?_map, hy']; rfl
  obtain ⟨an, han, hp⟩ := chkAll_spec (fs := L.map (footOf ops)) (L.map (footOf ops)) (ancs ops.toList []) (fun i => by simp) (Nat.le_refl _) hchk.2 y.i _ hfy
  rcases hp x.i _ (by omega) hfx with hj | hj
  · exact .inl (hanc.1 _ _ han _ hj)
  · exact .inr (.inl (indep_of hj))

theorem wp_region_VO {P : Program} {ro : Option Nat} {id : Nat} {ops : Array Oper} {draw : Bool} {s : VS} {K : VS → Prop} (hm : P.follows .mixedOrders = true) (h : VO P ops draw ops.toList 0 s [] K)
    {E : Ent} {g : Gh} {a : Act} {w : World} {n : Nat} {Q : Exit → Act → World → Prop} (hna : E.na ≤ s.nx) (hi : Inv E g s a w) (hQ : ∀ s' g' a' w', K s' → s.nx ≤ s'.nx → Inv E g' s' a' w' → Q .normal a' w') :
    (Code.region id ops draw).wpIn (rF ro) n P Q a w := by
  obtain ⟨L, sn, h1, h2, h3, h4, h5, h6, h7⟩ := h.items
  simp only [Nat.zero_add] at h2 h5 h6
  have hlen : L.length = ops.size := by rw [← List.length_map (f := (·.o)), h1]; simp
  have hnx : ∀ {L : List Itm} {s sn : VS}, Ch ops L s sn → s.nx = sn.nx := by
    intro L s sn hc
    induction hc with
    | nil he => exact he.nx
    | cons _ _ _ _ ih => rw [← ih, VS.it_nx]
  have hops : ∀ (k : Nat) (x : Itm), L[k]? = some x → ops[k]? = some x.o := fun k x hk => by
    have : (L.map (·.o))[k]? = some x.o := by rw [List.getElem?_map, hk]; rfl
    rw [h1] at this; simpa using this
  have hQ' : ∀ g a w, Inv E g sn a w → Q .normal a w := fun g' a' w' hi' => by
    refine hQ (sn.close ops.toList.length) g' a' w' h6 ?_ (hi'.close (by simpa using h5))
    simp only [VS.close]; rw [hnx h4]; omega
  cases draw with
  | false =>
    refine wpIn_region ?_
    rw [List.range_eq_range', ← hlen]
    exact wp_text hQ' L 0 s g a w (fun k x hk => by rw [Nat.zero_add]; exact hops k x hk) h3 h4 hna hi
  | true =>
    have hchk := h7 rfl
    simp only [List.reverse_nil, List.nil_append] at hchk
    have hi' : Inv E g s a { w with drawn := w.drawn + 1 } := hi.world rfl rfl rfl rfl
    have hidx : ∀ x, x ∈ L → L[x.i]? = some x := fun x hx => by
      obtain ⟨k, hk⟩ := List.mem_iff_getElem?.1 hx
      have := h2 k x hk
      rw [this]; exact hk
    refine wpIn_region_any hm (wp_any hQ' (fun i o ho e he hb => ?_) (L0 := L) (fun x y hx hy hlt => ?_) h3 (fun x hx => hops x.i x (hidx x hx)) ops.size (Array.replicate ops.size false) L s g a _ (by simp) (by omega)
      (fun x hx => ⟨hx, ?_⟩) ?_ (fun i hi0 _ => ?_) (fun i o ho hl => ?_) h4 hna hi')
    · have := edgesOK_spec ops.toList 0 hchk.1 i o (by simpa using ho) e he hb
      omega
    · exact hchk.2 x y hx hy hlt
    · have : x.i < ops.size := by have := (List.getElem?_eq_some_iff.1 (hidx x hx)).1; omega
      simp [this]
    · rw [List.pairwise_iff_getElem]
      intro i j hi1 hj1 hij
      have e1 := h2 i L[i] (List.getElem?_eq_getElem hi1)
      have e2 := h2 j L[j] (List.getElem?_eq_getElem hj1)
      omega
    · have hiL : i < L.length := by omega
      exact ⟨L[i], List.getElem_mem hiL, h2 i L[i] (List.getElem?_eq_getElem hiL)⟩
    · have : i < ops.size := (Array.getElem?_eq_some_iff.1 ho).1
      simp [this] at hl

end Go.Bv

namespace Go.Bv

def idx : List Nat → Nat → Option Nat
  | [], _ => none
  | k :: r, id => bif k == id then some 0 else (idx r id).map (· + 1)
def nth : List Nat → Nat → Option Nat
  | [], _ => none
  | k :: _, 0 => some k
  | _ :: r, i + 1 => nth r i
theorem nth_eq (l : List Nat) (i : Nat) : nth l i = l[i]? := by
  induction l generalizing i with
  | nil => simp [nth]
  | cons k r ih => cases i with
    | zero => simp [nth]
    | succ i => simp [nth, ih]
theorem idx_some {ν : List Nat} {id i : Nat} (h : idx ν id = some i) : ν[i]? = some id := by
  induction ν generalizing i with
  | nil => cases h
  | cons k r ih =>
    simp only [idx] at h
    by_cases e : k = id
    · subst e; simp only [beq_self, cond_true, Option.some.injEq] at h; subst h; rfl
    · rw [beq_ne e, cond_false] at h
      cases hr : idx r id with
      | none => rw [hr] at h; cases h
      | some j => rw [hr] at h; simp only [Option.map_some, Option.some.injEq] at h; subst h; simpa using ih hr
theorem idx_nth {ν : List Nat} (hn : ν.Nodup) {id i : Nat} (h : ν[i]? = some id) : idx ν id = some i := by
  induction ν generalizing i with
  | nil => simp at h
  | cons k r ih =>
    obtain ⟨h1, h2⟩ := List.nodup_cons.1 hn
    cases i with
    | zero => simp only [List.getElem?_cons_zero, Option.some.injEq] at h; subst h; simp [idx]
    | succ i =>
      simp only [List.getElem?_cons_succ] at h
      have hm : id ∈ r := List.mem_of_getElem? h
      have e : ¬ k = id := fun e => h1 (e ▸ hm)
      simp only [idx, beq_ne e, cond_false, ih h2 h, Option.map_some]

def r1 (φ : Nat → Option Nat) (id : Nat) (k : Nat → V) : V := match φ id with | some j => k j | none => .junk
mutual
def mapV (φ : Nat → Option Nat) : V → V
  | .junk => .junk
  | .d x => .d x
  | .ptr id off => r1 φ id fun j => .ptr j off
  | .rptr id sz i off => r1 φ id fun j => .rptr j sz i off
  | .eptr e off => .eptr e off
  | .sref id n => r1 φ id fun j => .sref j n
  | .ssub id sz off len => r1 φ id fun j => .ssub j sz off len
  | .emp0 nil => .emp0 nil
  | .bsl id sz off len cap => r1 φ id fun j => .bsl j sz off len cap
  | .mapr id => r1 φ id fun j => .mapr j
  | .iter id => r1 φ id fun j => .iter j
  | .yld id => r1 φ id fun j => .yld j
  | .glo n off => .glo n off
  | .fn f a c => .fn f (mapL φ a) (mapL φ c)
  | .iface t v => .iface t (mapV φ v)
  | .agg cs => .agg (mapL φ cs)
  | .tup cs => .tup (mapL φ cs)
def mapL (φ : Nat → Option Nat) : List V → List V
  | [] => []
  | v :: r => mapV φ v :: mapL φ r
end
theorem mapL_eq (φ : Nat → Option Nat) (l : List V) : mapL φ l = l.map (mapV φ) := by
  induction l with
  | nil => simp [mapL]
  | cons v r ih => simp [mapL, ih]
def mapT (φ : Nat → Option Nat) : List (Nat × V) → List (Nat × V)
  | [] => []
  | (t, v) :: r => (t, mapV φ v) :: mapT φ r
theorem lk_mapT (φ : Nat → Option Nat) (l : List (Nat × V)) (t : Nat) : lk (mapT φ l) t = mapV φ (lk l t) := by
  induction l with
  | nil => simp [mapT, lk, mapV]
  | cons p r ih =>
    obtain ⟨k, v⟩ := p
    simp only [mapT, lk_cons, ih]
    split <;> rfl
def mapM (φ : Nat → Option Nat) : List (V × V) → List (V × V)
  | [] => []
  | (k, v) :: r => (mapV φ k, mapV φ v) :: mapM φ r
theorem mapM_eq (φ : Nat → Option Nat) (l : List (V × V)) : mapM φ l = l.map (fun p => (mapV φ p.1, mapV φ p.2)) := by
  induction l with
  | nil => rfl
  | cons p r ih => obtain ⟨k, v⟩ := p; simp [mapM, ih]
def mapB (φ : Nat → Option Nat) : Blk → Blk
  | .dead => .dead
  | .box fz cs => .box fz (mapL φ cs)
  | .row sz fz nil es => .row sz fz nil es
  | .map c0 es => .map c0 (mapM φ es)
  | .loop st pend tm N fn params assign body => .loop st pend (mapT φ tm) N fn params assign body
  | .siter s pos => .siter s pos
  | .brow l => .brow l
theorem mapB_holds (φ : Nat → Option Nat) (b : Blk) : (mapB φ b).holds = b.holds := by cases b <;> rfl

structure Ren (φ : Nat → Option Nat) (g g' : Gh) : Prop where
  M : ∀ b o c, g.M b o = some c → g'.M b o = some c
  β : ∀ id j k, φ id = some j → g.β id = some k → g'.β j = some k
  sv : ∀ id j v, φ id = some j → g.sv id = some v → g'.sv j = some v

theorem r1_rel {φ : Nat → Option Nat} {g' : Gh} {id : Nat} {k : Nat → V} {c : Value} (h : ∀ j, φ id = some j → RelV g' (k j) c) : RelV g' (r1 φ id k) c := by
  unfold r1
  split
  · rename_i j hj; exact h j hj
  · exact .junk _

theorem RelV.ren {φ : Nat → Option Nat} {g g' : Gh} (h : Ren φ g g') {v : V} {c : Value} (hv : RelV g v c) : RelV g' (mapV φ v) c := by
  induction hv with
  | junk v => exact .junk v
  | d hd => exact .d (hd.mono h.M)
  | ptr hk => exact r1_rel fun j hj => .ptr (h.β _ _ _ hj hk)
  | rptr hk => exact r1_rel fun j hj => .rptr (h.β _ _ _ hj hk)
  | eptr e off b o hs hr =>
    simp only [mapV]
    refine .eptr e off b o (fun j hj => ?_) (fun j x c hx hm => ?_)
    · obtain ⟨c, hc⟩ := Option.isSome_iff_exists.1 (hs j hj)
      rw [h.M _ _ _ hc]; rfl
    · have hj := (List.getElem?_eq_some_iff.1 hx).1
      obtain ⟨c', hc'⟩ := Option.isSome_iff_exists.1 (hs j hj)
      rw [h.M _ _ _ hc'] at hm
      injection hm with hm
      subst hm
      exact (hr j x c' hx hc').mono h.M
  | sref hs hc h0 => exact r1_rel fun j hj => .sref (h.sv _ _ _ hj hs) hc (fun hn => let ⟨k, h1, h2⟩ := h0 hn; ⟨k, h.β _ _ _ hj h1, h2⟩)
  | ssub hs hc h0 h1 h2 h3 => exact r1_rel fun j hj => .ssub (h.sv _ _ _ hj hs) hc (fun hn => let ⟨k, h1, h2⟩ := h0 hn; ⟨k, h.β _ _ _ hj h1, h2⟩) h1 h2 h3
  | emp0t => exact .emp0t
  | emp0f a => exact .emp0f a
  | bsl hk hc ha => exact r1_rel fun j hj => .bsl (h.β _ _ _ hj hk) hc ha
  | mapr hk => exact r1_rel fun j hj => .mapr (h.β _ _ _ hj hk)
  | iter hk => exact r1_rel fun j hj => .iter (h.β _ _ _ hj hk)
  | yld hk => exact r1_rel fun j hj => .yld (h.β _ _ _ hj hk)
  | glo n off => exact .glo n off
  | fn f first cap fs cs h1 h2 _ _ ihf ihc =>
    simp only [mapV, mapL_eq]
    refine .fn f _ _ fs cs (by simpa using h1) (by simpa using h2) (fun i v c hv hc => ?_) (fun i v c hv hc => ?_)
    · rw [List.getElem?_map] at hv
      obtain ⟨v0, hv0, rfl⟩ := Option.map_eq_some_iff.1 hv
      exact ihf i v0 c hv0 hc
    · rw [List.getElem?_map] at hv
      obtain ⟨v0, hv0, rfl⟩ := Option.map_eq_some_iff.1 hv
      exact ihc i v0 c hv0 hc
  | iface t _ ih => exact .iface t ih
  | agg vs cs h1 _ ih =>
    simp only [mapV, mapL_eq]
    refine .agg _ cs (by simpa using h1) (fun i v c hv hc => ?_)
    rw [List.getElem?_map] at hv
    obtain ⟨v0, hv0, rfl⟩ := Option.map_eq_some_iff.1 hv
    exact ih i v0 c hv0 hc
  | tup vs cs h1 _ ih =>
    simp only [mapV, mapL_eq]
    refine .tup _ cs (by simpa using h1) (fun i v c hv hc => ?_)
    rw [List.getElem?_map] at hv
    obtain ⟨v0, hv0, rfl⟩ := Option.map_eq_some_iff.1 hv
    exact ih i v0 c hv0 hc

theorem BlkRel.ren {φ : Nat → Option Nat} {g g' : Gh} (h : Ren φ g g') {w w' : World} {id j : Nat} {b : Blk} (hj : φ id = some j) (hb : BlkRel g w id b)
    (hk : ∀ k x, b.holds = true → g.β id = some k → w.heap[k]? = some x → w'.heap[k]? = some x)
    (hM : ∀ k, b.holds = true → g.β id = some k → ∀ o c, g'.M k o = some c → g.M k o = some c) (hβn : g.β id = none → g'.β j = none) : BlkRel g' w' j (mapB φ b) := by
  cases b with
  | dead => trivial
  | box fz cs =>
    obtain ⟨k, arr, t, h1, h2, h3, h4, h5⟩ := hb
    refine ⟨k, arr, t, h.β _ _ _ hj h1, hk _ _ rfl h1 h2, by rw [mapL_eq]; simpa using h3, fun i v c hv hc => ?_, fun hf o => ?_, fun hf o ho => ?_⟩
    · rw [mapL_eq, List.getElem?_map] at hv
      obtain ⟨v0, hv0, rfl⟩ := Option.map_eq_some_iff.1 hv
      exact ⟨(h4 i v0 c hv0 hc).1.ren h, (h4 i v0 c hv0 hc).2⟩
    · cases hm : g'.M k o with
      | none => rfl
      | some c => have := hM k rfl h1 o c hm; rw [h5.1 hf o] at this; cases this
    · rw [mapL_eq, List.length_map] at ho
      obtain ⟨c, hc⟩ := Option.isSome_iff_exists.1 (h5.2 hf o ho)
      rw [h.M _ _ _ hc]; rfl
  | row sz fz nil es =>
    refine ⟨fun hn => ⟨(hb.1 hn).1, h.sv _ _ _ hj (hb.1 hn).2.1, hβn (hb.1 hn).2.2⟩, fun hn => ?_⟩
    rcases hb.2 hn with ⟨h1, h2, h3, a, h4⟩ | ⟨k, arr, t, cap, h1, h2, h3, h4, h5, h6, h7, h8, h9⟩
    · exact .inl ⟨h1, h2, hβn h3, a, h.sv _ _ _ hj h4⟩
    refine .inr ⟨k, arr, t, cap, h.β _ _ _ hj h1, h.sv _ _ _ hj h2, hk _ _ (by simp [Blk.holds, hn]) h1 h3, h4, h5, fun hf o ho => (by obtain ⟨c, hc⟩ := Option.isSome_iff_exists.1 (h6 hf o ho); rw [h.M _ _ _ hc]; rfl), h7, fun i j e x c a b d => (h8 i j e x c a b d).mono h.M, fun o ho => ?_⟩
    obtain ⟨c, hc⟩ := Option.isSome_iff_exists.1 ho
    exact h9 o (by rw [hM k (by simp [Blk.holds, hn]) h1 o c hc]; rfl)
  | map c0 es =>
    obtain ⟨k, ents, h1, h2, h3, h4⟩ := hb
    refine ⟨k, ents, h.β _ _ _ hj h1, by rw [mapM_eq, List.length_map]; exact hk _ _ rfl h1 h2, by rw [mapM_eq]; simpa using h3, fun i kv e hv he => ?_⟩
    rw [mapM_eq, List.getElem?_map] at hv
    obtain ⟨v0, hv0, rfl⟩ := Option.map_eq_some_iff.1 hv
    exact ⟨(h4 i v0 e hv0 he).1.ren h, (h4 i v0 e hv0 he).2.1.ren h, (h4 i v0 e hv0 he).2.2⟩
  | loop st pend tm N fn params assign body =>
    obtain ⟨k, arr, db, fn', h1, h2, h3, h4⟩ := hb
    exact ⟨k, arr, db, fn', h.β _ _ _ hj h1, hk _ _ rfl h1 h2, h3, fun t => by rw [lk_mapT]; exact (h4 t).ren h⟩
  | siter s pos =>
    obtain ⟨k, h1, h2⟩ := hb
    exact ⟨k, h.β _ _ _ hj h1, hk _ _ rfl h1 h2⟩
  | brow l =>
    obtain ⟨k, arr, t, cap, h1, h2, h3, h4, h5, h6⟩ := hb
    refine ⟨k, arr, t, cap, h.β _ _ _ hj h1, h.sv _ _ _ hj h2, hk _ _ rfl h1 h3, h4, h5, fun o => ?_⟩
    cases hm : g'.M k o with
    | none => rfl
    | some c => have := hM k rfl h1 o c hm; rw [h6 o] at this; cases this

def enumB : Nat → List Blk → List (Nat × Blk)
  | _, [] => []
  | i, b :: r => (i, b) :: enumB (i + 1) r
def enumV : Nat → List V → List (Nat × V)
  | _, [] => []
  | i, b :: r => (i, b) :: enumV (i + 1) r
theorem hget_enum (l : List Blk) : ∀ (i0 i : Nat), hget (enumB i0 l) i = if i0 ≤ i then l[i - i0]? else none := by
  induction l with
  | nil => intro i0 i; simp [enumB, hget]
  | cons b r ih =>
    intro i0 i
    simp only [enumB, hget_cons, ih]
    by_cases h : i0 = i
    · subst h; simp
    · by_cases h2 : i0 ≤ i
      · have h3 : i0 + 1 ≤ i := by omega
        rw [if_neg h, if_pos h3, if_pos h2]
        have : i - i0 = (i - (i0 + 1)) + 1 := by omega
        rw [this]; simp
      · have h3 : ¬ i0 + 1 ≤ i := by omega
        rw [if_neg h, if_neg h3, if_neg h2]
theorem hget_enum0 (l : List Blk) (i : Nat) : hget (enumB 0 l) i = l[i]? := by rw [hget_enum]; simp
theorem lk_enum (l : List V) : ∀ (i0 i : Nat), lk (enumV i0 l) i = if i0 ≤ i then l.getD (i - i0) .junk else .junk := by
  induction l with
  | nil => intro i0 i; simp [enumV, lk]
  | cons b r ih =>
    intro i0 i
    simp only [enumV, lk_cons, ih]
    by_cases h : i0 = i
    · subst h; simp
    · by_cases h2 : i0 ≤ i
      · have h3 : i0 + 1 ≤ i := by omega
        rw [if_neg h, if_pos h3, if_pos h2]
        have : i - i0 = (i - (i0 + 1)) + 1 := by omega
        rw [this]; simp
      · have h3 : ¬ i0 + 1 ≤ i := by omega
        rw [if_neg h, if_neg h3, if_neg h2]

end Go.Bv

namespace Go.Bv

def RoOK (E : Ent) : Option Nat → Option Nat → Prop
  | none, ro => ro = none
  | some id, ro => ∃ k, ro = some k ∧ id < E.na ∧ E.g0.β id = some k

def VW (P : Program) (rv : Option Nat) (c : Code) (s : VS) (Q : Exit → VS → Prop) : Prop :=
  ∀ (E : Ent) (g : Gh) (a : Act) (w : World) (n : Nat) (ro : Option Nat), RoOK E rv ro → E.na ≤ s.nx → Inv E g s a w →
    c.wpIn (rF ro) n P (fun e a' w' => ∃ g' s', Q e s' ∧ E.na ≤ s'.nx ∧ Inv E g' s' a' w') a w

def Wk (s s' : VS) : Prop := ∀ (E : Ent) (g : Gh) (a : Act) (w : World), E.na ≤ s.nx → Inv E g s a w → ∃ g', E.na ≤ s'.nx ∧ Inv E g' s' a w
theorem Wk.refl (s : VS) : Wk s s := fun _ g _ _ h1 h2 => ⟨g, h1, h2⟩
theorem Wk.trans {a b c : VS} (h : Wk a b) (k : Wk b c) : Wk a c := fun E g x w h1 h2 => by
  obtain ⟨g', h3, h4⟩ := h E g x w h1 h2
  exact k E g' x w h3 h4

section
variable {P : Program} {rv : Option Nat} {s : VS} {Q Q' : Exit → VS → Prop}

theorem VW.mono {c : Code} (h : VW P rv c s Q) (hq : ∀ e s', Q e s' → Q' e s') : VW P rv c s Q' :=
  fun E g a w n ro hro h1 h2 => wpIn_mono (h E g a w n ro hro h1 h2) fun e a' w' ⟨g', s', q, h3, h4⟩ => ⟨g', s', hq _ _ q, h3, h4⟩
theorem VW.wk {c : Code} {s' : VS} (hs : Wk s s') (h : VW P rv c s' Q) : VW P rv c s Q :=
  fun E g a w n ro hro h1 h2 => let ⟨g', h3, h4⟩ := hs E g a w h1 h2; h E g' a w n ro hro h3 h4
theorem VW.comp {c : Code} {e : Exit} {s1 : VS} (h : VW P rv c s (fun e' s'' => e' = e ∧ s'' = s1)) : VW P rv c s (fun e' s'' => e' = e ∧ s'' = s1.comp) :=
  fun E g a w n ro hro h1 h2 => wpIn_mono (h E g a w n ro hro h1 h2) fun e' a' w' ⟨g', s', ⟨q1, q2⟩, h3, h4⟩ => by subst q2; exact ⟨g', s'.comp, ⟨q1, rfl⟩, h3, h4.same (Same.comp s')⟩
theorem VW.skip (h : Q .normal s) : VW P rv .skip s Q := fun E g a w n ro hro h1 h2 => wpIn_skip ⟨g, s, h, h1, h2⟩
theorem VW.label {l : Nat} (h : Q .normal s) : VW P rv (.label l) s Q := fun E g a w n ro hro h1 h2 => wpIn_label ⟨g, s, h, h1, h2⟩
theorem VW.exit {id : Nat} (h : Q (.exit id) s) : VW P rv (.exit id) s Q := fun E g a w n ro hro h1 h2 => wpIn_exit ⟨g, s, h, h1, h2⟩
theorem VW.goto {id : Nat} (h : Q (.goto id) s) : VW P rv (.goto id) s Q := fun E g a w n ro hro h1 h2 => wpIn_goto ⟨g, s, h, h1, h2⟩
theorem VW.ret (h : Q .ret s) : VW P rv .ret s Q := fun E g a w n ro hro h1 h2 => wpIn_ret ⟨g, s, h, h1, h2⟩

def thenK (K : VS → Prop) (Q : Exit → VS → Prop) : Exit → VS → Prop
  | .normal, s => K s
  | e, s => Q e s
def inBlk (id : Nat) (Q : Exit → VS → Prop) : Exit → VS → Prop
  | .exit id', s => if id' = id then Q .normal s else Q (.exit id') s
  | e, s => Q e s
theorem VW.seq {x y : Code} (h : VW P rv x s (thenK (fun s' => VW P rv y s' Q) Q)) : VW P rv (.seq x y) s Q := fun E g a w n ro hro h1 h2 => by
  refine wpIn_seq (wpIn_mono (h E g a w n ro hro h1 h2) fun e a' w' ⟨g', s', q, h3, h4⟩ => ?_)
  cases e with
  | normal => exact q E g' a' w' n ro hro h3 h4
  | exit id => exact ⟨g', s', q, h3, h4⟩
  | goto l => exact ⟨g', s', q, h3, h4⟩
  | ret => exact ⟨g', s', q, h3, h4⟩
  | panic c => exact ⟨g', s', q, h3, h4⟩
  | outgrown => exact ⟨g', s', q, h3, h4⟩
theorem VW.seq_k {x y : Code} (h : ∀ K : VS → Prop, (∀ s', VW P rv y s' Q → K s') → VW P rv x s (thenK K Q)) : VW P rv (.seq x y) s Q := VW.seq (h _ fun _ h => h)
theorem VW.block {id : Nat} {c : Code} (h : VW P rv c s (inBlk id Q)) : VW P rv (.block id c) s Q := fun E g a w n ro hro h1 h2 => by
  refine wpIn_block (wpIn_mono (h E g a w n ro hro h1 h2) fun e a' w' ⟨g', s', q, h3, h4⟩ => ?_)
  cases e with
  | exit id' =>
    simp only [Exit.inBlock]
    simp only [inBlk] at q
    split at q
    · rename_i e; rw [if_pos e]; exact ⟨g', s', q, h3, h4⟩
    · rename_i e; rw [if_neg e]; exact ⟨g', s', q, h3, h4⟩
  | normal => exact ⟨g', s', q, h3, h4⟩
  | goto l => exact ⟨g', s', q, h3, h4⟩
  | ret => exact ⟨g', s', q, h3, h4⟩
  | panic c => exact ⟨g', s', q, h3, h4⟩
  | outgrown => exact ⟨g', s', q, h3, h4⟩

theorem rel_bool {g : Gh} {b : Bool} {c : Value} (h : RelV g (.d (.bool b)) c) : c = .bool b := by cases h with | d h => cases h; rfl
theorem rel_int {g : Gh} {k : IntKind} {n : Int} {c : Value} (h : RelV g (.d (.int k n)) c) : c = .int k n := by cases h with | d h => cases h; rfl
theorem rel_str {g : Gh} {l : List UInt8} {c : Value} (h : RelV g (.d (.str l)) c) : c = .string ⟨l.toArray⟩ := by cases h with | d h => cases h; rfl

theorem VW.cond {c : Operand} {x y : Code} {b : Bool} (hc : evalV s.tm c = .d (.bool b)) (ht : b = true → VW P rv x s Q) (hf : b = false → VW P rv y s Q) : VW P rv (.cond c x y) s Q := fun E g a w n ro hro h1 h2 => by
  have hv := h2.toRelS.eval c
  rw [hc] at hv
  exact wpIn_cond_split (rel_bool hv) (fun h => ht h E g a w n ro hro h1 h2) (fun h => hf h E g a w n ro hro h1 h2)

theorem VW.region {id : Nat} {ops : Array Oper} {draw : Bool} {K : VS → Prop} (hm : P.follows .mixedOrders = true) (h : VO P ops draw ops.toList 0 s [] K) (hq : ∀ s', K s' → Q .normal s') : VW P rv (.region id ops draw) s Q :=
  fun E g a w n ro hro h1 h2 => wp_region_VO hm h h1 h2 fun s' g' a' w' hk hnx hi => ⟨g', s', hq _ hk, by omega, hi⟩

theorem VW.loop {c : Code} {ι : Type} (S : ι → VS) (μ : ι → Nat) (i0 : ι) (h0 : Wk s (S i0)) (round : ∀ i, VW P rv c (S i) (thenK (fun s' => ∃ j, Wk s' (S j) ∧ μ j < μ i) Q)) : VW P rv (.loop c) s Q := by
  intro E g a w n ro hro h1 h2
  obtain ⟨g1, h3, h4⟩ := h0 E g a w h1 h2
  intro b k cs hb hfn hroom
  have key : ∀ m i g a w, μ i = m → E.na ≤ (S i).nx → Inv E g (S i) a w →
      ∃ e a' w', (∃ g' s', Q e s' ∧ E.na ≤ s'.nx ∧ Inv E g' s' a' w') ∧ ArrivesIn (Machine.fenced P (rF ro)) P (lone (b.atR a (.code c :: .inLoop c :: k)) cs w) b k cs e a' w' := by
    intro m
    induction m using Nat.strongRecOn with
    | _ m ih =>
      intro i g a w hm hna hi
      obtain ⟨e, a1, w1, ⟨g', s', q, h5, h6⟩, harr⟩ := round i E g a w n ro hro hna hi b (.inLoop c :: k) cs hb hfn hroom
      cases e with
      | normal =>
        obtain ⟨j, hwk, hlt⟩ := q
        obtain ⟨g2, h7, h8⟩ := hwk E g' a1 w1 h5 h6
        obtain ⟨e2, a2, w2, hq2, harr2⟩ := ih (μ j) (hm ▸ hlt) j g2 a1 w1 rfl h7 h8
        exact ⟨e2, a2, w2, hq2, .of_steps (StepsIn.trans harr (.one (fenced_calm hfn hroom rfl) stepR_inLoop)) harr2⟩
      | exit id => exact ⟨_, a1, w1, ⟨g', s', q, h5, h6⟩, .pass (x := .inLoop c) rfl (fun _ _ => .inl (by simp)) harr⟩
      | goto l => exact ⟨_, a1, w1, ⟨g', s', q, h5, h6⟩, .pass (x := .inLoop c) rfl (fun _ _ => .inl (by simp)) harr⟩
      | ret => exact ⟨_, a1, w1, ⟨g', s', q, h5, h6⟩, .pass (x := .inLoop c) rfl (fun _ _ => .inl (by simp)) harr⟩
      | panic ch => exact ⟨_, a1, w1, ⟨g', s', q, h5, h6⟩, .pass (x := .inLoop c) rfl (fun _ _ => .inl (by simp)) harr⟩
      | outgrown => exact ⟨_, a1, w1, ⟨g', s', q, h5, h6⟩, .pass (x := .inLoop c) rfl (fun _ _ => .inl (by simp)) harr⟩
  obtain ⟨e, a', w', hq, harr⟩ := key _ i0 g1 a w rfl h3 h4
  exact ⟨e, a', w', hq, .of_steps (.one (fenced_calm hfn hroom rfl) stepR_loop) harr⟩
end

def entOf (g : Gh) (H : List Blk) (w : World) : Ent := { g0 := g, O := Owned g (enumB 0 H), w0 := w, na := H.length }
def AllRel (g : Gh) (vs : List V) (cs : Array Value) : Prop := cs.size = vs.length ∧ ∀ (i : Nat) (v : V) (c : Value), vs[i]? = some v → cs[i]? = some c → RelV g v c
def Dom (g : Gh) (n : Nat) : Prop := ∀ id, (g.β id).isSome = true ∨ (g.sv id).isSome = true → id < n

def Ends (g : Gh) (H : List Blk) (w : World) (r : V) (H' : List Blk) (c : Value) (w' : World) : Prop :=
  ∃ g', RelV g' r c ∧ RelH g' (enumB 0 H') w' ∧ Fr (entOf g H w) g' (enumB 0 H') w' ∧ Dom g' H'.length

def VSpec (P : Program) (f : FuncId) (args : List V) (H : List Blk) (r : V) (H' : List Blk) : Prop :=
  H.length ≤ H'.length ∧ ∀ (g : Gh) (w : World) (cargs : Array Value), RelH g (enumB 0 H) w → Dom g H.length → AllRel g args cargs →
    Calls P f cargs w (fun e w' => ∃ c, e = .returned c ∧ Ends g H w r H' c w')

theorem leaves_marks {P : Program} {fn : Func} {n : Nat} {E : Ent} {g : Gh} {s : VS} {tmps : Array Value} {R : Ending → World → Prop}
    (hR : ∀ w', Inv E g s { tmps := tmps, defers := [] } w' → ∃ v, (results fn tmps).run P w' = .ok v w' ∧ R (.returned v) w') :
    ∀ (ms : List Nat) (w : World), Inv E g s { tmps := tmps, defers := [] } w → ms.Nodup → (∀ r, r ∈ ms → w.heap[r]? = some (.deferred (some [])) ∧ E.w0.heap.size ≤ r) →
      LeavesInM Fence.wide n P fn tmps R (ms.map fun r => { target := .collected r, args := #[] }) .returning w := by
  intro ms
  induction ms with
  | nil => intro w hi _ _; exact hR w hi
  | cons r ms ih =>
    intro w hi hnd hms
    obtain ⟨hr, hsz⟩ := hms r List.mem_cons_self
    obtain ⟨hnot, hnd'⟩ := List.nodup_cons.1 hnd
    have hrs := (Array.getElem?_eq_some_iff.1 hr).1
    have hput : ∀ j, j ≠ r → (w.putObj r (.deferred none)).heap[j]? = w.heap[j]? := fun j hj => by
      simp only [World.putObj]; rw [Array.getElem?_setIfInBounds_ne (Ne.symm hj)]
    have hsize : (w.putObj r (.deferred none)).heap.size = w.heap.size := by simp [World.putObj]
    refine ⟨by simp, .inl ⟨r, w.putObj r (.deferred none), rfl, run_takeDeferred hr, ih _ ?_ hnd' (fun q hq => ?_)⟩⟩
    · have hno : ∀ id b k, hget s.hp id = some b → b.holds = true → g.β id = some k → k ≠ r := fun id b k hb hh hk e => by
        subst e
        obtain ⟨x, h2, h3⟩ := (hi.blk id b hb).obj hh hk
        rw [hr] at h2; cases h2
        exact h3 _ rfl
      exact {
        wg := fun n e he => by
          obtain ⟨arr, t, f, h1, h2⟩ := hi.wg n e he
          exact ⟨arr, t, f, by rw [hput n (fun e => by subst e; rw [hr] at h1; cases h1)]; exact h1, h2⟩
        mem := fun b o c hm => by
          have hc := hi.mem b o c hm
          have hbr : b ≠ r := fun e => by subst e; simp [World.cell?, hr] at hc
          rw [cell_heap (w := w) (hput b hbr)]; exact hc
        blk := fun id b hb => (hi.blk id b hb).step (Gh.le_refl g) (fun k x hh hk e => by rw [hput k (hno id b k hb hh hk)]; exact e) (fun _ _ _ _ _ e => e) (fun e => e)
        inj := hi.inj
        tm := hi.tm
        size := hi.size
        dom := hi.dom
        fr := { hi.fr with size := by rw [hsize]; exact hi.fr.size, kept := fun k hk hn => by rw [hput k (by omega)]; exact hi.fr.kept k hk hn }
        marks := ⟨[], rfl, List.nodup_nil, fun r hr => by cases hr⟩ }
    · rw [hput q (fun e => hnot (e ▸ hq))]; exact hms q (List.mem_cons_of_mem _ hq)

def Ret (P : Program) (fn : Func) (na : Nat) (s : VS) (r : V) (H' : List Blk) : Prop :=
  ∀ (E : Ent) (g : Gh) (a : Act) (w : World), E.na = na → na ≤ s.nx → Inv E g s a w →
    ∃ c g', (results fn a.tmps).run P w = .ok c w ∧ RelV g' r c ∧ RelH g' (enumB 0 H') w ∧ Fr E g' (enumB 0 H') w ∧ Dom g' H'.length

theorem VSpec.of_body {P : Program} {f : FuncId} {fn : Func} {c : Code} {args : List V} {H : List Blk} {r : V} {H' : List Blk} (hf : P.funcs[f]? = some fn) (hb : fn.body = some c)
    (hn : args.length ≤ fn.ntmps) (hH : H.length ≤ H'.length)
    (h : VW P none c { tm := enumV 0 args, hp := enumB 0 H, nx := H.length, us := [], N := fn.ntmps } (fun e s' => (e = .ret ∨ e = .normal) ∧ Ret P fn H.length s' r H')) :
    VSpec P f args H r H' := by
  refine ⟨hH, fun g w cargs hrel hdom hargs => ?_⟩
  refine (callsIn_wide (n := 0)).1 ?_
  refine callsIn_of_wp_marks hf hb trivial ?_ rfl
  have hinv : Inv (entOf g H w) g { tm := enumV 0 args, hp := enumB 0 H, nx := H.length, us := [], N := fn.ntmps } { tmps := cargs ++ Array.replicate (fn.ntmps - cargs.size) undef, defers := [] } w := {
    wg := hrel.wg
    mem := hrel.mem
    blk := hrel.blk
    inj := hrel.inj
    tm := fun t => by
      rw [lk_enum]
      simp only [Nat.zero_le, if_true, Nat.sub_zero]
      rw [List.getD_eq_getElem?_getD]
      cases hv : args[t]? with
      | none => exact .junk _
      | some v =>
        have ht := (List.getElem?_eq_some_iff.1 hv).1
        have htc : t < cargs.size := by rw [hargs.1]; exact ht
        have : (cargs ++ Array.replicate (fn.ntmps - cargs.size) undef).getD t undef = cargs[t] := by
          rw [Array.getD_eq_getD_getElem?, Array.getElem?_append_left htc, Array.getElem?_eq_getElem htc]; rfl
        rw [this]
        exact hargs.2 t v cargs[t] hv (Array.getElem?_eq_getElem htc)
    size := by have := hargs.1; simp; omega
    dom := fun id hid => .inl (hdom id hid)
    fr := { leM := fun _ _ _ h => h, leB := fun _ _ => rfl, leS := fun _ _ => rfl, size := Nat.le_refl _, os := rfl, output := rfl, tape := rfl, kept := fun _ _ _ => rfl, own := fun k hk => .inl hk, mnew := fun _ _ _ h => .inl h }
    marks := ⟨[], rfl, List.nodup_nil, fun r hr => by cases hr⟩ }
  refine wpIn_mono (h (entOf g H w) g _ w 0 none rfl (Nat.le_refl _) hinv) ?_
  rintro e a' w' ⟨g', s', ⟨he, hret⟩, hna, hi⟩
  obtain ⟨ms, hms, hnd, hall⟩ := hi.marks
  have hi0 : Inv (entOf g H w) g' s' { tmps := a'.tmps, defers := [] } w' := { hi with marks := ⟨[], rfl, List.nodup_nil, fun r hr => by cases hr⟩ }
  have hL : LeavesInM Fence.wide 0 P fn a'.tmps (fun e w' => ∃ c, e = .returned c ∧ Ends g H w r H' c w') a'.defers .returning w' := by
    rw [hms]
    refine leaves_marks (fun w2 hi2 => ?_) ms w' hi0 hnd hall
    obtain ⟨c, g2, h1, h2, h3, h4, h5⟩ := hret (entOf g H w) g' { tmps := a'.tmps, defers := [] } w2 rfl hna hi2
    exact ⟨c, h1, c, rfl, g2, h2, h3, h4, h5⟩
  rcases he with rfl | rfl
  · exact hL
  · exact hL

end Go.Bv

namespace Go.Bv
variable {P : Program} {w : World}

def aggOf (P : Program) (t : TypeId) : Option Bool := (P.underlying t).map fun d => match d with | .struct _ => true | .array _ _ => true | _ => false
def szOf (P : Program) (t : TypeId) : Nat := P.cellsOf t
def bytesOf' (P : Program) (t : TypeId) : Nat := P.bytesOf t
def zeroOf (P : Program) (t : TypeId) : Option Value := (P.info? t).bind (·.zero)
def fieldOf (P : Program) (s : TypeId) (f : Nat) : Option (Nat × TypeId) := match P.underlying s with | some (.struct fs) => (fs[f]?).map fun x => (x.offset, x.type) | _ => none
def elemOf' (P : Program) (t : TypeId) : Option TypeId := match P.underlying t with | some (.slice e) => some e | _ => none
def arrOf (P : Program) (t : TypeId) : Option (Nat × TypeId) := match P.underlying t with | some (.array n e) => some (n, e) | _ => none
def mapOf (P : Program) (t : TypeId) : Option (TypeId × TypeId) := match P.underlying t with | some (.map k e) => some (k, e) | _ => none
def intOf' (P : Program) (t : TypeId) : Option IntKind := match P.underlying t with | some (.int k) => some k | _ => none
def isStr (P : Program) (t : TypeId) : Bool := match P.underlying t with | some .string => true | _ => false
def isIfc (P : Program) (t : TypeId) : Option Bool := (P.underlying t).map fun d => match d with | .interface _ => true | _ => false

theorem info_of_sz {t n : Nat} (h : szOf P t = n) (hn : n ≠ 0) : ∃ i, P.info? t = some i ∧ i.size = n := by
  unfold szOf Program.cellsOf at h
  cases hi : P.info? t with
  | none => rw [hi] at h; simp at h; omega
  | some i => rw [hi] at h; simp at h; exact ⟨i, rfl, h⟩
theorem run_typeInfo' {t : Nat} {i : TypeInfo} (h : P.info? t = some i) : (typeInfo t).run P w = .ok i w := by simp [typeInfo, h]
theorem run_sizeOf' {t n : Nat} (h : szOf P t = n) (hn : n ≠ 0) : (sizeOf t).run P w = .ok n w := by
  obtain ⟨i, hi, hs⟩ := info_of_sz h hn
  simp [sizeOf, run_typeInfo' hi, hs]
theorem run_isAgg' {t : Nat} {b : Bool} (h : aggOf P t = some b) : (isAgg t).run P w = .ok b w := by
  unfold aggOf at h
  obtain ⟨d, hd, he⟩ := Option.map_eq_some_iff.1 h
  subst he
  unfold isAgg
  rw [Sem.run_bind, run_underlying hd]
  cases d <;> rfl
theorem run_zero' {t : Nat} {v : Value} (h : zeroOf P t = some v) : (zeroValue t).run P w = .ok v w := by
  unfold zeroOf at h
  obtain ⟨i, hi, hz⟩ := Option.bind_eq_some_iff.1 h
  simp [zeroValue, run_typeInfo' hi, hz]
theorem under_struct {s f : Nat} {off ft : Nat} (h : fieldOf P s f = some (off, ft)) : ∃ fs x, P.underlying s = some (.struct fs) ∧ fs[f]? = some x ∧ x.offset = off ∧ x.type = ft := by
  unfold fieldOf at h
  split at h
  · rename_i fs hfs
    obtain ⟨x, hx, he⟩ := Option.map_eq_some_iff.1 h
    cases he
    exact ⟨fs, x, hfs, hx, rfl, rfl⟩
  · cases h
theorem under_slice {t e : Nat} (h : elemOf' P t = some e) : P.underlying t = some (.slice e) := by
  unfold elemOf' at h
  split at h
  · rename_i e' he; cases h; exact he
  · cases h
theorem under_map {t k e : Nat} (h : mapOf P t = some (k, e)) : P.underlying t = some (.map k e) := by
  unfold mapOf at h
  split at h
  · rename_i k' e' he; cases h; exact he
  · cases h
theorem under_int {t : Nat} {k : IntKind} (h : intOf' P t = some k) : P.underlying t = some (.int k) := by
  unfold intOf' at h
  split at h
  · rename_i k' he; cases h; exact he
  · cases h
theorem under_str {t : Nat} (h : isStr P t = true) : P.underlying t = some .string := by
  unfold isStr at h
  split at h
  · rename_i he; exact he
  · cases h
theorem under_ifc {t : Nat} (h : isIfc P t = some false) : ∃ d, P.underlying t = some d ∧ ∀ ms, d ≠ .interface ms := by
  unfold isIfc at h
  obtain ⟨d, hd, he⟩ := Option.map_eq_some_iff.1 h
  refine ⟨d, hd, fun ms e => ?_⟩
  subst e; cases he

theorem run_load_cell {a : Addr} {c : Value} (h : w.cell? a = some c) : (load a).run P w = .ok c w := by simp [h]
theorem run_loadCellsFrom {b o : Nat} (f : Nat → Value) : ∀ (n i : Nat) (acc : Array Value), (∀ j, j < n → w.cell? ⟨b, o + (i + j), none⟩ = some (f (i + j))) →
    (loadCellsFrom ⟨b, o, none⟩ i n acc).run P w = .ok (acc ++ ((List.range n).map fun j => f (i + j)).toArray) w := by
  intro n
  induction n with
  | zero => intro i acc _; simp [loadCellsFrom]
  | succ n ih =>
    intro i acc h
    have h0 := h 0 (by omega)
    simp only [Nat.add_zero] at h0
    unfold loadCellsFrom
    rw [Sem.run_bind, Addr.add_lit, run_load_cell h0]
    simp only [Result.andThen_ok]
    rw [ih (i + 1) (acc.push (f i)) (fun j hj => by have := h (j + 1) (by omega); rw [show i + 1 + j = i + (j + 1) from by omega]; exact this)]
    congr 1
    rw [List.range_succ_eq_map]
    simp only [List.map_cons, List.map_map, Nat.add_zero]
    apply Array.ext'
    simp only [Array.toList_append, Array.toList_push, List.append_assoc, List.singleton_append]
    congr 2
    apply List.map_congr_left
    intro j _
    simp only [Function.comp]
    congr 1; omega
theorem run_loadCells {b o n : Nat} (f : Nat → Value) (h : ∀ j, j < n → w.cell? ⟨b, o + j, none⟩ = some (f j)) :
    (loadCells ⟨b, o, none⟩ n).run P w = .ok ((List.range n).map f).toArray w := by
  unfold loadCells
  rw [run_loadCellsFrom f n 0 #[] (fun j hj => by simpa using h j hj)]
  simp
theorem run_loadVar1 {t : Nat} {a : Addr} {c : Value} (ht : aggOf P t = some false) (h : w.cell? a = some c) : (loadVar t a).run P w = .ok c w := by
  unfold loadVar
  rw [Sem.run_bind, run_isAgg' ht]
  simp [h]
theorem run_loadVarN {t b o n : Nat} (f : Nat → Value) (ht : aggOf P t = some true) (hs : szOf P t = n) (hn : n ≠ 0) (h : ∀ j, j < n → w.cell? ⟨b, o + j, none⟩ = some (f j)) :
    (loadVar t ⟨b, o, none⟩).run P w = .ok (.agg ((List.range n).map f).toArray) w := by
  unfold loadVar
  rw [Sem.run_bind, run_isAgg' ht]
  simp only [Result.andThen_ok, if_true]
  rw [Sem.run_bind, run_sizeOf' hs hn]
  simp only [Result.andThen_ok]
  rw [Sem.run_bind, run_loadCells f h]
  simp

end Go.Bv

namespace Go.Bv

structure Qr where
  v : V
  rd : List Nat := []
  ob : Prop := True

def takeV : List V → Nat → Nat → List V
  | _, _, 0 => []
  | [], _, _ => []
  | v :: r, 0, n + 1 => v :: takeV r 0 n
  | _ :: r, o + 1, n + 1 => takeV r o (n + 1)
def takeD : List D → Nat → Nat → List V
  | _, _, 0 => []
  | [], _, _ => []
  | v :: r, 0, n + 1 => .d v :: takeD r 0 n
  | _ :: r, o + 1, n + 1 => takeD r o (n + 1)
def getV : List V → Nat → Option V
  | [], _ => none
  | v :: _, 0 => some v
  | _ :: r, i + 1 => getV r i
def getD' : List D → Nat → Option D
  | [], _ => none
  | v :: _, 0 => some v
  | _ :: r, i + 1 => getD' r i
theorem getV_eq (l : List V) (i : Nat) : getV l i = l[i]? := by
  induction l generalizing i with
  | nil => simp [getV]
  | cons v r ih => cases i with
    | zero => simp [getV]
    | succ i => simp [getV, ih]
theorem getD'_eq (l : List D) (i : Nat) : getD' l i = l[i]? := by
  induction l generalizing i with
  | nil => simp [getD']
  | cons v r ih => cases i with
    | zero => simp [getD']
    | succ i => simp [getD', ih]
theorem takeV_get : ∀ (l : List V) (o n i : Nat), (takeV l o n)[i]? = if i < n then l[o + i]? else none := by
  intro l
  induction l with
  | nil => intro o n i; cases n <;> simp [takeV]
  | cons v r ih =>
    intro o n i
    cases n with
    | zero => simp [takeV]
    | succ n =>
      cases o with
      | zero =>
        cases i with
        | zero => simp [takeV]
        | succ i => simp only [takeV, List.getElem?_cons_succ, ih, Nat.zero_add, Nat.add_lt_add_iff_right]
      | succ o =>
        simp only [takeV, ih]
        rw [show o + 1 + i = (o + i) + 1 from by omega]; simp
theorem takeD_get : ∀ (l : List D) (o n i : Nat), (takeD l o n)[i]? = if i < n then (l[o + i]?).map V.d else none := by
  intro l
  induction l with
  | nil => intro o n i; cases n <;> simp [takeD]
  | cons v r ih =>
    intro o n i
    cases n with
    | zero => simp [takeD]
    | succ n =>
      cases o with
      | zero =>
        cases i with
        | zero => simp [takeD]
        | succ i => simp only [takeD, List.getElem?_cons_succ, ih, Nat.zero_add, Nat.add_lt_add_iff_right]
      | succ o =>
        simp only [takeD, ih]
        rw [show o + 1 + i = (o + i) + 1 from by omega]; simp
theorem length_of_get {α : Type} {l : List α} {n : Nat} (h : ∀ i, (l[i]?).isSome = decide (i < n)) : l.length = n := by
  rcases Nat.lt_trichotomy l.length n with h1 | h1 | h1
  · have := h l.length
    simp [h1] at this
  · exact h1
  · have := h n
    simp [h1] at this
theorem takeV_len (l : List V) (o n : Nat) (h : o + n ≤ l.length) : (takeV l o n).length = n :=
  length_of_get fun i => by
    rw [takeV_get]
    by_cases hi : i < n
    · simp [hi]; omega
    · simp [hi]
theorem takeD_len (l : List D) (o n : Nat) (h : o + n ≤ l.length) : (takeD l o n).length = n :=
  length_of_get fun i => by
    rw [takeD_get]
    by_cases hi : i < n
    · simp [hi]; omega
    · simp [hi]

def QOK (P : Program) (ρ : Operand → V) (hg : Nat → Option Blk) (op : Op) (q : Qr) : Prop :=
  ∀ (g : Gh) (ρc : Operand → Value) (w : World) (o : Oper), o.op = op → (∀ z, ρc (.const z) = z) → (∀ x, x ∈ op.operands → RelV g (ρ x) (ρc x)) → (∀ id, id ∈ q.rd → ∀ b, hg id = some b → BlkRel g w id b) →
    (∀ b o c, g.M b o = some c → w.cell? ⟨b, o, none⟩ = some c) → q.ob → ∃ c, (execOp ρc o).run P w = .ok (.value c) w ∧ RelV g q.v c

theorem StepOK.of_quiet {P : Program} {ops : Array Oper} {o : Oper} {T : VS} {q : Qr} (hd : ∀ d, o.dst = some d → d < T.N) (hnd : ∀ c, o.op ≠ .defer c) (h : QOK P (evalV T.tm) (hget T.hp) o.op q) (hob : q.ob) :
    StepOK P ops o { val := q.v, rd := q.rd } T := by
  intro s ha ro E g a w n K Q hna hi hK
  have hev : ∀ x, x ∈ o.op.operands → RelV g (evalV T.tm x) (a.eval x) := fun x hx => by
    have h1 := hi.toRelS.eval x
    cases x with
    | tmp t =>
      have ht : t ∈ o.looksAt ops := by
        simp only [Oper.looksAt, List.mem_append, List.mem_filterMap]
        exact .inl ⟨.tmp t, by simpa using hx, rfl⟩
      simp only [evalV] at h1 ⊢
      rw [← ha.tm t ht]; exact h1
    | const v => exact h1
    | global g => exact h1
    | func f => exact h1
  have hbl : ∀ id, id ∈ q.rd → ∀ b, hget T.hp id = some b → BlkRel g w id b := fun id hid b hb => hi.blk id b (by rw [ha.rd id hid]; exact hb)
  obtain ⟨c, hrun, hrel⟩ := h g a.eval w o rfl (fun _ => rfl) hev hbl hi.mem hob
  refine ⟨fun _ _ => trivial, ?_⟩
  rw [Oper.semAt_eq _ _ _ hnd, hrun]
  simp only [Oper.uponIn]
  refine hK g _ w ?_
  have he : s.app o { val := q.v, rd := q.rd } = s.put o.dst q.v := rfl
  rw [he]
  cases hdd : o.dst with
  | none => exact hi
  | some d => exact hi.put hrel (by have := hd d hdd; rw [ha.N]; exact this)

section
variable {P : Program} {ρ : Operand → V} {hg : Nat → Option Blk}

theorem q_move (x : Operand) : QOK P ρ hg (.move x) ⟨ρ x, [], True⟩ := fun g ρc w o ho hcst hr _ _ _ => ⟨ρc x, by unfold execOp; rw [ho]; rfl, hr x (by simp [Op.operands])⟩
theorem q_assign (x : Operand) : QOK P ρ hg (.assign x) ⟨ρ x, [], True⟩ := fun g ρc w o ho hcst hr _ _ _ => ⟨ρc x, by unfold execOp; rw [ho]; rfl, hr x (by simp [Op.operands])⟩
theorem q_pick (c x y : Operand) (b : Bool) (hc : ρ c = .d (.bool b)) : QOK P ρ hg (.pick c x y) ⟨cond b (ρ x) (ρ y), [], True⟩ := fun g ρc w o ho hcst hr _ _ _ => by
  have h := hr c (by simp [Op.operands])
  rw [hc] at h
  refine ⟨if b = true then ρc x else ρc y, by unfold execOp; rw [ho]; simp [rel_bool h, asBool], ?_⟩
  cases b
  · exact hr y (by simp [Op.operands])
  · exact hr x (by simp [Op.operands])

theorem q_extract (x : Operand) (i : Nat) (vs : List V) (v : V) (hx : ρ x = .tup vs) (hv : getV vs i = some v) : QOK P ρ hg (.extract x i) ⟨v, [], True⟩ := fun g ρc w o ho hcst hr _ _ _ => by
  have h := hr x (by simp [Op.operands])
  rw [hx] at h
  rw [getV_eq] at hv
  generalize hc : ρc x = c at h
  cases h with
  | tup _ cs h1 h2 =>
    have hi : i < cs.size := by rw [h1]; exact (List.getElem?_eq_some_iff.1 hv).1
    refine ⟨cs[i], ?_, h2 i v cs[i] hv (Array.getElem?_eq_getElem hi)⟩
    unfold execOp; rw [ho]; simp [hc, Instr.extract, hi]

theorem q_makeFunc (f : Fn) (a c : Array Operand) : QOK P ρ hg (.makeFunc f a c) ⟨.fn f (a.toList.map ρ) (c.toList.map ρ), [], True⟩ := fun g ρc w o ho hcst hr _ _ _ => by
  refine ⟨.func f (a.map ρc) (c.map ρc), by unfold execOp; rw [ho]; simp [Instr.makeFunc], .fn f _ _ _ _ (by simp) (by simp) (fun i v x hv hx => ?_) (fun i v x hv hx => ?_)⟩
  · rw [List.getElem?_map] at hv
    rw [Array.getElem?_map] at hx
    obtain ⟨o1, h1, rfl⟩ := Option.map_eq_some_iff.1 hv
    obtain ⟨o2, h2, rfl⟩ := Option.map_eq_some_iff.1 hx
    simp only [Array.getElem?_toList] at h1
    rw [h1] at h2; cases h2
    exact hr o1 (by simp only [Op.operands, Array.mem_append]; exact .inl (Array.mem_of_getElem? h1))
  · rw [List.getElem?_map] at hv
    rw [Array.getElem?_map] at hx
    obtain ⟨o1, h1, rfl⟩ := Option.map_eq_some_iff.1 hv
    obtain ⟨o2, h2, rfl⟩ := Option.map_eq_some_iff.1 hx
    simp only [Array.getElem?_toList] at h1
    rw [h1] at h2; cases h2
    exact hr o1 (by simp only [Op.operands, Array.mem_append]; exact .inr (Array.mem_of_getElem? h1))

def mkIface (t : TypeId) : V → V
  | .d x => .d (.iface t x)
  | v => .iface t v
theorem q_makeInterface (t : TypeId) (x : Operand) (ht : isIfc P t = some false) : QOK P ρ hg (.makeInterface t x) ⟨mkIface t (ρ x), [], True⟩ := fun g ρc w o ho hcst hr _ _ _ => by
  obtain ⟨d, hd, hno⟩ := under_ifc ht
  have h := hr x (by simp [Op.operands])
  refine ⟨.iface t (ρc x), ?_, ?_⟩
  · unfold execOp; rw [ho]
    simp only [Instr.makeInterface, Sem.run_bind, run_underlying hd, Result.andThen_ok]
    cases d <;> first | rfl | exact absurd rfl (hno _)
  · generalize ρ x = v at h ⊢
    generalize ρc x = c at h ⊢
    cases h with
    | d h => exact .d (.iface t h)
    | junk => exact .iface t (.junk _)
    | ptr h => exact .iface t (.ptr h)
    | rptr h => exact .iface t (.rptr h)
    | eptr e off b o' hs h2 => exact .iface t (.eptr e off b o' hs h2)
    | sref h hc h0 => exact .iface t (.sref h hc h0)
    | ssub h1 hc h0 h2 h3 h4 => exact .iface t (.ssub h1 hc h0 h2 h3 h4)
    | emp0t => exact .iface t .emp0t
    | emp0f a => exact .iface t (.emp0f a)
    | bsl h1 h2 h3 => exact .iface t (.bsl h1 h2 h3)
    | mapr h => exact .iface t (.mapr h)
    | iter h => exact .iface t (.iter h)
    | yld h => exact .iface t (.yld h)
    | glo n off => exact .iface t (.glo n off)
    | fn f a c fs cs h1 h2 h3 h4 => exact .iface t (.fn f a c fs cs h1 h2 h3 h4)
    | iface t' h => exact .iface t (.iface t' h)
    | agg vs cs h1 h2 => exact .iface t (.agg vs cs h1 h2)
    | tup vs cs h1 h2 => exact .iface t (.tup vs cs h1 h2)

def isPtr : V → Bool
  | .ptr .. | .rptr .. | .eptr .. | .glo .. => true
  | _ => false
theorem q_nilCheck (x : Operand) (hx : isPtr (ρ x) = true) : QOK P ρ hg (.nilCheck x) ⟨ρ x, [], True⟩ := fun g ρc w o ho hcst hr _ _ _ => by
  have h := hr x (by simp [Op.operands])
  refine ⟨ρc x, ?_, h⟩
  generalize hc : ρc x = c at h
  generalize ρ x = v at h hx
  unfold execOp; rw [ho]
  simp only [hc]
  cases h <;> first | rfl | (cases hx)
theorem q_nilCheck_fn (x : Operand) (f : FuncId) (a c : List V) (hx : ρ x = .fn (.func f) a c) : QOK P ρ hg (.nilCheck x) ⟨ρ x, [], True⟩ := fun g ρc w o ho hcst hr _ _ _ => by
  have h := hr x (by simp [Op.operands])
  refine ⟨ρc x, ?_, h⟩
  rw [hx] at h
  generalize hc : ρc x = c at h
  unfold execOp; rw [ho]
  simp only [hc]
  cases h
  rfl

def loadC (ag : Bool) (n : Nat) (cs : List V) (off : Nat) : Option V :=
  bif ag then (if n ≠ 0 ∧ off + n ≤ cs.length then some (.agg (takeV cs off n)) else none) else getV cs off
def loadD (ag : Bool) (n : Nat) (e : List D) (off : Nat) : Option V :=
  bif ag then (if n ≠ 0 ∧ off + n ≤ e.length then some (.agg (takeD e off n)) else none) else (getD' e off).map .d

theorem load_cells {g : Gh} {w : World} {t n b o off : Nat} {ag : Bool} {arr : Array Value} {cs : List V} {v : V} {ty : TypeId} (ht : aggOf P t = some ag) (hn : szOf P t = n)
    (hb : w.heap[b]? = some (.cells arr ty (0, 0))) (hsz : arr.size = cs.length) (hr : ∀ (i : Nat) (v : V) (c : Value), cs[i]? = some v → arr[i]? = some c → RelV g v c) (hv : loadC ag n cs off = some v) :
    ∃ c, (loadVar t ⟨b, off, none⟩).run P w = .ok c w ∧ RelV g v c := by
  cases ag with
  | false =>
    simp only [loadC, cond_false, getV_eq] at hv
    have ho : off < arr.size := by rw [hsz]; exact (List.getElem?_eq_some_iff.1 hv).1
    have hc : w.cell? ⟨b, off, none⟩ = some arr[off] := by rw [cell_cells hb]; exact Array.getElem?_eq_getElem ho
    exact ⟨arr[off], run_loadVar1 ht hc, hr off v _ hv (Array.getElem?_eq_getElem ho)⟩
  | true =>
    simp only [loadC, cond_true] at hv
    split at hv
    · rename_i h
      cases hv
      refine ⟨_, run_loadVarN (fun j => arr.getD (off + j) undef) ht hn h.1 (fun j hj => ?_), .agg _ _ ?_ (fun i v c hv hc => ?_)⟩
      · rw [cell_cells hb, Array.getD_eq_getD_getElem?, Array.getElem?_eq_getElem (by omega)]; rfl
      · simp [takeV_len _ _ _ h.2]
      · rw [takeV_get] at hv
        split at hv
        · rename_i hi
          have hlt : off + i < arr.size := by omega
          simp only [List.getElem?_toArray, List.getElem?_map, List.getElem?_range hi, Option.map_some, Option.some.injEq] at hc
          subst hc
          rw [Array.getD_eq_getD_getElem?, Array.getElem?_eq_getElem hlt]
          exact hr (off + i) v _ hv (Array.getElem?_eq_getElem hlt)
        · cases hv
    · cases hv

theorem q_load_ptr (t : TypeId) (x : Operand) (id off : Nat) (fz : Bool) (cs : List V) (ag : Bool) (v : V) (hx : ρ x = .ptr id off) (hb : hg id = some (.box fz cs)) (ht : aggOf P t = some ag)
    (hv : loadC ag (szOf P t) cs off = some v) : QOK P ρ hg (.load t x) ⟨v, [id], True⟩ := fun g ρc w o ho hcst hr hbl _ _ => by
  have h := hr x (by simp [Op.operands])
  rw [hx] at h
  generalize hc : ρc x = c at h
  cases h with
  | @ptr _ _ k hk =>
    obtain ⟨k', arr, ty, h1, h2, h3, h4, _⟩ := hbl id (by simp) _ hb
    rw [hk] at h1; cases h1
    obtain ⟨c, hrun, hrel⟩ := load_cells (g := g) (o := off) ht rfl h2 h3 (fun i v c a b => (h4 i v c a b).1) hv
    refine ⟨c, ?_, hrel⟩
    unfold execOp; rw [ho]
    simp [hc, Instr.loadAt, Instr.sureAddr, hrun]

theorem load_stable {g : Gh} {w : World} {t n b o off : Nat} {ag : Bool} {e : List D} {v : V} (ht : aggOf P t = some ag) (hn : szOf P t = n)
    (hs : ∀ j, j < e.length → ∃ c, w.cell? ⟨b, o + j, none⟩ = some c ∧ ∀ x, e[j]? = some x → RelD g.M x c) (hv : loadD ag n e off = some v) :
    ∃ c, (loadVar t ⟨b, o + off, none⟩).run P w = .ok c w ∧ RelV g v c := by
  cases ag with
  | false =>
    simp only [loadD, cond_false, getD'_eq] at hv
    obtain ⟨x, hx, rfl⟩ := Option.map_eq_some_iff.1 hv
    have ho := (List.getElem?_eq_some_iff.1 hx).1
    obtain ⟨c, hc, hr⟩ := hs off ho
    exact ⟨c, run_loadVar1 ht hc, .d (hr x hx)⟩
  | true =>
    simp only [loadD, cond_true] at hv
    split at hv
    · rename_i h
      cases hv
      refine ⟨_, run_loadVarN (fun j => (w.cell? ⟨b, o + off + j, none⟩).getD undef) ht hn h.1 (fun j hj => ?_), .agg _ _ ?_ (fun i v c hv hc => ?_)⟩
      · obtain ⟨c, hc, _⟩ := hs (off + j) (by omega)
        rw [← Nat.add_assoc] at hc
        simp [hc]
      · simp [takeD_len _ _ _ h.2]
      · rw [takeD_get] at hv
        split at hv
        · rename_i hi
          obtain ⟨x, hx, rfl⟩ := Option.map_eq_some_iff.1 hv
          obtain ⟨c', hc', hr⟩ := hs (off + i) (by omega)
          rw [← Nat.add_assoc] at hc'
          simp only [List.getElem?_toArray, List.getElem?_map, List.getElem?_range hi, Option.map_some, Option.some.injEq, hc', Option.getD_some] at hc
          subst hc
          exact .d (hr x hx)
        · cases hv
    · cases hv

theorem q_load_eptr (t : TypeId) (x : Operand) (e : List D) (off : Nat) (ag : Bool) (v : V) (hx : ρ x = .eptr e off) (ht : aggOf P t = some ag)
    (hv : loadD ag (szOf P t) e off = some v) : QOK P ρ hg (.load t x) ⟨v, [], True⟩ := fun g ρc w o ho hcst hr hbl hmem _ => by
  have h := hr x (by simp [Op.operands])
  rw [hx] at h
  generalize hc : ρc x = c at h
  cases h with
  | eptr _ _ b o' hs h2 =>
    obtain ⟨c, hrun, hrel⟩ := load_stable (g := g) (w := w) (b := b) (o := o') ht rfl (fun j hj => by
      obtain ⟨c, hc⟩ := Option.isSome_iff_exists.1 (hs j hj)
      exact ⟨c, hmem _ _ _ hc, fun x hx => h2 j x c hx hc⟩) hv
    refine ⟨c, ?_, hrel⟩
    unfold execOp; rw [ho]
    simp [hc, Instr.loadAt, Instr.sureAddr, hrun]

theorem q_load_glo (t : TypeId) (x : Operand) (m off : Nat) (e : List D) (ag : Bool) (v : V) (hx : ρ x = .glo m off) (he : gtab m = some e) (ht : aggOf P t = some ag)
    (hv : loadD ag (szOf P t) e off = some v) : QOK P ρ hg (.load t x) ⟨v, [], True⟩ := fun g ρc w o ho hcst hr hbl hmem _ => by
  have h := hr x (by simp [Op.operands])
  rw [hx] at h
  generalize hc : ρc x = c at h
  cases h with
  | glo _ _ =>
    obtain ⟨c, hrun, hrel⟩ := load_stable (g := g) (w := w) (b := m) (o := 0) ht rfl (fun j hj => by
      obtain ⟨c, hc, hd⟩ := g.glo.1 m e he j e[j] (List.getElem?_eq_getElem hj)
      refine ⟨c, hmem _ _ _ (by rw [Nat.zero_add]; exact hc), fun x hx => ?_⟩
      rw [List.getElem?_eq_getElem hj] at hx
      cases hx; exact hd) hv
    refine ⟨c, ?_, hrel⟩
    rw [Nat.zero_add] at hrun
    unfold execOp; rw [ho]
    simp [hc, Instr.loadAt, Instr.sureAddr, hrun]

theorem q_load_rptr (t : TypeId) (x : Operand) (id sz i off fz : Nat) (nil : Bool) (es : List (List D)) (ag : Bool) (v : V) (hx : ρ x = .rptr id sz i off) (hb : hg id = some (.row sz fz nil es)) (ht : aggOf P t = some ag)
    (hv : loadD ag (szOf P t) (es.getD i []) off = some v) : QOK P ρ hg (.load t x) ⟨v, [id], i < es.length⟩ := fun g ρc w o ho hcst hr hbl hmem hob => by
  have h := hr x (by simp [Op.operands])
  rw [hx] at h
  generalize hc : ρc x = c at h
  cases h with
  | @rptr _ _ _ _ k hk =>
    have hblk := hbl id (by simp) _ hb
    cases nil with
    | true => have := (hblk.1 rfl).2.2; rw [hk] at this; cases this
    | false =>
      rcases hblk.2 rfl with ⟨_, _, h3, _⟩ | ⟨k', arr, ty, cap, h1, h2, h3, h4, h5, h6, h7, h8, h9⟩
      · rw [hk] at h3; cases h3
      · rw [hk] at h1; cases h1
        have he : es[i]? = some (es.getD i []) := by rw [List.getD_eq_getElem?_getD, List.getElem?_eq_getElem hob]; rfl
        have hlen : (es.getD i []).length = sz := h7 _ (List.mem_of_getElem? he)
        obtain ⟨c, hrun, hrel⟩ := load_stable (g := g) (w := w) (b := k) (o := i * sz) ht rfl (fun j hj => by
          have hlt : i * sz + j < arr.size := by
            rw [h4]
            have : (i + 1) * sz ≤ cap * sz := Nat.mul_le_mul_right _ (by omega)
            rw [Nat.add_mul] at this; omega
          refine ⟨arr[i * sz + j], by rw [cell_cells h3]; exact Array.getElem?_eq_getElem hlt, fun x hx => h8 i j _ x _ he hx (Array.getElem?_eq_getElem hlt)⟩) hv
        refine ⟨c, ?_, hrel⟩
        unfold execOp; rw [ho]
        simp [hc, Instr.loadAt, Instr.sureAddr, hrun]
end
end Go.Bv

namespace Go.Bv
variable {P : Program} {ρ : Operand → V} {hg : Nat → Option Blk}

def addOff : V → Nat → Option V
  | .ptr id off, n => some (.ptr id (off + n))
  | .rptr id sz i off, n => some (.rptr id sz i (off + n))
  | .eptr e off, n => some (.eptr e (off + n))
  | .glo m off, n => some (.glo m (off + n))
  | _, _ => none
theorem addOff_rel {g : Gh} {v v' : V} {c : Value} {n : Nat} (h : RelV g v c) (hv : addOff v n = some v') : ∃ b o, c = .pointer (some ⟨b, o, none⟩) ∧ RelV g v' (.pointer (some ⟨b, o + n, none⟩)) := by
  cases h with
  | @ptr id off k hk => simp only [addOff, Option.some.injEq] at hv; subst hv; exact ⟨_, _, rfl, .ptr hk⟩
  | @rptr id sz i off k hk => simp only [addOff, Option.some.injEq] at hv; subst hv; exact ⟨_, _, rfl, by rw [Nat.add_assoc]; exact .rptr hk⟩
  | eptr e off b o hs hr => simp only [addOff, Option.some.injEq] at hv; subst hv; exact ⟨_, _, rfl, by rw [Nat.add_assoc]; exact .eptr e _ b o hs hr⟩
  | glo m off => simp only [addOff, Option.some.injEq] at hv; subst hv; exact ⟨_, _, rfl, .glo m _⟩
  | _ => simp [addOff] at hv

theorem q_fieldAddr (s f fo ft : Nat) (x : Operand) (v : V) (hf : fieldOf P s f = some (fo, ft)) (hz : szOf P ft ≠ 0) (hv : addOff (ρ x) fo = some v) : QOK P ρ hg (.fieldAddr s x f) ⟨v, [], True⟩ := fun g ρc w o ho hcst hr _ _ _ => by
  obtain ⟨b, o', hc, hrel⟩ := addOff_rel (hr x (by simp [Op.operands])) hv
  obtain ⟨fs, fl, h1, h2, h3, h4⟩ := under_struct hf
  refine ⟨_, ?_, hrel⟩
  unfold execOp; rw [ho]
  simp only [hc, Instr.fieldAt, Sem.run_bind, run_underlying h1, Result.andThen_ok, h2, Instr.sureAddr, Sem.run_pure, fieldPlace, h4, run_sizeOf' rfl hz, hz, if_false, h3, Addr.add_lit]

theorem run_part {t off n : Nat} {ag : Bool} {cs : Array Value} {w : World} {g : Gh} {vs : List V} {v : V} (ht : aggOf P t = some ag) (hn : szOf P t = n) (hsz : cs.size = vs.length)
    (hr : ∀ (i : Nat) (v : V) (c : Value), vs[i]? = some v → cs[i]? = some c → RelV g v c) (hv : loadC ag n vs off = some v) : ∃ c, (part t cs off).run P w = .ok c w ∧ RelV g v c := by
  unfold part
  simp only [Sem.run_bind, run_isAgg' ht, Result.andThen_ok]
  cases ag with
  | false =>
    simp only [loadC, cond_false, getV_eq] at hv
    have ho : off < cs.size := by rw [hsz]; exact (List.getElem?_eq_some_iff.1 hv).1
    refine ⟨cs[off], ?_, hr off v _ hv (Array.getElem?_eq_getElem ho)⟩
    simp [ho]
  | true =>
    simp only [loadC, cond_true] at hv
    split at hv
    · rename_i h
      cases hv
      refine ⟨.agg (cs.extract off (off + n)), ?_, .agg _ _ ?_ (fun i v c hv hc => ?_)⟩
      · simp [run_sizeOf' hn h.1]
      · rw [takeV_len _ _ _ h.2]; simp; omega
      · rw [takeV_get] at hv
        split at hv
        · rename_i hi
          rw [Array.getElem?_extract] at hc
          split at hc
          · exact hr (off + i) v c hv hc
          · cases hc
        · cases hv
    · cases hv

theorem q_field (s f fo ft : Nat) (x : Operand) (vs : List V) (ag : Bool) (v : V) (hf : fieldOf P s f = some (fo, ft)) (ht : aggOf P ft = some ag) (hx : ρ x = .agg vs) (hv : loadC ag (szOf P ft) vs fo = some v) : QOK P ρ hg (.field s x f) ⟨v, [], True⟩ := fun g ρc w o ho hcst hr _ _ _ => by
  have h := hr x (by simp [Op.operands])
  rw [hx] at h
  generalize hc : ρc x = c at h
  obtain ⟨fs, fl, h1, h2, h3, h4⟩ := under_struct hf
  cases h with
  | agg _ cs h5 h6 =>
    obtain ⟨c, hrun, hrel⟩ := run_part (P := P) (w := w) ht rfl h5 h6 hv
    refine ⟨c, ?_, hrel⟩
    unfold execOp; rw [ho]
    simp only [hc, Instr.field, Sem.run_bind, run_underlying h1, Result.andThen_ok, h2, asAgg, Sem.run_pure, h3, h4, hrun]

theorem q_index_d (t e : Nat) (x i : Operand) (k : IntKind) (n : Int) (nil : Bool) (es : List (List D)) (ht : elemOf' P t = some e) (hz : szOf P e ≠ 0) (hx : ρ x = .d (.slice nil es)) (hi : ρ i = .d (.int k n)) :
    QOK P ρ hg (.indexAddr t x i) ⟨.eptr (es.getD n.toNat []) 0, [], 0 ≤ n ∧ n < es.length ∧ (es.getD n.toNat []).length = szOf P e⟩ := fun g ρc w o ho hcst hr _ _ hob => by
  have h := hr x (by simp [Op.operands])
  have h' := hr i (by simp [Op.operands])
  rw [hx] at h
  rw [hi] at h'
  have hic := rel_int h'
  obtain ⟨h0, h1, h2⟩ := hob
  have hlt : n.toNat < es.length := by omega
  generalize hc : ρc x = c at h
  cases h with
  | d h =>
    cases h with
    | nils => simp at hlt
    | emp a cap => simp at hlt
    | slice sz _ b o' cap m hm hcap hl hs hrel =>
      have he : es[n.toNat]? = some (es.getD n.toNat []) := by rw [List.getD_eq_getElem?_getD, List.getElem?_eq_getElem hlt]; rfl
      have hlen := hl _ (List.mem_of_getElem? he)
      have hsz : sz = szOf P e := by rw [← hlen, h2]
      refine ⟨.pointer (some ⟨b, o' + n.toNat * sz + 0, none⟩), ?_, .eptr _ 0 b _ (fun j hj => hs n.toNat j hlt (by omega)) (fun j x c hx hm' => hrel n.toNat j _ x c he hx hm')⟩
      unfold execOp; rw [ho]
      have hb : 0 ≤ n ∧ n < (m : Int) := ⟨h0, by omega⟩
      simp [hc, hic, Instr.indexAt, asIntOf, run_underlying (under_slice ht), hb, run_sizeOf' rfl hz, Addr.add_lit, hsz]

theorem q_index_sref (t e : Nat) (x i : Operand) (k : IntKind) (n : Int) (id len : Nat) (ht : elemOf' P t = some e) (hz : szOf P e ≠ 0) (hx : ρ x = .sref id len) (hi : ρ i = .d (.int k n)) :
    QOK P ρ hg (.indexAddr t x i) ⟨.rptr id (szOf P e) n.toNat 0, [], 0 ≤ n ∧ n < len⟩ := fun g ρc w o ho hcst hr _ _ hob => by
  have h := hr x (by simp [Op.operands])
  have h' := hr i (by simp [Op.operands])
  rw [hx] at h
  rw [hi] at h'
  have hic := rel_int h'
  obtain ⟨h0, h1⟩ := hob
  generalize hc : ρc x = c at h
  cases h with
  | @sref _ _ cap a hs hcap hk =>
    obtain ⟨k', hk1, rfl⟩ := hk (by omega)
    refine ⟨.pointer (some ⟨k', n.toNat * szOf P e + 0, none⟩), ?_, .rptr hk1⟩
    unfold execOp; rw [ho]
    simp [hc, hic, Instr.indexAt, asIntOf, run_underlying (under_slice ht), h0, h1, run_sizeOf' rfl hz, Addr.add_lit]

theorem q_index_ssub (t e : Nat) (x i : Operand) (k : IntKind) (n : Int) (id sz off len : Nat) (ht : elemOf' P t = some e) (hz : szOf P e ≠ 0) (hx : ρ x = .ssub id sz off len) (hsz : sz = szOf P e) (hi : ρ i = .d (.int k n)) :
    QOK P ρ hg (.indexAddr t x i) ⟨.rptr id (szOf P e) (off + n.toNat) 0, [], 0 ≤ n ∧ n < len⟩ := fun g ρc w o ho hcst hr _ _ hob => by
  have h := hr x (by simp [Op.operands])
  have h' := hr i (by simp [Op.operands])
  rw [hx] at h
  rw [hi] at h'
  have hic := rel_int h'
  obtain ⟨h0, h1⟩ := hob
  subst hsz
  generalize hc : ρc x = c at h
  cases h with
  | @ssub _ _ _ _ m cap a a' hs hcap hk hle hn hs' =>
    obtain ⟨k', hk1, rfl⟩ := hk (by omega)
    obtain ⟨ad, rfl, had⟩ := hs' _ rfl
    have had := had (.inr (by omega))
    subst had
    refine ⟨.pointer (some ⟨k', (off + n.toNat) * szOf P e + 0, none⟩), ?_, .rptr hk1⟩
    unfold execOp; rw [ho]
    simp [hc, hic, Instr.indexAt, asIntOf, run_underlying (under_slice ht), h0, h1, run_sizeOf' rfl hz, Addr.add_lit, Nat.add_mul]

theorem q_index_bsl (t e : Nat) (x i : Operand) (k : IntKind) (n : Int) (id sz off len cap : Nat) (ht : elemOf' P t = some e) (hz : szOf P e ≠ 0) (hx : ρ x = .bsl id sz off len cap) (hsz : sz = szOf P e) (hi : ρ i = .d (.int k n)) :
    QOK P ρ hg (.indexAddr t x i) ⟨.ptr id ((off + n.toNat) * szOf P e), [], 0 ≤ n ∧ n < len⟩ := fun g ρc w o ho hcst hr _ _ hob => by
  have h := hr x (by simp [Op.operands])
  have h' := hr i (by simp [Op.operands])
  rw [hx] at h
  rw [hi] at h'
  have hic := rel_int h'
  obtain ⟨h0, h1⟩ := hob
  subst hsz
  generalize hc : ρc x = c at h
  cases h with
  | @bsl _ _ _ _ _ k' ad hk hcap had =>
    have had := had (.inr (by omega))
    subst had
    refine ⟨.pointer (some ⟨k', (off + n.toNat) * szOf P e, none⟩), ?_, .ptr hk⟩
    unfold execOp; rw [ho]
    simp [hc, hic, Instr.indexAt, asIntOf, run_underlying (under_slice ht), h0, h1, run_sizeOf' rfl hz, Addr.add_lit, Nat.add_mul]

theorem q_index_str (t : Nat) (x i : Operand) (k : IntKind) (n : Int) (l : List UInt8) (ht : isStr P t = true) (hx : ρ x = .d (.str l)) (hi : ρ i = .d (.int k n)) :
    QOK P ρ hg (.index t x i) ⟨.d (.int .u8 ((l.getD n.toNat 0).toNat : Int)), [], 0 ≤ n ∧ n < l.length⟩ := fun g ρc w o ho hcst hr _ _ hob => by
  have h := hr x (by simp [Op.operands])
  have h' := hr i (by simp [Op.operands])
  rw [hx] at h
  rw [hi] at h'
  have hic := rel_int h'
  have hxc := rel_str h
  obtain ⟨h0, h1⟩ := hob
  have hlt : n.toNat < l.length := by omega
  refine ⟨.int .u8 ((l.getD n.toNat 0).toNat : Int), ?_, .d (.int _ _)⟩
  unfold execOp; rw [ho]
  have hget : (⟨l.toArray⟩ : ByteArray)[n.toNat]? = some (l.getD n.toNat 0) := by
    rw [getElem?_pos _ _ (by show n.toNat < l.toArray.size; simpa using hlt)]
    congr 1
    show l.toArray[n.toNat] = _
    simp [hlt]
  simp [hic, hxc, Instr.index, asIntOf, run_underlying (under_str ht), h0, hget]

theorem exec_builtin (ρc : Operand → Value) (o : Oper) (b : Builtin) (args : Array Operand) (ats : Array TypeId) (ho : o.op = .call { callee := .builtin b, args := args, argTypes := ats }) (w : World) :
    ∃ cs, (execOp ρc o).run P w = (builtin b ats o.type cs (args.map ρc)).run P w := by
  unfold execOp; rw [ho]
  simp only [resolve, Sem.run_bind, Sem.run_pure, Result.andThen_ok, invoke]
  exact ⟨_, rfl⟩

def lenS : V → Option Nat
  | .d (.slice _ es) => some es.length
  | .sref _ n => some n
  | .ssub _ _ _ len => some len
  | .bsl _ _ _ len _ => some len
  | .emp0 _ => some 0
  | _ => none
theorem lenS_rel {g : Gh} {v : V} {c : Value} {n : Nat} (h : RelV g v c) (hn : lenS v = some n) : ∃ a cap, c = .slice a n cap := by
  cases h with
  | d h =>
    cases h with
    | nils => simp only [lenS, Option.some.injEq] at hn; subst hn; exact ⟨_, _, rfl⟩
    | emp a cap => simp only [lenS, Option.some.injEq] at hn; subst hn; exact ⟨_, _, rfl⟩
    | slice sz es b o cap m hm hc hl hs hr => simp only [lenS, Option.some.injEq] at hn; subst hn; subst hm; exact ⟨_, _, rfl⟩
    | _ => simp [lenS] at hn
  | sref h hc h0 => simp only [lenS, Option.some.injEq] at hn; subst hn; exact ⟨_, _, rfl⟩
  | ssub h1 hc h0 h2 h3 h4 => simp only [lenS, Option.some.injEq] at hn; subst hn; exact ⟨_, _, rfl⟩
  | bsl h1 h2 h3 => simp only [lenS, Option.some.injEq] at hn; subst hn; exact ⟨_, _, rfl⟩
  | emp0t => simp only [lenS, Option.some.injEq] at hn; subst hn; exact ⟨_, _, rfl⟩
  | emp0f a => simp only [lenS, Option.some.injEq] at hn; subst hn; exact ⟨_, _, rfl⟩
  | _ => simp [lenS] at hn
theorem q_len_slice (x : Operand) (t e n : Nat) (hn : lenS (ρ x) = some n) (ht : elemOf' P t = some e) :
    QOK P ρ hg (.call { callee := .builtin .len, args := #[x], argTypes := #[t] }) ⟨.d (.int .i64 (n : Int)), [], True⟩ := fun g ρc w o ho hcst hr _ _ _ => by
  have h := hr x (by simp [Op.operands, Call.operands])
  obtain ⟨a, cap, hc⟩ := lenS_rel h hn
  refine ⟨.int .i64 (n : Int), ?_, .d (.int _ _)⟩
  obtain ⟨cs, hcs⟩ := exec_builtin (P := P) ρc o .len #[x] #[t] ho w
  rw [hcs]
  simp [builtin, hc, Builtin.len_, run_underlying (under_slice ht), goInt]
theorem q_len_str (x : Operand) (t : Nat) (l : List UInt8) (hx : ρ x = .d (.str l)) (ht : isStr P t = true) :
    QOK P ρ hg (.call { callee := .builtin .len, args := #[x], argTypes := #[t] }) ⟨.d (.int .i64 (l.length : Int)), [], True⟩ := fun g ρc w o ho hcst hr _ _ _ => by
  have h := hr x (by simp [Op.operands, Call.operands])
  rw [hx] at h
  refine ⟨.int .i64 (l.length : Int), ?_, .d (.int _ _)⟩
  obtain ⟨cs, hcs⟩ := exec_builtin (P := P) ρc o .len #[x] #[t] ho w
  rw [hcs]
  have hsz : (⟨l.toArray⟩ : ByteArray).size = l.length := by show l.toArray.size = _; simp
  simp [builtin, rel_str h, Builtin.len_, run_underlying (under_str ht), goInt, hsz]
theorem q_len_map (x : Operand) (t k e id : Nat) (es : List (V × V)) (hx : ρ x = .mapr id) (c0 : Nat) (hb : hg id = some (.map c0 es)) (ht : mapOf P t = some (k, e)) :
    QOK P ρ hg (.call { callee := .builtin .len, args := #[x], argTypes := #[t] }) ⟨.d (.int .i64 (es.length : Int)), [id], True⟩ := fun g ρc w o ho hcst hr hbl _ _ => by
  have h := hr x (by simp [Op.operands, Call.operands])
  rw [hx] at h
  generalize hc : ρc x = c at h
  cases h with
  | @mapr _ k' hk =>
    obtain ⟨k2, ents, h1, h2, h3, h4⟩ := hbl id (by simp) _ hb
    rw [hk] at h1; cases h1
    refine ⟨.int .i64 (es.length : Int), ?_, .d (.int _ _)⟩
    obtain ⟨cs, hcs⟩ := exec_builtin (P := P) ρc o .len #[x] #[t] ho w
    rw [hcs]
    simp [builtin, hc, Builtin.len_, run_underlying (under_map ht), goInt, getObj, Sem.run, h2, h3]

theorem q_min2 (x y : Operand) (ts : Array TypeId) (k : IntKind) (a b : Int) (hx : ρ x = .d (.int k a)) (hy : ρ y = .d (.int k b)) :
    QOK P ρ hg (.call { callee := .builtin .min, args := #[x, y], argTypes := ts }) ⟨.d (.int k (min a b)), [], True⟩ := fun g ρc w o ho hcst hr _ _ _ => by
  have h1 := hr x (by simp [Op.operands, Call.operands])
  have h2 := hr y (by simp [Op.operands, Call.operands])
  rw [hx] at h1
  rw [hy] at h2
  refine ⟨.int k (min a b), ?_, .d (.int _ _)⟩
  obtain ⟨cs, hcs⟩ := exec_builtin (P := P) ρc o .min #[x, y] ts ho w
  rw [hcs]
  have : (if b < a then b else a) = min a b := by omega
  simp [builtin, rel_int h1, rel_int h2, Builtin.min_, Builtin.min2, this]
theorem q_max2 (x y : Operand) (ts : Array TypeId) (k : IntKind) (a b : Int) (hx : ρ x = .d (.int k a)) (hy : ρ y = .d (.int k b)) :
    QOK P ρ hg (.call { callee := .builtin .max, args := #[x, y], argTypes := ts }) ⟨.d (.int k (max a b)), [], True⟩ := fun g ρc w o ho hcst hr _ _ _ => by
  have h1 := hr x (by simp [Op.operands, Call.operands])
  have h2 := hr y (by simp [Op.operands, Call.operands])
  rw [hx] at h1
  rw [hy] at h2
  refine ⟨.int k (max a b), ?_, .d (.int _ _)⟩
  obtain ⟨cs, hcs⟩ := exec_builtin (P := P) ρc o .max #[x, y] ts ho w
  rw [hcs]
  have : (if b > a then b else a) = max a b := by omega
  simp [builtin, rel_int h1, rel_int h2, Builtin.max_, Builtin.max2, this]

theorem under_arr {t n e : Nat} (h : arrOf P t = some (n, e)) : P.underlying t = some (.array n e) := by
  unfold arrOf at h
  split at h
  · rename_i n' e' he; cases h; exact he
  · cases h
theorem q_index_arr (t m e : Nat) (x i : Operand) (k : IntKind) (n : Int) (v : V) (ht : arrOf P t = some (m, e)) (hz : szOf P e ≠ 0) (hi : ρ i = .d (.int k n)) (hv : addOff (ρ x) (n.toNat * szOf P e) = some v) :
    QOK P ρ hg (.indexAddr t x i) ⟨v, [], 0 ≤ n ∧ n < m⟩ := fun g ρc w o ho hcst hr _ _ hob => by
  have h' := hr i (by simp [Op.operands])
  rw [hi] at h'
  have hic := rel_int h'
  obtain ⟨b, o', hc, hrel⟩ := addOff_rel (hr x (by simp [Op.operands])) hv
  refine ⟨_, ?_, hrel⟩
  unfold execOp; rw [ho]
  have hb : 0 ≤ n ∧ n < (m : Int) := hob
  simp [hc, hic, Instr.indexAt, Instr.sureAddr, asIntOf, run_underlying (under_arr ht), hb, run_sizeOf' rfl hz, Addr.add_lit]
end Go.Bv

namespace Go.Bv
variable {P : Program} {ρ : Operand → V} {hg : Nat → Option Blk}

def Bnd (v : Option Value) (d n : Int) : Prop := (v = none ∧ n = d) ∨ ∃ k, v = some (.int k n)
def bndV (ρ : Operand → V) (x : Option Operand) (d : Int) : Option Int :=
  match x with
  | none => some d
  | some y => match ρ y with | .d (.int _ n) => some n | _ => none
theorem bnd_rel {g : Gh} {ρc : Operand → Value} {x : Option Operand} {d n : Int} (h : bndV ρ x d = some n) (hr : ∀ y, x = some y → RelV g (ρ y) (ρc y)) : Bnd (x.map ρc) d n := by
  cases x with
  | none => simp only [bndV, Option.some.injEq] at h; exact .inl ⟨rfl, h.symm⟩
  | some y =>
    simp only [bndV] at h
    have hy := hr y rfl
    split at h
    · rename_i k m hm
      cases h
      rw [hm] at hy
      exact .inr ⟨k, by simp [rel_int hy]⟩
    · cases h
theorem run_sliceBound {w : World} {k : IntKind} {i : Int} {y : Nat} {code : BoundsCode} (h0 : 0 ≤ i) (h1 : i ≤ y) : (Instr.sliceBound (.int k i) y code).run P w = .ok i.toNat w := by
  simp [Instr.sliceBound, asIntOf, h0, h1]
theorem run_sliceBounds {w : World} {b : Bool} {len cap : Nat} {lo hi : Option Value} {l h : Int} (hl : Bnd lo 0 l) (hh : Bnd hi len h) (h0 : 0 ≤ l) (h1 : l ≤ h) (h2 : h ≤ cap) :
    (Instr.sliceBounds b len cap lo hi none).run P w = .ok (l.toNat, h.toNat, cap) w := by
  unfold Instr.sliceBounds
  rcases hh with ⟨rfl, rfl⟩ | ⟨k, rfl⟩
  · rcases hl with ⟨rfl, rfl⟩ | ⟨k', rfl⟩
    · simp
    · simp only [Sem.run_bind, Sem.run_pure, Result.andThen_ok]
      rw [run_sliceBound h0 (by omega)]
      simp
  · simp only [Sem.run_bind, Sem.run_pure, Result.andThen_ok]
    rw [run_sliceBound (by omega) h2]
    rcases hl with ⟨rfl, rfl⟩ | ⟨k', rfl⟩
    · simp
    · simp only [Result.andThen_ok, Sem.run_bind]
      rw [run_sliceBound h0 (by omega)]
      simp

theorem extract_list (s : List UInt8) (l h : Nat) : (⟨s.toArray⟩ : ByteArray).extract l h = ⟨((s.take h).drop l).toArray⟩ := by
  apply ByteArray.ext
  rw [ByteArray.data_extract]
  apply Array.ext'
  simp [Array.toList_extract, List.extract, List.drop_take]

theorem exec_slice (ρc : Operand → Value) (o : Oper) (t : Nat) (x : Operand) (lo hi mx : Option Operand) (ho : o.op = .slice t x lo hi mx) (w : World) (hna : ∀ n e, P.underlying t ≠ some (.array n e)) {d : TypeDesc} (hd : P.underlying t = some d) :
    (execOp ρc o).run P w = ((Instr.slice t (ρc x) (lo.map ρc) (hi.map ρc) (mx.map ρc)).run P w).andThen fun v w => .ok (.value v) w := by
  unfold execOp; rw [ho]
  simp only [Sem.run_bind, Instr.sliceAt, run_underlying hd, Result.andThen_ok]
  cases d <;> first | exact absurd hd (hna _ _) | (simp [Sem.run_bind]; done) | rfl

theorem q_slice_str (t : Nat) (x : Operand) (lo hi : Option Operand) (s : List UInt8) (l h : Int) (ht : isStr P t = true) (hx : ρ x = .d (.str s)) (hl : bndV ρ lo 0 = some l) (hh : bndV ρ hi s.length = some h) :
    QOK P ρ hg (.slice t x lo hi none) ⟨.d (.str ((s.take h.toNat).drop l.toNat)), [], 0 ≤ l ∧ l ≤ h ∧ h ≤ s.length⟩ := fun g ρc w o ho hcst hr _ _ hob => by
  have hxr := hr x (by simp [Op.operands])
  rw [hx] at hxr
  obtain ⟨h0, h1, h2⟩ := hob
  have hsz : (⟨s.toArray⟩ : ByteArray).size = s.length := by show s.toArray.size = _; simp
  have b1 := bnd_rel (g := g) (ρc := ρc) hl (fun y hy => hr y (by subst hy; simp [Op.operands]))
  have b2 := bnd_rel (g := g) (ρc := ρc) hh (fun y hy => hr y (by subst hy; simp [Op.operands]))
  refine ⟨.string ⟨((s.take h.toNat).drop l.toNat).toArray⟩, ?_, .d (.str _)⟩
  rw [exec_slice ρc o t x lo hi none ho w (fun n e hu => by rw [under_str ht] at hu; cases hu) (under_str ht)]
  simp only [Instr.slice, Sem.run_bind, run_underlying (under_str ht), Result.andThen_ok, rel_str hxr, Option.map_none, Option.isSome_none, Bool.false_eq_true, if_false, Sem.run_pure]
  rw [hsz, run_sliceBounds b1 b2 h0 h1 h2]
  simp [extract_list]

theorem add_addr (b o n : Nat) : (⟨b, o, none⟩ : Addr).add n = ⟨b, o + n, none⟩ := Addr.add_lit b o n

theorem exec_slice_at {w : World} {t e len cap : Nat} {a : Option Addr} {lo hi : Option Value} {l h : Int} (ht : elemOf' P t = some e) (hz : szOf P e ≠ 0) (b1 : Bnd lo 0 l) (b2 : Bnd hi len h) (h0 : 0 ≤ l) (h1 : l ≤ h) (h2 : h ≤ cap) :
    ((Instr.slice t (.slice a len cap) lo hi (Option.map (fun x : Operand => undef) none)).run P w).andThen (fun v w => Result.ok (Next.value v) w) =
      Result.ok (Next.value (.slice (if cap = l.toNat then a else a.map (·.add (l.toNat * szOf P e))) (h.toNat - l.toNat) (cap - l.toNat))) w := by
  simp only [Instr.slice, Sem.run_bind, run_underlying (under_slice ht), Result.andThen_ok, Option.map_none]
  rw [run_sliceBounds b1 b2 h0 h1 h2]
  simp [run_sizeOf' rfl hz]

theorem q_slice_d (t e : Nat) (x : Operand) (lo hi : Option Operand) (nil : Bool) (es : List (List D)) (l h : Int) (ht : elemOf' P t = some e) (hz : szOf P e ≠ 0) (hx : ρ x = .d (.slice nil es)) (hl : bndV ρ lo 0 = some l) (hh : bndV ρ hi es.length = some h) :
    QOK P ρ hg (.slice t x lo hi none) ⟨.d (.slice nil ((es.take h.toNat).drop l.toNat)), [], 0 ≤ l ∧ l ≤ h ∧ h ≤ es.length ∧ ∀ y, y ∈ es → y.length = szOf P e⟩ := fun g ρc w o ho hcst hr _ _ hob => by
  have hxr := hr x (by simp [Op.operands])
  rw [hx] at hxr
  obtain ⟨h0, h1, h2, h3⟩ := hob
  have b1 := bnd_rel (g := g) (ρc := ρc) hl (fun y hy => hr y (by subst hy; simp [Op.operands]))
  have b2 := bnd_rel (g := g) (ρc := ρc) hh (fun y hy => hr y (by subst hy; simp [Op.operands]))
  rw [exec_slice ρc o t x lo hi none ho w (fun n e hu => by rw [under_slice ht] at hu; cases hu) (under_slice ht)]
  generalize hc : ρc x = c at hxr
  have hrun : ∀ (a : Option Addr) (len cap : Nat), c = .slice a len cap → len = es.length → len ≤ cap → _ := fun a len cap hce hle hcap =>
    hce ▸ exec_slice_at (P := P) (w := w) (a := a) (len := len) (cap := cap) ht hz b1 (hle ▸ b2) h0 h1 (by omega)
  cases hxr with
  | d hxr =>
    cases hxr with
    | nils =>
      have hl0 : l.toNat = 0 := by simp at h2; omega
      have hh0 : h.toNat = 0 := by simp at h2; omega
      refine ⟨_, hrun none 0 0 rfl rfl (Nat.le_refl _), ?_⟩
      simp [hl0, hh0]
      exact .d .nils
    | emp a cap =>
      have hl0 : l.toNat = 0 := by simp at h2; omega
      have hh0 : h.toNat = 0 := by simp at h2; omega
      refine ⟨_, hrun (some a) 0 cap rfl rfl (Nat.zero_le _), ?_⟩
      simp only [hl0, hh0, List.take_nil, List.drop_nil, Nat.sub_self, Nat.sub_zero, Option.map_some]
      split
      · exact .d (.emp a _)
      · exact .d (.emp _ _)
    | slice sz _ b o' cap m hm hcap hlen hs hrel =>
      refine ⟨_, hrun _ m cap rfl hm hcap, ?_⟩
      have hlt : ((es.take h.toNat).drop l.toNat).length = h.toNat - l.toNat := by simp; omega
      by_cases hemp : h.toNat - l.toNat = 0
      · have : (es.take h.toNat).drop l.toNat = [] := List.eq_nil_of_length_eq_zero (by omega)
        rw [this, hemp]
        split
        · exact .d (.emp _ _)
        · exact .d (.emp _ _)
      · have hne : ¬ cap = l.toNat := by omega
        have hsz : sz = szOf P e := by
          have hmem : es[0]? = some (es[0]'(by omega)) := List.getElem?_eq_getElem (by omega)
          rw [← hlen _ (List.mem_of_getElem? hmem), h3 _ (List.mem_of_getElem? hmem)]
        rw [if_neg hne]
        simp only [Option.map_some, add_addr]
        have hget : ∀ i, ((es.take h.toNat).drop l.toNat)[i]? = if l.toNat + i < h.toNat then es[l.toNat + i]? else none := fun i => by
          rw [List.getElem?_drop, List.getElem?_take]
        refine .d (.slice sz _ b _ _ _ (by rw [hlt]) (by omega) (fun y hy => hlen y (List.mem_of_mem_take (List.mem_of_mem_drop hy))) (fun i j hi hj => ?_) (fun i j y z c hy hz' hm' => ?_))
        · have := hs (l.toNat + i) j (by rw [hlt] at hi; omega) hj
          rw [hsz] at this
          rw [hsz, show o' + l.toNat * szOf P e + i * szOf P e + j = o' + (l.toNat + i) * szOf P e + j from by rw [Nat.add_mul]; omega]
          exact this
        · rw [hget] at hy
          split at hy
          · refine hrel (l.toNat + i) j y z c hy hz' ?_
            rw [hsz, show o' + (l.toNat + i) * szOf P e + j = o' + l.toNat * szOf P e + i * szOf P e + j from by rw [Nat.add_mul]; omega]
            rw [hsz] at hm'
            exact hm'
          · cases hy

theorem q_slice_sref (t e : Nat) (x : Operand) (lo hi : Option Operand) (id len : Nat) (l h : Int) (ht : elemOf' P t = some e) (hz : szOf P e ≠ 0) (hx : ρ x = .sref id len) (hl : bndV ρ lo 0 = some l) (hh : bndV ρ hi len = some h) :
    QOK P ρ hg (.slice t x lo hi none) ⟨.ssub id (szOf P e) l.toNat (h.toNat - l.toNat), [], 0 ≤ l ∧ l ≤ h ∧ h ≤ len⟩ := fun g ρc w o ho hcst hr _ _ hob => by
  have hxr := hr x (by simp [Op.operands])
  rw [hx] at hxr
  obtain ⟨h0, h1, h2⟩ := hob
  have b1 := bnd_rel (g := g) (ρc := ρc) hl (fun y hy => hr y (by subst hy; simp [Op.operands]))
  have b2 := bnd_rel (g := g) (ρc := ρc) hh (fun y hy => hr y (by subst hy; simp [Op.operands]))
  rw [exec_slice ρc o t x lo hi none ho w (fun n e hu => by rw [under_slice ht] at hu; cases hu) (under_slice ht)]
  generalize hc : ρc x = c at hxr
  cases hxr with
  | @sref _ _ cap a hs hcap hk =>
    refine ⟨_, exec_slice_at (P := P) (w := w) (a := a) (len := len) (cap := cap) ht hz b1 b2 h0 h1 (by omega), ?_⟩
    refine .ssub hs hcap hk (by omega) (fun ha => by subst ha; split <;> rfl) (fun a0 ha => ?_)
    subst ha
    split
    · rename_i he
      refine ⟨a0, rfl, fun hor => ?_⟩
      rcases hor with h3 | h3
      · rw [h3]; simp [Addr.add]
      · omega
    · exact ⟨_, rfl, fun _ => rfl⟩

theorem add_add' (a : Addr) (h : a.spot = none) (m n : Nat) : (a.add m).add n = a.add (m + n) := by
  obtain ⟨b, o, s⟩ := a
  simp only at h; subst h
  simp [Addr.add_lit, Nat.add_assoc]

theorem q_slice_ssub (t e : Nat) (x : Operand) (lo hi : Option Operand) (id sz off len : Nat) (l h : Int) (ht : elemOf' P t = some e) (hz : szOf P e ≠ 0) (hx : ρ x = .ssub id sz off len) (hsz : sz = szOf P e) (hl : bndV ρ lo 0 = some l) (hh : bndV ρ hi len = some h) :
    QOK P ρ hg (.slice t x lo hi none) ⟨.ssub id (szOf P e) (off + l.toNat) (h.toNat - l.toNat), [], 0 ≤ l ∧ l ≤ h ∧ h ≤ len⟩ := fun g ρc w o ho hcst hr _ _ hob => by
  have hxr := hr x (by simp [Op.operands])
  rw [hx] at hxr
  subst hsz
  obtain ⟨h0, h1, h2⟩ := hob
  have b1 := bnd_rel (g := g) (ρc := ρc) hl (fun y hy => hr y (by subst hy; simp [Op.operands]))
  have b2 := bnd_rel (g := g) (ρc := ρc) hh (fun y hy => hr y (by subst hy; simp [Op.operands]))
  rw [exec_slice ρc o t x lo hi none ho w (fun n e hu => by rw [under_slice ht] at hu; cases hu) (under_slice ht)]
  generalize hc : ρc x = c at hxr
  cases hxr with
  | @ssub _ _ _ _ m cap a a' hs hcap hk hle hn hs' =>
    refine ⟨_, exec_slice_at (P := P) (w := w) (a := a') (len := len) (cap := cap - off) ht hz b1 b2 h0 h1 (by omega), ?_⟩
    rw [Nat.sub_sub]
    refine .ssub hs hcap hk (by omega) (fun ha => by rw [hn ha]; split <;> rfl) (fun a0 ha => ?_)
    obtain ⟨ad, rfl, had⟩ := hs' a0 ha
    split
    · rename_i he
      refine ⟨ad, rfl, fun hor => ?_⟩
      rcases hor with h3 | h3
      · rw [had (.inl (by omega)), show off = 0 from by omega, show l.toNat = 0 from by omega]
      · omega
    · refine ⟨_, rfl, fun hor => ?_⟩
      by_cases hh0 : off = 0 ∨ 0 < len
      · rw [had hh0]
        by_cases hm : 0 < m
        · obtain ⟨k, _, hk2⟩ := hk hm
          rw [ha] at hk2; cases hk2
          simp [Addr.add_lit, Nat.add_mul]
        · have e1 : off = 0 := by omega
          have e2 : l.toNat = 0 := by omega
          simp [e1, e2, Addr.add]
      · omega

theorem q_slice_bsl (t e : Nat) (x : Operand) (lo hi : Option Operand) (id sz off len cap : Nat) (l h : Int) (ht : elemOf' P t = some e) (hz : szOf P e ≠ 0) (hx : ρ x = .bsl id sz off len cap) (hsz : sz = szOf P e) (hl : bndV ρ lo 0 = some l) (hh : bndV ρ hi len = some h) :
    QOK P ρ hg (.slice t x lo hi none) ⟨.bsl id (szOf P e) (off + l.toNat) (h.toNat - l.toNat) (cap - l.toNat), [], 0 ≤ l ∧ l ≤ h ∧ h ≤ len⟩ := fun g ρc w o ho hcst hr _ _ hob => by
  have hxr := hr x (by simp [Op.operands])
  rw [hx] at hxr
  subst hsz
  obtain ⟨h0, h1, h2⟩ := hob
  have b1 := bnd_rel (g := g) (ρc := ρc) hl (fun y hy => hr y (by subst hy; simp [Op.operands]))
  have b2 := bnd_rel (g := g) (ρc := ρc) hh (fun y hy => hr y (by subst hy; simp [Op.operands]))
  rw [exec_slice ρc o t x lo hi none ho w (fun n e hu => by rw [under_slice ht] at hu; cases hu) (under_slice ht)]
  generalize hc : ρc x = c at hxr
  cases hxr with
  | @bsl _ _ _ _ _ k' ad hk hcap had =>
    refine ⟨_, exec_slice_at (P := P) (w := w) (a := some ad) (len := len) (cap := cap) ht hz b1 b2 h0 h1 (by omega), ?_⟩
    have e3 : (if cap = l.toNat then some ad else (some ad).map fun x => x.add (l.toNat * szOf P e)) = some (if cap = l.toNat then ad else ad.add (l.toNat * szOf P e)) := by split <;> rfl
    rw [e3]
    refine .bsl hk (by omega) (fun hor => ?_)
    split
    · rename_i he
      rcases hor with h3 | h3
      · have e1 : off = 0 := by omega
        have e2 : l.toNat = 0 := by omega
        rw [had (.inl e1), e1, e2]
      · omega
    · by_cases hh0 : off = 0 ∨ 0 < len
      · rw [had hh0]; simp [Addr.add_lit, Nat.add_mul]
      · omega

theorem q_slice_00 (t e : Nat) (x h m : Operand) (nil : Bool) (es : List (List D)) (k k' : IntKind) (ht : elemOf' P t = some e) (hz : szOf P e ≠ 0) (hx : ρ x = .d (.slice nil es)) (hh : ρ h = .d (.int k 0)) (hm : ρ m = .d (.int k' 0)) :
    QOK P ρ hg (.slice t x none (some h) (some m)) ⟨.emp0 nil, [], True⟩ := fun g ρc w o ho hcst hr _ _ _ => by
  have hxr := hr x (by simp [Op.operands])
  have h1 := hr h (by simp [Op.operands])
  have h2 := hr m (by simp [Op.operands])
  rw [hx] at hxr
  rw [hh] at h1
  rw [hm] at h2
  rw [exec_slice ρc o t x none (some h) (some m) ho w (fun n e hu => by rw [under_slice ht] at hu; cases hu) (under_slice ht)]
  generalize hc : ρc x = c at hxr
  have hrun : ∀ (a : Option Addr) (len cap : Nat), c = .slice a len cap →
      ((Instr.slice t c (Option.map ρc none) (Option.map ρc (some h)) (Option.map ρc (some m))).run P w).andThen (fun v w => Result.ok (Next.value v) w) = Result.ok (Next.value (.slice a 0 0)) w := by
    intro a len cap hce
    subst hce
    simp [Instr.slice, run_underlying (under_slice ht), Instr.sliceBounds, rel_int h1, rel_int h2, run_sliceBound, run_sizeOf' rfl hz]
  cases hxr with
  | d hxr =>
    cases hxr with
    | nils => exact ⟨_, hrun _ _ _ rfl, .emp0t⟩
    | emp a cap => exact ⟨_, hrun _ _ _ rfl, .emp0f a⟩
    | slice sz _ b o' cap m hm hcap hlen hs hrel => exact ⟨_, hrun _ _ _ rfl, .emp0f _⟩
theorem q_slice_00_sref (t e : Nat) (x h m : Operand) (id len sz fz : Nat) (nil : Bool) (es : List (List D)) (k k' : IntKind) (ht : elemOf' P t = some e) (hz : szOf P e ≠ 0) (hx : ρ x = .sref id len) (hb : hg id = some (.row sz fz nil es)) (hh : ρ h = .d (.int k 0)) (hm : ρ m = .d (.int k' 0)) :
    QOK P ρ hg (.slice t x none (some h) (some m)) ⟨.emp0 nil, [id], True⟩ := fun g ρc w o ho hcst hr hbl _ _ => by
  have hxr := hr x (by simp [Op.operands])
  have h1 := hr h (by simp [Op.operands])
  have h2 := hr m (by simp [Op.operands])
  rw [hx] at hxr
  rw [hh] at h1
  rw [hm] at h2
  rw [exec_slice ρc o t x none (some h) (some m) ho w (fun n e hu => by rw [under_slice ht] at hu; cases hu) (under_slice ht)]
  generalize hc : ρc x = c at hxr
  have hblk := hbl id (by simp) _ hb
  have hrun : ∀ (a : Option Addr) (len cap : Nat), c = .slice a len cap →
      ((Instr.slice t c (Option.map ρc none) (Option.map ρc (some h)) (Option.map ρc (some m))).run P w).andThen (fun v w => Result.ok (Next.value v) w) = Result.ok (Next.value (.slice a 0 0)) w := by
    intro a len cap hce
    subst hce
    simp [Instr.slice, run_underlying (under_slice ht), Instr.sliceBounds, rel_int h1, rel_int h2, run_sliceBound, run_sizeOf' rfl hz]
  cases hxr with
  | @sref _ _ cap a hs hcap hk =>
    refine ⟨_, hrun _ _ _ rfl, ?_⟩
    cases nil with
    | true => have := (hblk.1 rfl).2.1; rw [hs] at this; cases this; exact .emp0t
    | false =>
      rcases hblk.2 rfl with ⟨_, _, _, a', h3⟩ | ⟨k', arr, ty, cap', _, h3, _⟩
      · rw [hs] at h3; cases h3; exact .emp0f _
      · rw [hs] at h3; cases h3; exact .emp0f _
end Go.Bv

namespace Go.Bv
variable {P : Program} {ρ : Operand → V} {hg : Nat → Option Blk}

theorem exec_bin {ρc : Operand → Value} {o : Oper} {op : BinOp} {t yt : TypeId} {x y : Operand} (ho : o.op = .binOp op t x y yt) (w : World) :
    (execOp ρc o).run P w = ((eqGuard op t x y (ρc x) (ρc y)).run P w).andThen fun _ w => ((binOp op t (ρc x) (ρc y)).run P w).andThen fun v w => Result.ok (Next.value v) w := by
  unfold execOp; rw [ho]
  simp only [Sem.run_bind, Sem.run_pure]
  cases (eqGuard op t x y (ρc x) (ρc y)).run P w <;> simp [Result.andThen]

def intBin (op : BinOp) (k : IntKind) (a b : Int) : Option (D × Prop) :=
  match op with
  | .add => some (.int k (k.wrap (a + b)), True)
  | .sub => some (.int k (k.wrap (a - b)), True)
  | .mul => some (.int k (k.wrap (a * b)), True)
  | .quo => some (.int k (k.wrap (a.tdiv b)), b ≠ 0)
  | .rem => some (.int k (a.tmod b), b ≠ 0)
  | .and => some (.int k (bits .and k a b), True)
  | .or => some (.int k (bits .or k a b), True)
  | .xor => some (.int k (bits .xor k a b), True)
  | .andNot => some (.int k (bits .andNot k a b), True)
  | .eql => some (.bool (decide (a = b)), True)
  | .neq => some (.bool (!decide (a = b)), True)
  | .lss => some (.bool (decide (a < b)), True)
  | .leq => some (.bool (decide (a ≤ b)), True)
  | .gtr => some (.bool (decide (b < a)), True)
  | .geq => some (.bool (decide (b ≤ a)), True)
  | .shl => some (.int k (k.wrap (a * 2 ^ (min b.toNat k.bits))), 0 ≤ b)
  | .shr => some (.int k (a / 2 ^ (min b.toNat k.bits)), 0 ≤ b)
theorem q_bin_int (op : BinOp) (t yt : TypeId) (x y : Operand) (k : IntKind) (a b : Int) (d : D) (ob : Prop) (hx : ρ x = .d (.int k a)) (hy : ρ y = .d (.int k b)) (h : intBin op k a b = some (d, ob)) :
    QOK P ρ hg (.binOp op t x y yt) ⟨.d d, [], ob⟩ := fun g ρc w o ho hcst hr _ _ hob => by
  have h1 := hr x (by simp [Op.operands])
  have h2 := hr y (by simp [Op.operands])
  rw [hx] at h1
  rw [hy] at h2
  have e1 := rel_int h1
  have e2 := rel_int h2
  rw [exec_bin ho, e1, e2, eqGuard_at_int]
  simp only [Sem.run_pure, Result.andThen_ok]
  cases op <;> simp only [intBin, Option.some.injEq, Prod.mk.injEq, reduceCtorEq] at h
  case add => obtain ⟨rfl, rfl⟩ := h; exact ⟨_, by rw [binOp_add]; rfl, .d (.int _ _)⟩
  case sub => obtain ⟨rfl, rfl⟩ := h; exact ⟨_, by rw [binOp_sub]; rfl, .d (.int _ _)⟩
  case mul => obtain ⟨rfl, rfl⟩ := h; exact ⟨_, by rw [binOp_mul]; rfl, .d (.int _ _)⟩
  case quo => obtain ⟨rfl, rfl⟩ := h; exact ⟨_, by rw [binOp_quo]; simp only [Op.intDiv]; rw [if_neg hob]; rfl, .d (.int _ _)⟩
  case rem => obtain ⟨rfl, rfl⟩ := h; exact ⟨_, by rw [binOp_rem]; simp only [Op.intDiv]; rw [if_neg hob]; rfl, .d (.int _ _)⟩
  case and => obtain ⟨rfl, rfl⟩ := h; exact ⟨_, by rw [binOp_and]; rfl, .d (.int _ _)⟩
  case or => obtain ⟨rfl, rfl⟩ := h; exact ⟨_, by rw [binOp_or]; rfl, .d (.int _ _)⟩
  case xor => obtain ⟨rfl, rfl⟩ := h; exact ⟨_, by rw [binOp_xor]; rfl, .d (.int _ _)⟩
  case andNot => obtain ⟨rfl, rfl⟩ := h; exact ⟨_, by rw [binOp_andNot]; rfl, .d (.int _ _)⟩
  case eql => obtain ⟨rfl, rfl⟩ := h; exact ⟨_, by rw [binOp_eql]; rfl, by rw [show (a == b) = decide (a = b) from rfl]; exact .d (.bool _)⟩
  case neq => obtain ⟨rfl, rfl⟩ := h; exact ⟨_, by rw [binOp_neq]; rfl, by rw [show (a != b) = !decide (a = b) from rfl]; exact .d (.bool _)⟩
  case lss => obtain ⟨rfl, rfl⟩ := h; exact ⟨_, by rw [binOp_lss]; rfl, .d (.bool _)⟩
  case leq => obtain ⟨rfl, rfl⟩ := h; exact ⟨_, by rw [binOp_leq]; rfl, .d (.bool _)⟩
  case gtr => obtain ⟨rfl, rfl⟩ := h; exact ⟨_, by rw [binOp_gtr]; rfl, .d (.bool _)⟩
  case geq => obtain ⟨rfl, rfl⟩ := h; exact ⟨_, by rw [binOp_geq]; rfl, .d (.bool _)⟩
  case shl => obtain ⟨rfl, rfl⟩ := h; exact ⟨_, by rw [binOp_shl]; simp only [Op.shift]; rw [if_neg (by omega)]; rfl, .d (.int _ _)⟩
  case shr =>
    obtain ⟨rfl, rfl⟩ := h
    refine ⟨_, by rw [binOp_shr]; simp only [Op.shift]; rw [if_neg (by omega)]; rfl, ?_⟩
    have hp : (0 : Int) ≤ 2 ^ (min b.toNat k.bits) := Int.pow_nonneg (by decide)
    rw [Int.fdiv_eq_ediv_of_nonneg _ hp]
    exact .d (.int _ _)

theorem q_bin_shift (op : BinOp) (t yt : TypeId) (x y : Operand) (k k' : IntKind) (a b : Int) (d : D) (ob : Prop) (hop : op = .shl ∨ op = .shr) (hx : ρ x = .d (.int k a)) (hy : ρ y = .d (.int k' b)) (h : intBin op k a b = some (d, ob)) :
    QOK P ρ hg (.binOp op t x y yt) ⟨.d d, [], ob⟩ := fun g ρc w o ho hcst hr _ _ hob => by
  have h1 := hr x (by simp [Op.operands])
  have h2 := hr y (by simp [Op.operands])
  rw [hx] at h1
  rw [hy] at h2
  have e1 := rel_int h1
  have e2 := rel_int h2
  rw [exec_bin ho, e1, e2, eqGuard_at_int]
  simp only [Sem.run_pure, Result.andThen_ok]
  rcases hop with rfl | rfl
  · simp only [intBin, Option.some.injEq, Prod.mk.injEq] at h
    obtain ⟨rfl, rfl⟩ := h
    exact ⟨_, by rw [binOp_shl]; simp only [Op.shift]; rw [if_neg (by omega)]; rfl, .d (.int _ _)⟩
  · simp only [intBin, Option.some.injEq, Prod.mk.injEq] at h
    obtain ⟨rfl, rfl⟩ := h
    refine ⟨_, by rw [binOp_shr]; simp only [Op.shift]; rw [if_neg (by omega)]; rfl, ?_⟩
    have hp : (0 : Int) ≤ 2 ^ (min b.toNat k.bits) := Int.pow_nonneg (by decide)
    rw [Int.fdiv_eq_ediv_of_nonneg _ hp]
    exact .d (.int _ _)

theorem bytes_eq (a b : List UInt8) : ((⟨a.toArray⟩ : ByteArray).toList == (⟨b.toArray⟩ : ByteArray).toList) = decide (a = b) := by
  rw [ByteArray.toList_eq, ByteArray.toList_eq, Bool.eq_iff_iff]
  simp
def strBin (op : BinOp) (a b : List UInt8) : Option (D × Prop) :=
  match op with
  | .add => some (.str (a ++ b), a.length + b.length ≤ 9223372036854775807)
  | .eql => some (.bool (decide (a = b)), True)
  | .neq => some (.bool (!decide (a = b)), True)
  | .lss => some (.bool (Op.bytesLess a b), True)
  | _ => none
theorem q_bin_str (op : BinOp) (t yt : TypeId) (x y : Operand) (a b : List UInt8) (d : D) (ob : Prop) (hx : ρ x = .d (.str a)) (hy : ρ y = .d (.str b)) (h : strBin op a b = some (d, ob)) :
    QOK P ρ hg (.binOp op t x y yt) ⟨.d d, [], ob⟩ := fun g ρc w o ho hcst hr _ _ hob => by
  have h1 := hr x (by simp [Op.operands])
  have h2 := hr y (by simp [Op.operands])
  rw [hx] at h1
  rw [hy] at h2
  have e1 := rel_str h1
  have e2 := rel_str h2
  rw [exec_bin ho, e1, e2, eqGuard_at_string]
  simp only [Sem.run_pure, Result.andThen_ok]
  have hbin : binOp op t (.string ⟨a.toArray⟩) (.string ⟨b.toArray⟩) = Op.stringOp op ⟨a.toArray⟩ ⟨b.toArray⟩ := by cases op <;> rfl
  rw [hbin]
  have hsa : (⟨a.toArray⟩ : ByteArray).size = a.length := by show a.toArray.size = _; simp
  have hsb : (⟨b.toArray⟩ : ByteArray).size = b.length := by show b.toArray.size = _; simp
  cases op <;> simp only [strBin, Option.some.injEq, Prod.mk.injEq, reduceCtorEq] at h
  case add =>
    obtain ⟨rfl, rfl⟩ := h
    refine ⟨.string ⟨(a ++ b).toArray⟩, ?_, .d (.str _)⟩
    simp only [Op.stringOp, hsa, hsb]
    rw [if_neg (by rw [IntKind.max_i64]; omega)]
    have : (⟨a.toArray⟩ ++ ⟨b.toArray⟩ : ByteArray) = ⟨(a ++ b).toArray⟩ := by
      apply ByteArray.ext
      simp
    rw [this]; rfl
  case eql =>
    obtain ⟨rfl, rfl⟩ := h
    refine ⟨_, rfl, ?_⟩
    rw [bytes_eq]; exact .d (.bool _)
  case neq =>
    obtain ⟨rfl, rfl⟩ := h
    refine ⟨_, rfl, ?_⟩
    rw [bytes_eq]; exact .d (.bool _)
  case lss =>
    obtain ⟨rfl, rfl⟩ := h
    refine ⟨_, rfl, ?_⟩
    rw [ByteArray.toList_eq, ByteArray.toList_eq]; exact .d (.bool _)

theorem q_bin_bool (op : BinOp) (t yt : TypeId) (x y : Operand) (a b : Bool) (c : Bool) (ht : P.underlying t = some .bool) (hx : ρ x = .d (.bool a)) (hy : ρ y = .d (.bool b))
    (h : (op = .eql ∧ c = (a == b)) ∨ (op = .neq ∧ c = !(a == b))) : QOK P ρ hg (.binOp op t x y yt) ⟨.d (.bool c), [], True⟩ := fun g ρc w o ho hcst hr _ _ _ => by
  have h1 := hr x (by simp [Op.operands])
  have h2 := hr y (by simp [Op.operands])
  rw [hx] at h1
  rw [hy] at h2
  have e1 := rel_bool h1
  have e2 := rel_bool h2
  rw [exec_bin ho, e1, e2, eqGuard_at_bool]
  simp only [Sem.run_pure, Result.andThen_ok]
  rcases h with ⟨rfl, rfl⟩ | ⟨rfl, rfl⟩
  · exact ⟨_, by rw [run_eql_bool w t a b ht]; rfl, .d (.bool _)⟩
  · exact ⟨_, by rw [run_neq_bool w t a b ht]; rfl, .d (.bool _)⟩

def nilOf : V → Option (Nat × Bool)
  | .d (.slice nil _) => some (0, nil)
  | .emp0 nil => some (0, nil)
  | .bsl .. => some (0, false)
  | .d .nilp => some (1, true)
  | .ptr _ _ => some (1, false)
  | .rptr .. => some (1, false)
  | .eptr .. => some (1, false)
  | .d .nili => some (2, true)
  | .d (.iface _ _) => some (2, false)
  | .iface _ _ => some (2, false)
  | .d .nilf => some (3, true)
  | .fn .. => some (3, false)
  | _ => none
def nilLit : Value → Option Nat
  | .slice none 0 0 => some 0
  | .pointer none => some 1
  | .nilIface => some 2
  | .nilFunc => some 3
  | _ => none
def nilTy (P : Program) (t : TypeId) : Option Nat :=
  match P.underlying t with
  | some (.slice _) => some 0
  | some (.pointer _) => some 1
  | some (.interface _) => some 2
  | some (.func ..) => some 3
  | _ => none
def nilVal (k : Nat) (c : Value) (b : Bool) : Prop :=
  (k = 0 ∧ ∃ a n m, c = .slice a n m ∧ b = a.isNone) ∨ (k = 1 ∧ ∃ a, c = .pointer a ∧ b = a.isNone) ∨ (k = 2 ∧ ((c = .nilIface ∧ b = true) ∨ ∃ t x, c = .iface t x ∧ b = false)) ∨
    (k = 3 ∧ ((c = .nilFunc ∧ b = true) ∨ ∃ f x y, c = .func f x y ∧ b = false))
theorem nil_rel {g : Gh} {v : V} {c : Value} {k : Nat} {b : Bool} (h : RelV g v c) (hn : nilOf v = some (k, b)) : nilVal k c b := by
  cases h with
  | d h =>
    cases h with
    | nils => cases hn; exact .inl ⟨rfl, _, _, _, rfl, rfl⟩
    | emp a cap => cases hn; exact .inl ⟨rfl, _, _, _, rfl, rfl⟩
    | slice sz es b o cap m hm hc hl hs hr => cases hn; exact .inl ⟨rfl, _, _, _, rfl, rfl⟩
    | nilp => cases hn; exact .inr (.inl ⟨rfl, _, rfl, rfl⟩)
    | nili => cases hn; exact .inr (.inr (.inl ⟨rfl, .inl ⟨rfl, rfl⟩⟩))
    | iface t h => cases hn; exact .inr (.inr (.inl ⟨rfl, .inr ⟨_, _, rfl, rfl⟩⟩))
    | nilf => cases hn; exact .inr (.inr (.inr ⟨rfl, .inl ⟨rfl, rfl⟩⟩))
    | _ => simp [nilOf] at hn
  | iface t h => cases hn; exact .inr (.inr (.inl ⟨rfl, .inr ⟨_, _, rfl, rfl⟩⟩))
  | ptr h => cases hn; exact .inr (.inl ⟨rfl, _, rfl, rfl⟩)
  | rptr h => cases hn; exact .inr (.inl ⟨rfl, _, rfl, rfl⟩)
  | eptr e off b o hs hr => cases hn; exact .inr (.inl ⟨rfl, _, rfl, rfl⟩)
  | fn f a c fs cs h1 h2 h3 h4 => cases hn; exact .inr (.inr (.inr ⟨rfl, .inr ⟨_, _, _, rfl, rfl⟩⟩))
  | emp0t => cases hn; exact .inl ⟨rfl, _, _, _, rfl, rfl⟩
  | emp0f a => cases hn; exact .inl ⟨rfl, _, _, _, rfl, rfl⟩
  | bsl h1 h2 h3 => cases hn; exact .inl ⟨rfl, _, _, _, rfl, rfl⟩
  | _ => simp [nilOf] at hn
theorem equalIn_nil {t : TypeId} {c z : Value} {k d : Nat} {b : Bool} {w : World} (ht : nilTy P t = some k) (hc : nilVal k c b) (hz : nilLit z = some k) : (Op.equalIn (d + 1) t c z).run P w = .ok b w := by
  unfold nilTy at ht
  unfold nilLit at hz
  split at ht
  · rename_i e he
    cases ht
    split at hz <;> first | (cases hz; done) | skip
    rcases hc with ⟨_, a, n, m, rfl, rfl⟩ | ⟨h, _⟩ | ⟨h, _⟩ | ⟨h, _⟩ <;> first | (cases h; done) | skip
    cases a <;> simp [Op.equalIn, run_underlying he]
  · rename_i e he
    cases ht
    split at hz <;> first | (cases hz; done) | skip
    rcases hc with ⟨h, _⟩ | ⟨_, a, rfl, rfl⟩ | ⟨h, _⟩ | ⟨h, _⟩ <;> first | (cases h; done) | skip
    cases a <;> simp [Op.equalIn, run_underlying he]
  · rename_i e he
    cases ht
    split at hz <;> first | (cases hz; done) | skip
    rcases hc with ⟨h, _⟩ | ⟨h, _⟩ | ⟨_, ⟨rfl, rfl⟩ | ⟨t', x, rfl, rfl⟩⟩ | ⟨h, _⟩ <;> first | (cases h; done) | skip
    · simp [Op.equalIn, run_underlying he]
    · simp [Op.equalIn, run_underlying he]
  · rename_i e he
    cases ht
    split at hz <;> first | (cases hz; done) | skip
    rcases hc with ⟨h, _⟩ | ⟨h, _⟩ | ⟨h, _⟩ | ⟨_, ⟨rfl, rfl⟩ | ⟨f, x, y, rfl, rfl⟩⟩ <;> first | (cases h; done) | skip
    · simp [Op.equalIn, run_underlying he]
    · simp [Op.equalIn, run_underlying he]
  · cases ht
theorem run_equal_nil {t : TypeId} {c z : Value} {k : Nat} {b : Bool} {w : World} (ht : nilTy P t = some k) (hc : nilVal k c b) (hz : nilLit z = some k) : (Op.equal t c z).run P w = .ok b w := by
  show (Op.equalIn (9999 + 1) t c z).run P w = _
  exact equalIn_nil ht hc hz
theorem bin_eql_nil {t : TypeId} {c z : Value} {k : Nat} {b : Bool} {w : World} (ht : nilTy P t = some k) (hc : nilVal k c b) (hz : nilLit z = some k) : (binOp .eql t c z).run P w = .ok (.bool b) w := by
  have h : (binOp .eql t c z).run P w = ((Op.equal t c z).run P w).andThen fun b w => .ok (.bool b) w := by
    unfold nilLit at hz
    split at hz <;> first | (cases hz; done) | skip
    all_goals
      cases hz
      rcases hc with ⟨h, a, n, m, rfl, rfl⟩ | ⟨h, a, rfl, rfl⟩ | ⟨h, ⟨rfl, rfl⟩ | ⟨t', x, rfl, rfl⟩⟩ | ⟨h, ⟨rfl, rfl⟩ | ⟨f, x, y, rfl, rfl⟩⟩ <;> first | (cases h; done) | skip
      all_goals (simp only [binOp, Sem.run_bind]; rfl)
  rw [h, run_equal_nil ht hc hz]; rfl
theorem bin_neq_nil {t : TypeId} {c z : Value} {k : Nat} {b : Bool} {w : World} (ht : nilTy P t = some k) (hc : nilVal k c b) (hz : nilLit z = some k) : (binOp .neq t c z).run P w = .ok (.bool !b) w := by
  have h : (binOp .neq t c z).run P w = ((Op.equal t c z).run P w).andThen fun b w => .ok (.bool !b) w := by
    unfold nilLit at hz
    split at hz <;> first | (cases hz; done) | skip
    all_goals
      cases hz
      rcases hc with ⟨h, a, n, m, rfl, rfl⟩ | ⟨h, a, rfl, rfl⟩ | ⟨h, ⟨rfl, rfl⟩ | ⟨t', x, rfl, rfl⟩⟩ | ⟨h, ⟨rfl, rfl⟩ | ⟨f, x, y, rfl, rfl⟩⟩ <;> first | (cases h; done) | skip
      all_goals (simp only [binOp, Sem.run_bind]; rfl)
  rw [h, run_equal_nil ht hc hz]; rfl
theorem guard_nil {t : TypeId} {c z : Value} {k : Nat} {b : Bool} {w : World} (op : BinOp) (x : Operand) (hc : nilVal k c b) (hz : nilLit z = some k) : (eqGuard op t x (.const z) c z).run P w = .ok () w := by
  unfold nilLit at hz
  split at hz <;> first | (cases hz; done) | skip
  all_goals
    cases hz
    rcases hc with ⟨h, a, n, m, rfl, rfl⟩ | ⟨h, a, rfl, rfl⟩ | ⟨h, ⟨rfl, rfl⟩ | ⟨t', x, rfl, rfl⟩⟩ | ⟨h, ⟨rfl, rfl⟩ | ⟨f, x, y, rfl, rfl⟩⟩ <;> first | (cases h; done) | skip
  · rw [eqGuard_at_slice]; rfl
  · rw [eqGuard_at_pointer]; rfl
  · rw [eqGuard_nil_constR]; rfl
  · rw [eqGuard_at_iface]; rfl
  · rw [eqGuard_at_nilFunc]; rfl
  · rw [eqGuard_at_func]; rfl
theorem q_eql_nil (t yt : TypeId) (x : Operand) (z : Value) (k : Nat) (b : Bool) (ht : nilTy P t = some k) (hx : nilOf (ρ x) = some (k, b)) (hz : nilLit z = some k) :
    QOK P ρ hg (.binOp .eql t x (.const z) yt) ⟨.d (.bool b), [], True⟩ := fun g ρc w o ho hcst hr _ _ _ => by
  have hc := nil_rel (hr x (by simp [Op.operands])) hx
  refine ⟨.bool b, ?_, .d (.bool b)⟩
  rw [exec_bin ho, hcst, guard_nil .eql x hc hz]
  simp only [Result.andThen_ok, bin_eql_nil ht hc hz]
theorem q_neq_nil (t yt : TypeId) (x : Operand) (z : Value) (k : Nat) (b : Bool) (ht : nilTy P t = some k) (hx : nilOf (ρ x) = some (k, b)) (hz : nilLit z = some k) :
    QOK P ρ hg (.binOp .neq t x (.const z) yt) ⟨.d (.bool !b), [], True⟩ := fun g ρc w o ho hcst hr _ _ _ => by
  have hc := nil_rel (hr x (by simp [Op.operands])) hx
  refine ⟨.bool !b, ?_, .d (.bool _)⟩
  rw [exec_bin ho, hcst, guard_nil .neq x hc hz]
  simp only [Result.andThen_ok, bin_neq_nil ht hc hz]

theorem q_eql_nil_sref (t yt : TypeId) (x : Operand) (id n sz fz : Nat) (nil : Bool) (es : List (List D)) (ht : nilTy P t = some 0) (hx : ρ x = .sref id n) (hb : hg id = some (.row sz fz nil es)) :
    QOK P ρ hg (.binOp .eql t x (.const (.slice none 0 0)) yt) ⟨.d (.bool nil), [id], True⟩ ∧ QOK P ρ hg (.binOp .neq t x (.const (.slice none 0 0)) yt) ⟨.d (.bool !nil), [id], True⟩ := by
  have key : ∀ (g : Gh) (w : World) (c : Value), RelV g (.sref id n) c → BlkRel g w id (.row sz fz nil es) → nilVal 0 c nil := by
    intro g w c hv hblk
    cases hv with
    | @sref _ _ cap a hs hcap hk =>
      cases nil with
      | true => have := (hblk.1 rfl).2.1; rw [hs] at this; cases this; exact .inl ⟨rfl, _, _, _, rfl, rfl⟩
      | false =>
        rcases hblk.2 rfl with ⟨_, _, _, a', h3⟩ | ⟨k', arr, ty, cap', _, h3, _⟩
        · rw [hs] at h3; cases h3; exact .inl ⟨rfl, _, _, _, rfl, rfl⟩
        · rw [hs] at h3; cases h3; exact .inl ⟨rfl, _, _, _, rfl, rfl⟩
  constructor
  · intro g ρc w o ho hcst hr hbl _ _
    have h1 := hr x (by simp [Op.operands])
    rw [hx] at h1
    have hc := key g w _ h1 (hbl id (by simp) _ hb)
    refine ⟨.bool nil, ?_, .d (.bool _)⟩
    rw [exec_bin ho, hcst, guard_nil .eql x hc rfl]
    simp only [Result.andThen_ok, bin_eql_nil ht hc (show nilLit (.slice none 0 0) = some 0 from rfl)]
  · intro g ρc w o ho hcst hr hbl _ _
    have h1 := hr x (by simp [Op.operands])
    rw [hx] at h1
    have hc := key g w _ h1 (hbl id (by simp) _ hb)
    refine ⟨.bool !nil, ?_, .d (.bool _)⟩
    rw [exec_bin ho, hcst, guard_nil .neq x hc rfl]
    simp only [Result.andThen_ok, bin_neq_nil ht hc (show nilLit (.slice none 0 0) = some 0 from rfl)]

theorem exec_un {ρc : Operand → Value} {o : Oper} {op : UnOp} {t : TypeId} {x : Operand} (ho : o.op = .unOp op t x) (w : World) :
    (execOp ρc o).run P w = ((Op.unary op (ρc x)).run P w).andThen fun v w => Result.ok (Next.value v) w := by
  unfold execOp; rw [ho]
  simp only [Sem.run_bind, Sem.run_pure]
theorem q_not (t : TypeId) (x : Operand) (b : Bool) (hx : ρ x = .d (.bool b)) : QOK P ρ hg (.unOp .not t x) ⟨.d (.bool !b), [], True⟩ := fun g ρc w o ho hcst hr _ _ _ => by
  have h1 := hr x (by simp [Op.operands])
  rw [hx] at h1
  exact ⟨.bool !b, by rw [exec_un ho, rel_bool h1]; rfl, .d (.bool _)⟩
theorem q_neg (t : TypeId) (x : Operand) (k : IntKind) (n : Int) (hx : ρ x = .d (.int k n)) : QOK P ρ hg (.unOp .neg t x) ⟨.d (.int k (k.wrap (0 - n))), [], True⟩ := fun g ρc w o ho hcst hr _ _ _ => by
  have h1 := hr x (by simp [Op.operands])
  rw [hx] at h1
  exact ⟨.int k (k.wrap (0 - n)), by rw [exec_un ho, rel_int h1]; rfl, .d (.int _ _)⟩
theorem q_compl (t : TypeId) (x : Operand) (k : IntKind) (n : Int) (hx : ρ x = .d (.int k n)) : QOK P ρ hg (.unOp .xor t x) ⟨.d (.int k (bits .xor k (if k.signed then -1 else k.max) n)), [], True⟩ := fun g ρc w o ho hcst hr _ _ _ => by
  have h1 := hr x (by simp [Op.operands])
  rw [hx] at h1
  exact ⟨.int k (bits .xor k (if k.signed then -1 else k.max) n), by rw [exec_un ho, rel_int h1]; rfl, .d (.int _ _)⟩

theorem exec_conv {ρc : Operand → Value} {o : Oper} {s t : TypeId} {x : Operand} (ho : o.op = .convert s t x) (w : World) :
    (execOp ρc o).run P w = ((convert s t (ρc x)).run P w).andThen fun v w => Result.ok (Next.value v) w := by
  unfold execOp; rw [ho]
  simp only [Sem.run_bind, Sem.run_pure]
theorem q_conv_int (s t : TypeId) (x : Operand) (k k' : IntKind) (n : Int) (hs : (P.underlying s).isSome = true) (ht : intOf' P t = some k') (hx : ρ x = .d (.int k n)) :
    QOK P ρ hg (.convert s t x) ⟨.d (.int k' (k'.wrap n)), [], True⟩ := fun g ρc w o ho hcst hr _ _ _ => by
  have h1 := hr x (by simp [Op.operands])
  rw [hx] at h1
  refine ⟨.int k' (k'.wrap n), ?_, .d (.int _ _)⟩
  obtain ⟨d, hd⟩ := Option.isSome_iff_exists.1 hs
  rw [exec_conv ho, rel_int h1]
  simp [convert, run_underlying hd, run_underlying (under_int ht), Conv.intToInt]
theorem q_conv_runestr (s t : TypeId) (x : Operand) (k k' : IntKind) (n : Int) (hs : intOf' P s = some k') (ht : isStr P t = true) (hx : ρ x = .d (.int k n)) :
    QOK P ρ hg (.convert s t x) ⟨.d (.str (Utf8.encode n).data.toList), [], True⟩ := fun g ρc w o ho hcst hr _ _ _ => by
  have h1 := hr x (by simp [Op.operands])
  rw [hx] at h1
  refine ⟨.string (Utf8.encode n), ?_, .d (.str _)⟩
  rw [exec_conv ho, rel_int h1]
  simp [convert, run_underlying (under_int hs), run_underlying (under_str ht), Conv.intToString]
theorem q_conv_str (s t : TypeId) (x : Operand) (l : List UInt8) (hs : isStr P s = true) (ht : isStr P t = true) (hx : ρ x = .d (.str l)) :
    QOK P ρ hg (.convert s t x) ⟨.d (.str l), [], True⟩ := fun g ρc w o ho hcst hr _ _ _ => by
  have h1 := hr x (by simp [Op.operands])
  rw [hx] at h1
  refine ⟨.string ⟨l.toArray⟩, ?_, .d (.str _)⟩
  rw [exec_conv ho, rel_str h1]
  simp [convert, run_underlying (under_str hs), run_underlying (under_str ht)]

theorem exec_assert {ρc : Operand → Value} {o : Oper} {xt t : TypeId} {x : Operand} {ok : Bool} (ho : o.op = .typeAssert x xt t ok) (w : World) :
    (execOp ρc o).run P w = ((Instr.typeAssert (ρc x) xt t ok).run P w).andThen fun v w => Result.ok (Next.value v) w := by
  unfold execOp; rw [ho]
  simp only [Sem.run_bind, Sem.run_pure]
def ifaceOf : V → Option (TypeId × V)
  | .d (.iface t x) => some (t, .d x)
  | .iface t v => some (t, v)
  | _ => none
theorem iface_rel {g : Gh} {v v' : V} {c : Value} {t : TypeId} (h : RelV g v c) (hv : ifaceOf v = some (t, v')) : ∃ c', c = .iface t c' ∧ RelV g v' c' := by
  cases h with
  | d h => cases h with
    | iface t h => cases hv; exact ⟨_, rfl, .d h⟩
    | _ => simp [ifaceOf] at hv
  | iface t h => cases hv; exact ⟨_, rfl, h⟩
  | _ => simp [ifaceOf] at hv
theorem q_assert_yes (xt t : TypeId) (x : Operand) (v : V) (ht : isIfc P t = some false) (hx : ifaceOf (ρ x) = some (t, v)) :
    QOK P ρ hg (.typeAssert x xt t true) ⟨.tup [v, .d (.bool true)], [], True⟩ := fun g ρc w o ho hcst hr _ _ _ => by
  obtain ⟨c, hc, hrel⟩ := iface_rel (hr x (by simp [Op.operands])) hx
  obtain ⟨d, hd, hno⟩ := under_ifc ht
  refine ⟨.tuple #[c, .bool true], ?_, .tup _ _ rfl (fun i v' c' h1 h2 => ?_)⟩
  · rw [exec_assert ho, hc]
    simp only [Instr.typeAssert, Sem.run_bind, run_underlying hd, Result.andThen_ok]
    cases d <;> first | exact absurd rfl (hno _) | simp
  · match i with
    | 0 => simp at h1 h2; subst h1; subst h2; exact hrel
    | 1 => simp at h1 h2; subst h1; subst h2; exact .d (.bool _)
    | i + 2 => simp at h1
theorem q_assert_no (xt t t' : TypeId) (x : Operand) (v : V) (z : Value) (ht : isIfc P t = some false) (hz : zeroOf P t = some z) (hx : ifaceOf (ρ x) = some (t', v)) (hne : (t' == t) = false) :
    QOK P ρ hg (.typeAssert x xt t true) ⟨.tup [constV z, .d (.bool false)], [], True⟩ := fun g ρc w o ho hcst hr _ _ _ => by
  obtain ⟨c, hc, hrel⟩ := iface_rel (hr x (by simp [Op.operands])) hx
  obtain ⟨d, hd, hno⟩ := under_ifc ht
  have hne' : ¬ t' = t := by simpa using hne
  refine ⟨.tuple #[z, .bool false], ?_, .tup _ _ rfl (fun i v' c' h1 h2 => ?_)⟩
  · rw [exec_assert ho, hc]
    simp only [Instr.typeAssert, Sem.run_bind, run_underlying hd, Result.andThen_ok]
    cases d <;> first | exact absurd rfl (hno _) | simp [hne', run_zero' hz]
  · match i with
    | 0 => simp at h1 h2; subst h1; subst h2; exact constV_rel g z
    | 1 => simp at h1 h2; subst h1; subst h2; exact .d (.bool _)
    | i + 2 => simp at h1
end Go.Bv

namespace Go.Bv
variable {P : Program} {ops : Array Oper} {o : Oper} {T : VS}

theorem StepOK.of_val {e : Eff} (hd : ∀ d, o.dst = some d → d < T.N) (hnd : ∀ c, o.op ≠ .defer c)
    (h : ∀ (s : VS), Agree ops s T o (.run e) → ∀ (E : Ent) (g : Gh) (a : Act) (w : World), E.na ≤ s.nx → Inv E g s a w → (∀ x, x ∈ o.op.operands → RelV g (evalV T.tm x) (a.eval x)) →
      ∃ c w' g', (execOp a.eval o).run P w = .ok (.value c) w' ∧ RelV g' e.val c ∧ Inv E g' (s.mem e) a w') : StepOK P ops o e T := by
  intro s ha ro E g a w n K Q hna hi hK
  have hev : ∀ x, x ∈ o.op.operands → RelV g (evalV T.tm x) (a.eval x) := fun x hx => by
    have h1 := hi.toRelS.eval x
    cases x with
    | tmp t =>
      have ht : t ∈ o.looksAt ops := by
        simp only [Oper.looksAt, List.mem_append, List.mem_filterMap]
        exact .inl ⟨.tmp t, by simpa using hx, rfl⟩
      simp only [evalV] at h1 ⊢
      rw [← ha.tm t ht]; exact h1
    | const v => exact h1
    | global g => exact h1
    | func f => exact h1
  obtain ⟨c, w', g', hrun, hrel, hinv⟩ := h s ha E g a w hna hi hev
  refine ⟨fun _ _ => trivial, ?_⟩
  rw [Oper.semAt_eq _ _ _ hnd, hrun]
  simp only [Oper.uponIn]
  refine hK g' _ w' ?_
  unfold VS.app
  cases hdd : o.dst with
  | none => exact hinv
  | some d => exact hinv.put hrel (by have := hd d hdd; show d < s.N; rw [ha.N]; exact this)
theorem StepOK.of_skip {e : Eff} (hd : ∀ d, o.dst = some d → d < T.N) (hnd : ∀ c, o.op ≠ .defer c) (hv : e.val = .junk)
    (h : ∀ (s : VS), Agree ops s T o (.run e) → ∀ (E : Ent) (g : Gh) (a : Act) (w : World), E.na ≤ s.nx → Inv E g s a w → (∀ x, x ∈ o.op.operands → RelV g (evalV T.tm x) (a.eval x)) →
      ∃ w' g', (execOp a.eval o).run P w = .ok .skip w' ∧ Inv E g' (s.mem e) a w') : StepOK P ops o e T := by
  intro s ha ro E g a w n K Q hna hi hK
  have hev : ∀ x, x ∈ o.op.operands → RelV g (evalV T.tm x) (a.eval x) := fun x hx => by
    have h1 := hi.toRelS.eval x
    cases x with
    | tmp t =>
      have ht : t ∈ o.looksAt ops := by
        simp only [Oper.looksAt, List.mem_append, List.mem_filterMap]
        exact .inl ⟨.tmp t, by simpa using hx, rfl⟩
      simp only [evalV] at h1 ⊢
      rw [← ha.tm t ht]; exact h1
    | const v => exact h1
    | global g => exact h1
    | func f => exact h1
  obtain ⟨w', g', hrun, hinv⟩ := h s ha E g a w hna hi hev
  refine ⟨fun _ _ => trivial, ?_⟩
  rw [Oper.semAt_eq _ _ _ hnd, hrun]
  simp only [Oper.uponIn]
  refine hK g' _ w' ?_
  unfold VS.app
  rw [hv]
  cases hdd : o.dst with
  | none => exact hinv
  | some d => exact hinv.put (.junk _) (by have := hd d hdd; show d < s.N; rw [ha.N]; exact this)

def cellOk : V → Bool
  | .junk => false
  | .agg _ => false
  | .tup _ => false
  | _ => true
theorem cellOk_one {g : Gh} {v : V} {c : Value} (h : RelV g v c) (hv : cellOk v = true) : c.oneCell' = true := by
  cases h with
  | junk => cases hv
  | agg => cases hv
  | tup => cases hv
  | d h => exact h.one
  | _ => rfl
def cellsV : V → Option (List V)
  | .agg cs => if cs.all cellOk = true then some cs else none
  | v => if cellOk v = true then some [v] else none
theorem cells_rel {g : Gh} {v : V} {c : Value} {vs : List V} (h : RelV g v c) (hv : cellsV v = some vs) :
    c.cells.size = vs.length ∧ ∀ (i : Nat) (v : V) (x : Value), vs[i]? = some v → c.cells[i]? = some x → RelV g v x ∧ x.oneCell' = true := by
  have one : cellsV v = (if cellOk v = true then some [v] else none) → c.oneCell' = true ∨ True → cellOk v = true → c.cells.size = 1 → c.cells = #[c] → vs = [v] →
      c.cells.size = vs.length ∧ ∀ (i : Nat) (v : V) (x : Value), vs[i]? = some v → c.cells[i]? = some x → RelV g v x ∧ x.oneCell' = true := by
    intro _ _ hok _ hcells hvs
    subst hvs
    rw [hcells]
    refine ⟨rfl, fun i v' x h1 h2 => ?_⟩
    cases i with
    | zero => simp at h1 h2; subst h1; subst h2; exact ⟨h, cellOk_one h hok⟩
    | succ i => simp at h1
  cases h with
  | agg cs arr h1 h2 =>
    simp only [cellsV] at hv
    split at hv
    · rename_i hall
      cases hv
      refine ⟨h1, fun i v x hi hx => ⟨h2 i v x hi hx, cellOk_one (h2 i v x hi hx) ?_⟩⟩
      exact List.all_eq_true.1 hall v (List.mem_of_getElem? hi)
    · cases hv
  | junk => simp [cellsV, cellOk] at hv
  | tup => simp [cellsV, cellOk] at hv
  | d hd =>
    simp only [cellsV, cellOk, if_true, Option.some.injEq] at hv
    have h1 := hd.one
    have hc : c.cells = #[c] := by cases hd <;> rfl
    exact one rfl (.inr trivial) rfl (by rw [hc]; rfl) hc hv.symm
  | ptr h => simp only [cellsV, cellOk, if_true, Option.some.injEq] at hv; exact one rfl (.inr trivial) rfl rfl rfl hv.symm
  | rptr h => simp only [cellsV, cellOk, if_true, Option.some.injEq] at hv; exact one rfl (.inr trivial) rfl rfl rfl hv.symm
  | eptr e off b o hs hr => simp only [cellsV, cellOk, if_true, Option.some.injEq] at hv; exact one rfl (.inr trivial) rfl rfl rfl hv.symm
  | sref hs hc h0 => simp only [cellsV, cellOk, if_true, Option.some.injEq] at hv; exact one rfl (.inr trivial) rfl rfl rfl hv.symm
  | ssub hs hc h0 h1 h2 h3 => simp only [cellsV, cellOk, if_true, Option.some.injEq] at hv; exact one rfl (.inr trivial) rfl rfl rfl hv.symm
  | emp0t => simp only [cellsV, cellOk, if_true, Option.some.injEq] at hv; exact one rfl (.inr trivial) rfl rfl rfl hv.symm
  | emp0f a => simp only [cellsV, cellOk, if_true, Option.some.injEq] at hv; exact one rfl (.inr trivial) rfl rfl rfl hv.symm
  | bsl hk hc ha => simp only [cellsV, cellOk, if_true, Option.some.injEq] at hv; exact one rfl (.inr trivial) rfl rfl rfl hv.symm
  | mapr h => simp only [cellsV, cellOk, if_true, Option.some.injEq] at hv; exact one rfl (.inr trivial) rfl rfl rfl hv.symm
  | iter h => simp only [cellsV, cellOk, if_true, Option.some.injEq] at hv; exact one rfl (.inr trivial) rfl rfl rfl hv.symm
  | yld h => simp only [cellsV, cellOk, if_true, Option.some.injEq] at hv; exact one rfl (.inr trivial) rfl rfl rfl hv.symm
  | glo n off => simp only [cellsV, cellOk, if_true, Option.some.injEq] at hv; exact one rfl (.inr trivial) rfl rfl rfl hv.symm
  | fn f a c' fs cs h1 h2 h3 h4 => simp only [cellsV, cellOk, if_true, Option.some.injEq] at hv; exact one rfl (.inr trivial) rfl rfl rfl hv.symm
  | iface t h => simp only [cellsV, cellOk, if_true, Option.some.injEq] at hv; exact one rfl (.inr trivial) rfl rfl rfl hv.symm

def CellsRel (g : Gh) (arr : Array Value) (cs : List V) : Prop := arr.size = cs.length ∧ ∀ (i : Nat) (v : V) (c : Value), cs[i]? = some v → arr[i]? = some c → RelV g v c ∧ c.oneCell' = true

def setAll : List V → Nat → List V → List V
  | cs, _, [] => cs
  | [], _, _ => []
  | _ :: cs, 0, v :: vs => v :: setAll cs 0 vs
  | c :: cs, o + 1, v :: vs => c :: setAll cs o (v :: vs)
theorem setAll_len : ∀ (cs : List V) (o : Nat) (vs : List V), (setAll cs o vs).length = cs.length := by
  intro cs
  induction cs with
  | nil => intro o vs; cases vs <;> simp [setAll]
  | cons c cs ih => intro o vs; cases vs with
    | nil => simp [setAll]
    | cons v vs => cases o with
      | zero => simp [setAll, ih]
      | succ o => simp [setAll, ih]
theorem setAll_get : ∀ (cs : List V) (o : Nat) (vs : List V) (k : Nat), (setAll cs o vs)[k]? = if o ≤ k ∧ k < o + vs.length ∧ k < cs.length then vs[k - o]? else cs[k]? := by
  intro cs
  induction cs with
  | nil => intro o vs k; cases vs <;> simp [setAll]
  | cons c cs ih =>
    intro o vs k
    cases vs with
    | nil =>
      have : ¬ (o ≤ k ∧ k < o + ([] : List V).length ∧ k < (c :: cs).length) := fun h => by have := h.2.1; simp at this; omega
      rw [if_neg this]; simp [setAll]
    | cons v vs =>
      cases o with
      | zero =>
        cases k with
        | zero => simp [setAll]
        | succ k =>
          simp only [setAll, List.getElem?_cons_succ, ih, List.length_cons, Nat.zero_add, Nat.zero_le, true_and, Nat.sub_zero, Nat.add_lt_add_iff_right]
      | succ o =>
        cases k with
        | zero =>
          simp only [setAll, List.getElem?_cons_zero]
          rw [if_neg (fun h => by omega)]
        | succ k =>
          simp only [setAll, List.getElem?_cons_succ, ih, List.length_cons]
          by_cases h : o ≤ k ∧ k < o + (vs.length + 1) ∧ k < cs.length
          · rw [if_pos h, if_pos (by omega)]; congr 1; omega
          · rw [if_neg h, if_neg (by omega)]

theorem foldl_set (off : Nat) : ∀ (l : List Value) (j0 : Nat) (arr : Array Value) (k : Nat),
    ((l.zipIdx j0).foldl (fun cs p => cs.setIfInBounds (off + p.2) p.1) arr)[k]? = if off + j0 ≤ k ∧ k < off + j0 + l.length ∧ k < arr.size then l[k - (off + j0)]? else arr[k]? := by
  intro l
  induction l with
  | nil =>
    intro j0 arr k
    have : ¬ (off + j0 ≤ k ∧ k < off + j0 + ([] : List Value).length ∧ k < arr.size) := fun h => by have := h.2.1; simp at this; omega
    rw [if_neg this]; rfl
  | cons c l ih =>
    intro j0 arr k
    simp only [List.zipIdx_cons, List.foldl_cons, ih, Array.size_setIfInBounds, List.length_cons]
    by_cases h : off + (j0 + 1) ≤ k ∧ k < off + (j0 + 1) + l.length ∧ k < arr.size
    · rw [if_pos h, if_pos (by omega), show k - (off + j0) = (k - (off + (j0 + 1))) + 1 from by omega]; simp
    · rw [if_neg h]
      by_cases hk : off + j0 = k
      · subst hk
        by_cases hs : off + j0 < arr.size
        · rw [if_pos (by omega)]; simp [hs]
        · rw [if_neg (by omega)]; simp [hs]
      · rw [Array.getElem?_setIfInBounds_ne hk, if_neg (by omega)]
theorem foldl_size (off : Nat) : ∀ (l : List Value) (j0 : Nat) (arr : Array Value), ((l.zipIdx j0).foldl (fun cs p => cs.setIfInBounds (off + p.2) p.1) arr).size = arr.size := by
  intro l
  induction l with
  | nil => intro j0 arr; rfl
  | cons c l ih => intro j0 arr; simp only [List.zipIdx_cons, List.foldl_cons, ih, Array.size_setIfInBounds]

def fillV (place : Nat → Option (Nat × Nat)) : List V → List (Nat × V) → Option (List V)
  | cs, [] => some cs
  | cs, (i, v) :: r =>
    match place i, cellsV v with
    | some (off, size), some vs => if vs.length = size ∧ off + vs.length ≤ cs.length then fillV place (setAll cs off vs) r else none
    | _, _ => none
theorem fill_rel {g : Gh} {place : Nat → Option (Nat × Nat)} : ∀ (ps : List (Nat × V)) (pc : List (Nat × Value)) (cs cs' : List V) (arr : Array Value), CellsRel g arr cs → pc.length = ps.length →
    (∀ (k : Nat) (p : Nat × V) (q : Nat × Value), ps[k]? = some p → pc[k]? = some q → p.1 = q.1 ∧ RelV g p.2 q.2) → fillV place cs ps = some cs' → ∃ arr', Instr.fill place arr pc = some arr' ∧ CellsRel g arr' cs' := by
  intro ps
  induction ps with
  | nil =>
    intro pc cs cs' arr hr hl _ hf
    have : pc = [] := List.eq_nil_of_length_eq_zero (by simpa using hl)
    subst this
    simp only [fillV, Option.some.injEq] at hf
    subst hf
    exact ⟨arr, rfl, hr⟩
  | cons p ps ih =>
    intro pc cs cs' arr hr hl hrel hf
    obtain ⟨i, v⟩ := p
    cases pc with
    | nil => simp at hl
    | cons q pc =>
      obtain ⟨i', c⟩ := q
      obtain ⟨rfl, hv⟩ := hrel 0 (i, v) (i', c) rfl rfl
      simp only [fillV] at hf
      split at hf
      · rename_i off size vs hp hvs
        split at hf
        · rename_i hle
          obtain ⟨h1, h2⟩ := cells_rel hv hvs
          have hnew : CellsRel g (c.cells.zipIdx.foldl (fun cs (p : Value × Nat) => cs.setIfInBounds (off + p.2) p.1) arr) (setAll cs off vs) := by
            rw [← Array.foldl_toList, Array.toList_zipIdx]
            refine ⟨by rw [foldl_size, setAll_len]; exact hr.1, fun k v x hk hx => ?_⟩
            rw [setAll_get] at hk
            rw [foldl_set] at hx
            have hlen : c.cells.toList.length = vs.length := by simpa using h1
            by_cases hc : off ≤ k ∧ k < off + vs.length ∧ k < cs.length
            · rw [if_pos hc] at hk
              rw [if_pos (by have := hr.1; omega)] at hx
              exact h2 (k - off) v x hk (by simpa using hx)
            · rw [if_neg hc] at hk
              rw [if_neg (by have := hr.1; omega)] at hx
              exact hr.2 k v x hk hx
          obtain ⟨arr', h3, h4⟩ := ih pc _ cs' _ hnew (by simpa using hl) (fun k p q hk hq => hrel (k + 1) p q (by simpa using hk) (by simpa using hq)) hf
          refine ⟨arr', ?_, h4⟩
          simp only [Instr.fill, hp]
          have h1' : c.cells.size = vs.length := h1
          have hr1 := hr.1
          have e1 : c.cells.size = size := by omega
          have e2 : ¬ (off + c.cells.size > arr.size) := by omega
          have : ¬ (((i, c).2.cells.size ≠ size || decide (off + (i, c).2.cells.size > arr.size)) = true) := by
            show ¬ ((c.cells.size ≠ size || decide (off + c.cells.size > arr.size)) = true)
            simp [e1, e1 ▸ e2]
          rw [if_neg (by simpa using this)]
          exact h3
        · cases hf
      · cases hf

theorem Inv.newBox {E : Ent} {g : Gh} {s : VS} {a : Act} {w : World} (h : Inv E g s a w) {id : Nat} (hf : s.fresh id) (hna : E.na ≤ s.nx) {arr : Array Value} {cs : List V} {t : TypeId} (hr : CellsRel g arr cs) :
    Inv E (g.bind id w.heap.size none) { s with hp := (id, .box false cs) :: s.hp, us := id :: s.us } a (w.alloc (.cells arr t (0, 0))) := by
  refine h.alloc hf hna _ _ _ ⟨w.heap.size, arr, t, Gh.bind_β _ _ _ _, heap_alloc_new _ _, hr.1, fun i v c h1 h2 => ?_, fun _ o => ?_, fun e => (by cases e)⟩
  · have := hr.2 i v c h1 h2
    exact ⟨this.1.mono (Gh.le_bind (h.toRelS.fresh_β hf) (h.toRelS.fresh_sv hf)), this.2⟩
  · cases hm : (g.bind id w.heap.size none).M w.heap.size o with
    | none => rfl
    | some c => exact absurd (cell_lt (h.mem _ _ _ hm)) (Nat.lt_irrefl _)

theorem step_box {id : Nat} {elem : TypeId} {x : Operand} {vs : List V} (ho : o.op = .box elem x) (hd : ∀ d, o.dst = some d → d < T.N) (hv : cellsV (evalV T.tm x) = some vs) :
    StepOK P ops o { val := .ptr id 0, nw := [(id, .box false vs)] } T :=
  StepOK.of_val hd (fun c => by rw [ho]; exact fun e => by cases e) fun s ha E g a w hna hi hr => by
    have hx := cells_rel (hr x (by rw [ho]; simp [Op.operands])) hv
    have hf := ha.fresh id (by simp [It.nw, pfst])
    refine ⟨.pointer (some ⟨w.heap.size, 0, none⟩), _, _, ?_, .ptr (Gh.bind_β g id w.heap.size none), hi.newBox hf hna (t := elem) ⟨hx.1, hx.2⟩⟩
    unfold execOp; rw [ho]
    simp [Instr.box, newVar, newRow]
theorem step_alloc {id : Nat} {elem : TypeId} {z : Value} {vs : List V} (ho : o.op = .alloc elem) (hd : ∀ d, o.dst = some d → d < T.N) (hz : zeroOf P elem = some z) (hv : cellsV (constV z) = some vs) :
    StepOK P ops o { val := .ptr id 0, nw := [(id, .box false vs)] } T :=
  StepOK.of_val hd (fun c => by rw [ho]; exact fun e => by cases e) fun s ha E g a w hna hi hr => by
    have hx := cells_rel (constV_rel g z) hv
    have hf := ha.fresh id (by simp [It.nw, pfst])
    refine ⟨.pointer (some ⟨w.heap.size, 0, none⟩), _, _, ?_, .ptr (Gh.bind_β g id w.heap.size none), hi.newBox hf hna (t := elem) ⟨hx.1, hx.2⟩⟩
    unfold execOp; rw [ho]
    simp [Instr.alloc, newVar, newRow, run_zero' hz]

def fieldsPl (P : Program) (fs : List Field) : List (Nat × Nat) := fs.map fun f => (f.offset, szOf P f.type)
def partsV (ρ : Operand → V) : List (Nat × Operand) → List (Nat × V)
  | [] => []
  | (i, x) :: r => (i, ρ x) :: partsV ρ r
theorem partsV_get (ρ : Operand → V) (l : List (Nat × Operand)) (k : Nat) : (partsV ρ l)[k]? = (l[k]?).map fun p => (p.1, ρ p.2) := by
  induction l generalizing k with
  | nil => simp [partsV]
  | cons p r ih => obtain ⟨i, x⟩ := p; cases k with
    | zero => simp [partsV]
    | succ k => simp [partsV, ih]
theorem partsV_len (ρ : Operand → V) (l : List (Nat × Operand)) : (partsV ρ l).length = l.length := by
  induction l with
  | nil => rfl
  | cons p r ih => obtain ⟨i, x⟩ := p; simp [partsV, ih]
theorem parts_rel {g : Gh} {ρ : Operand → V} {ρc : Operand → Value} (parts : Array (Nat × Operand)) (hr : ∀ x, x ∈ parts.toList.map (·.2) → RelV g (ρ x) (ρc x)) :
    ((parts.map fun (i, x) => (i, ρc x)).toList).length = (partsV ρ parts.toList).length ∧
    ∀ (k : Nat) (p : Nat × V) (q : Nat × Value), (partsV ρ parts.toList)[k]? = some p → ((parts.map fun (i, x) => (i, ρc x)).toList)[k]? = some q → p.1 = q.1 ∧ RelV g p.2 q.2 := by
  refine ⟨by simp [partsV_len], fun k p q hp hq => ?_⟩
  rw [partsV_get] at hp
  rw [Array.toList_map, List.getElem?_map] at hq
  obtain ⟨z, hz, rfl⟩ := Option.map_eq_some_iff.1 hp
  rw [hz] at hq
  simp only [Option.map_some, Option.some.injEq] at hq
  subst hq
  exact ⟨rfl, hr z.2 (List.mem_map.2 ⟨z, List.mem_of_getElem? hz, rfl⟩)⟩

def placeOf (P : Program) (t : TypeId) : Option (Nat → Option (Nat × Nat)) :=
  match P.underlying t with
  | some (.array _ e) => (P.info? e).map fun ie i => some (i * ie.size, ie.size)
  | some (.struct fs) => (fs.toList.mapM fun f => (P.info? f.type).map fun i => (f.offset, i.size)).map fun ps i => ps[i]?
  | _ => none
theorem built_of {t : TypeId} {z : Value} {place : Nat → Option (Nat × Nat)} {parts : List (Nat × Value)} (hz : zeroOf P t = some z) (hp : placeOf P t = some place) :
    P.built t parts = Instr.fill place z.cells parts := by
  unfold zeroOf at hz
  obtain ⟨it, hit, hzz⟩ := Option.bind_eq_some_iff.1 hz
  unfold placeOf at hp
  unfold Program.built
  rw [hit]
  split at hp
  · rename_i n e hu
    obtain ⟨ie, hie, rfl⟩ := Option.map_eq_some_iff.1 hp
    simp only [hu, hzz, hie]
  · rename_i fs hu
    obtain ⟨ps, hps, rfl⟩ := Option.map_eq_some_iff.1 hp
    simp only [hu, hzz, hps]
    congr 1
    funext i
    simp
  · cases hp
theorem q_build {ρ : Operand → V} {hg : Nat → Option Blk} (t : TypeId) (parts : Array (Nat × Operand)) (z : Value) (place : Nat → Option (Nat × Nat)) (cs cs' : List V) (hz : zeroOf P t = some z) (hp : placeOf P t = some place)
    (hc : cellsV (constV z) = some cs) (hf : fillV place cs (partsV ρ parts.toList) = some cs') : QOK P ρ hg (.build t parts) ⟨.agg cs', [], True⟩ := fun g ρc w o ho hcst hr _ _ _ => by
  have h0 := cells_rel (constV_rel g z) hc
  have hp' := parts_rel (g := g) (ρ := ρ) (ρc := ρc) parts (fun x hx => hr x (by simpa [Op.operands] using hx))
  obtain ⟨arr', h1, h2⟩ := fill_rel _ _ _ _ _ ⟨h0.1, h0.2⟩ hp'.1 hp'.2 hf
  refine ⟨.agg arr', ?_, .agg _ _ h2.1 fun i v c a b => (h2.2 i v c a b).1⟩
  unfold execOp; rw [ho]
  have hb : P.built t (parts.map fun (i, x) => (i, ρc x)).toList = some arr' := by rw [built_of hz hp]; exact h1
  simp [run_build w t _ _ hb]

def repV : Nat → List V → List V
  | 0, _ => []
  | n + 1, cs => cs ++ repV n cs
theorem repV_len (n : Nat) (cs : List V) : (repV n cs).length = n * cs.length := by
  induction n with
  | zero => simp [repV]
  | succ n ih => simp [repV, ih, Nat.succ_mul, Nat.add_comm]
theorem repV_get : ∀ (n : Nat) (cs : List V) (k : Nat), k < n * cs.length → (repV n cs)[k]? = cs[k % cs.length]? := by
  intro n
  induction n with
  | zero => intro cs k h; simp at h
  | succ n ih =>
    intro cs k h
    simp only [repV]
    by_cases hk : k < cs.length
    · rw [List.getElem?_append_left hk, Nat.mod_eq_of_lt hk]
    · have hk' : cs.length ≤ k := by omega
      have h0 : 0 < cs.length := by
        rcases Nat.eq_zero_or_pos cs.length with h0 | h0
        · rw [h0] at h; simp at h
        · exact h0
      rw [List.getElem?_append_right hk', ih cs (k - cs.length) (by rw [Nat.succ_mul] at h; omega), Nat.mod_eq_sub_mod hk']
theorem made_rel {g : Gh} {z : Value} {cs : List V} (hc : cellsV (constV z) = some cs) (n : Nat) : CellsRel g (madeCells z.cells (n * cs.length)) (repV n cs) := by
  have h0 := cells_rel (constV_rel g z) hc
  refine ⟨by rw [size_madeCells, repV_len], fun k v c hv hcc => ?_⟩
  have hk : k < n * cs.length := by
    have := (List.getElem?_eq_some_iff.1 hv).1
    rwa [repV_len] at this
  rw [repV_get n cs k hk] at hv
  have hm := (List.getElem?_eq_some_iff.1 hv).1
  have h1 := h0.1
  have hms : k % z.cells.size < z.cells.size := by rw [h1]; exact hm
  refine h0.2 (k % cs.length) v c hv ?_
  simp only [madeCells, Array.getElem?_map] at hcc
  rw [Array.getElem?_range, if_pos hk] at hcc
  simp only [Option.map_some, Option.some.injEq] at hcc
  rw [← hcc, ← h1, getElem!_pos z.cells _ hms]
  exact Array.getElem?_eq_getElem hms

theorem step_buildSlice {id len : Nat} {t e : TypeId} {parts : Array (Nat × Operand)} {z : Value} {cs cs' : List V} (ho : o.op = .buildSlice t len parts) (hd : ∀ d, o.dst = some d → d < T.N) (ht : elemOf' P t = some e)
    (hz : zeroOf P e = some z) (hsz : szOf P e = cs.length) (hn : cs.length ≠ 0) (hc : cellsV (constV z) = some cs) (hl : len * cs.length ≤ 16777216)
    (hf : fillV (fun i => some (i * cs.length, cs.length)) (repV len cs) (partsV (evalV T.tm) parts.toList) = some cs') :
    StepOK P ops o { val := .bsl id cs.length 0 len len, nw := [(id, .box false cs')] } T :=
  StepOK.of_val hd (fun c => by rw [ho]; exact fun e => by cases e) fun s ha E g a w hna hi hr => by
    have hf' := ha.fresh id (by simp [It.nw, pfst])
    have hp' := parts_rel (g := g) (ρ := evalV T.tm) (ρc := a.eval) parts (fun x hx => hr x (by rw [ho]; simpa [Op.operands] using hx))
    obtain ⟨arr', h1, h2⟩ := fill_rel _ _ _ _ _ (made_rel (g := g) hc len) hp'.1 hp'.2 hf
    refine ⟨.slice (some ⟨w.heap.size, 0, none⟩) len len, _, _, ?_, .bsl (Gh.bind_β g id w.heap.size none) (Nat.le_refl _) (fun _ => by simp), hi.newBox hf' hna (t := e) h2⟩
    unfold execOp; rw [ho]
    have hs := run_sizeOf' (P := P) (w := w) hsz hn
    have hfill : Instr.fill (fun i => some (i * cs.length, cs.length)) ((Array.range (len * cs.length)).map (z.cells[· % z.cells.size]!)) (parts.toList.map fun x => (x.fst, a.eval x.snd)) = some arr' := by
      have h3 := h1
      rw [Array.toList_map] at h3
      exact h3
    by_cases h0 : len * cs.length = 0
    · have hl0 : len = 0 := by rcases Nat.mul_eq_zero.1 h0 with h | h
                               · exact h
                               · exact absurd h hn
      subst hl0
      simp only [Nat.zero_mul, Array.range_zero', Array.map_empty] at hfill
      simp [Instr.buildSlice, run_underlying (under_slice ht), hs, newRow, Array.range_zero', hfill]
    · have hgt : ¬ (16777216 < len * cs.length) := by omega
      simp [Instr.buildSlice, run_underlying (under_slice ht), hs, newRow, run_zero' hz, h0, hgt, hfill]
end Go.Bv

namespace Go.Bv
variable {P : Program} {ops : Array Oper} {o : Oper} {T : VS}

theorem seg_get (l vs : List Value) (o k : Nat) (h : o + vs.length ≤ l.length) :
    (l.take o ++ vs ++ l.drop (o + vs.length))[k]? = if o ≤ k ∧ k < o + vs.length then vs[k - o]? else l[k]? := by
  have h1 : (l.take o).length = o := by simp; omega
  by_cases hk : k < o
  · rw [if_neg (by omega), List.append_assoc, List.getElem?_append_left (by omega), List.getElem?_take, if_pos hk]
  · by_cases hk2 : k < o + vs.length
    · rw [if_pos (by omega), List.append_assoc, List.getElem?_append_right (by omega), h1, List.getElem?_append_left (by omega)]
    · rw [if_neg (by omega), List.getElem?_append_right (by simp; omega), List.getElem?_drop]
      congr 1
      simp; omega
theorem seg_len (l vs : List Value) (o : Nat) (h : o + vs.length ≤ l.length) : (l.take o ++ vs ++ l.drop (o + vs.length)).length = l.length := by
  simp; omega

theorem setRow_sz (w : World) (k : Nat) (cs : Array Value) : (w.setRow k cs).heap.size = w.heap.size := by
  unfold World.setRow; simp
theorem setRow_ne (w : World) (k j : Nat) (cs : Array Value) (h : j ≠ k) : (w.setRow k cs).heap[j]? = w.heap[j]? := setRow_other w k j cs h

theorem setRow_wg {w : World} {k : Nat} {cur arr' : Array Value} {t : TypeId} {f : Nat × Nat} (hw : w.heap[k]? = some (.cells cur t f)) (hs : arr'.size = cur.size) : ∀ arr t f, w.heap[k]? = some (.cells arr t f) → ∃ arr'', (w.setRow k arr').heap[k]? = some (.cells arr'' t f) ∧ arr''.size = arr.size := fun arr t' f' h => by
  rw [hw] at h; cases h
  exact ⟨arr', setRow_heap w k cur arr' t f hw, hs⟩

theorem step_store_ptr {t : TypeId} {x y : Operand} {id off : Nat} {cs vs : List V} (ho : o.op = .store t x y) (hd : ∀ d, o.dst = some d → d < T.N) (hx : evalV T.tm x = .ptr id off)
    (hb : hget T.hp id = some (.box false cs)) (hv : cellsV (evalV T.tm y) = some vs) (hz : szOf P t = vs.length) (hn : vs.length ≠ 0) (hl : off + vs.length ≤ cs.length) :
    StepOK P ops o { val := .junk, wr := [(id, .box false (setAll cs off vs))], rd := [id] } T :=
  StepOK.of_skip hd (fun c => by rw [ho]; exact fun e => by cases e) rfl fun s ha E g a w hna hi hr => by
    have hxr := hr x (by rw [ho]; simp [Op.operands])
    have hyr := cells_rel (hr y (by rw [ho]; simp [Op.operands])) hv
    rw [hx] at hxr
    have hb' : hget s.hp id = some (.box false cs) := by rw [ha.rd id (by simp [It.rd])]; exact hb
    generalize hc : a.eval x = c at hxr
    cases hxr with
    | @ptr _ _ k hk =>
      obtain ⟨k', arr, ty, h1, h2, h3, h4, h5⟩ := hi.blk id _ hb'
      rw [hk] at h1; cases h1
      have hcl : (a.eval y).cells.toList.length = vs.length := by simpa using hyr.1
      have hone : ∀ v ∈ (a.eval y).cells.toList, v.oneCell' = true := fun v hv' => by
        obtain ⟨i, hi'⟩ := List.getElem?_of_mem hv'
        have hlt := (List.getElem?_eq_some_iff.1 hi').1
        have hvs : vs[i]? = some vs[i] := List.getElem?_eq_getElem (by omega)
        exact (hyr.2 i _ v hvs (by simpa using hi')).2
      have hst := run_storeCells_at P k off ty (a.eval y).cells.toList 0 arr w h2 (by rw [hcl]; simp only [Nat.add_zero]; omega) hone
      simp only [Nat.add_zero] at hst
      have hal : arr.toList.length = cs.length := by simpa using h3
      refine ⟨_, g, ?_, hi.mod (w' := w.setRow k (arr.toList.take off ++ (a.eval y).cells.toList ++ arr.toList.drop (off + (a.eval y).cells.toList.length)).toArray) hb' rfl hk (setRow_sz _ _ _) (fun j hj => setRow_ne _ _ _ _ hj) rfl rfl rfl (fun o' c' hm => ?_) (setRow_wg h2 (by rw [List.size_toArray, seg_len _ _ _ (by omega)]; simp)) ?_⟩
      · unfold execOp; rw [ho]
        have hsz := run_sizeOf' (P := P) (w := w) hz hn
        have hne : ¬ (a.eval y).cells.size ≠ vs.length := by simpa using hyr.1
        simp only [Instr.storeAt, Instr.sureAddr, hc, storeVar, Sem.run_bind, Sem.run_pure, Result.andThen_ok, hsz, if_neg hne, hst]
      · rw [h5.1 rfl o'] at hm; cases hm
      · refine ⟨k, _, ty, hk, setRow_heap w k arr _ ty _ h2, ?_, fun i v c' hv' hc' => ?_, h5.1, fun e => (by cases e)⟩
        · rw [List.size_toArray, seg_len _ _ _ (by omega), setAll_len]; exact hal
        · rw [setAll_get] at hv'
          rw [List.getElem?_toArray, seg_get _ _ _ _ (by omega)] at hc'
          by_cases hin : off ≤ i ∧ i < off + vs.length ∧ i < cs.length
          · rw [if_pos hin] at hv'
            rw [if_pos (by omega)] at hc'
            exact hyr.2 (i - off) v c' hv' (by simpa using hc')
          · rw [if_neg hin] at hv'
            rw [if_neg (by omega)] at hc'
            exact h4 i v c' hv' (by simpa using hc')

def toDs : List V → Option (List D)
  | [] => some []
  | .d x :: r => (toDs r).map (x :: ·)
  | _ :: _ => none
theorem toDs_get {vs : List V} {ds : List D} (h : toDs vs = some ds) : vs = ds.map V.d := by
  induction vs generalizing ds with
  | nil => simp only [toDs, Option.some.injEq] at h; subst h; rfl
  | cons v r ih =>
    cases v with
    | d x =>
      simp only [toDs] at h
      obtain ⟨ds', h1, rfl⟩ := Option.map_eq_some_iff.1 h
      simp [ih h1]
    | _ => simp [toDs] at h
theorem relV_d {g : Gh} {x : D} {c : Value} (h : RelV g (.d x) c) : RelD g.M x c := by cases h with | d h => exact h

def setD : List D → Nat → List D → List D
  | cs, _, [] => cs
  | [], _, _ => []
  | _ :: cs, 0, v :: vs => v :: setD cs 0 vs
  | c :: cs, o + 1, v :: vs => c :: setD cs o (v :: vs)
theorem setD_len : ∀ (cs : List D) (o : Nat) (vs : List D), (setD cs o vs).length = cs.length := by
  intro cs
  induction cs with
  | nil => intro o vs; cases vs <;> simp [setD]
  | cons c cs ih => intro o vs; cases vs with
    | nil => simp [setD]
    | cons v vs => cases o with
      | zero => simp [setD, ih]
      | succ o => simp [setD, ih]
theorem setD_get : ∀ (cs : List D) (o : Nat) (vs : List D) (k : Nat), (setD cs o vs)[k]? = if o ≤ k ∧ k < o + vs.length ∧ k < cs.length then vs[k - o]? else cs[k]? := by
  intro cs
  induction cs with
  | nil => intro o vs k; cases vs <;> simp [setD]
  | cons c cs ih =>
    intro o vs k
    cases vs with
    | nil =>
      have : ¬ (o ≤ k ∧ k < o + ([] : List D).length ∧ k < (c :: cs).length) := fun h => by have := h.2.1; simp at this; omega
      rw [if_neg this]; simp [setD]
    | cons v vs =>
      cases o with
      | zero =>
        cases k with
        | zero => simp [setD]
        | succ k =>
          simp only [setD, List.getElem?_cons_succ, ih, List.length_cons, Nat.zero_add, Nat.zero_le, true_and, Nat.sub_zero, Nat.add_lt_add_iff_right]
      | succ o =>
        cases k with
        | zero =>
          simp only [setD, List.getElem?_cons_zero]
          rw [if_neg (fun h => by omega)]
        | succ k =>
          simp only [setD, List.getElem?_cons_succ, ih, List.length_cons]
          by_cases h : o ≤ k ∧ k < o + (vs.length + 1) ∧ k < cs.length
          · rw [if_pos h, if_pos (by omega)]; congr 1; omega
          · rw [if_neg h, if_neg (by omega)]
def setE : List (List D) → Nat → List D → List (List D)
  | [], _, _ => []
  | _ :: r, 0, e => e :: r
  | x :: r, i + 1, e => x :: setE r i e
theorem setE_eq : ∀ (l : List (List D)) (i : Nat) (e : List D), setE l i e = l.set i e := by
  intro l
  induction l with
  | nil => intro i e; rfl
  | cons x r ih => intro i e; cases i with
    | zero => rfl
    | succ i => simp [setE, ih]
theorem setE_len (l : List (List D)) (i : Nat) (e : List D) : (setE l i e).length = l.length := by rw [setE_eq]; simp
theorem setE_get (l : List (List D)) (i : Nat) (e : List D) (k : Nat) : (setE l i e)[k]? = if k = i ∧ i < l.length then some e else l[k]? := by
  rw [setE_eq, List.getElem?_set]
  by_cases h : i = k
  · subst h
    by_cases h2 : i < l.length
    · simp [h2]
    · simp [h2]
  · rw [if_neg h, if_neg (fun x => h x.1.symm)]

end Go.Bv

namespace Go.Bv
variable {P : Program} {ops : Array Oper} {o : Oper} {T : VS}

def SlRel (g : Gh) (w : World) (sz : Nat) (c : Value) (es : List (List D)) : Prop :=
  ∃ a cap, c = .slice a es.length cap ∧ es.length ≤ cap ∧ (∀ e, e ∈ es → e.length = sz) ∧
    (es ≠ [] → ∃ b o, a = some ⟨b, o, none⟩ ∧ ∀ (i j : Nat) (e : List D) (x : D), es[i]? = some e → e[j]? = some x → ∃ c', w.cell? ⟨b, o + i * sz + j, none⟩ = some c' ∧ RelD g.M x c')

def chunk (sz : Nat) : Nat → List V → Option (List (List D))
  | 0, _ => some []
  | n + 1, cs => match toDs (cs.take sz), chunk sz n (cs.drop sz) with | some e, some r => some (e :: r) | _, _ => none
def slOf (hg : Nat → Option Blk) (sz : Nat) : V → Option (List (List D) × List Nat)
  | .d (.slice _ es) => if es.all (fun e => e.length == sz) = true then some (es, []) else none
  | .emp0 _ => some ([], [])
  | .sref id n => match hg id with | some (.row sz' _ _ es) => if sz' = sz ∧ n = es.length then some (es, [id]) else none | _ => none
  | .ssub id sz' off len => match hg id with | some (.row sz'' _ _ es) => if sz' = sz ∧ sz'' = sz ∧ off + len ≤ es.length then some ((es.drop off).take len, [id]) else none | _ => none
  | .bsl id sz' off len _ => match hg id with | some (.box _ cs) => if sz' = sz ∧ (off + len) * sz ≤ cs.length then (chunk sz len (cs.drop (off * sz))).map fun es => (es, [id]) else none | _ => none
  | _ => none

theorem chunk_get {sz : Nat} : ∀ (n : Nat) (cs : List V) (es : List (List D)), chunk sz n cs = some es → n * sz ≤ cs.length → es.length = n ∧ (∀ e, e ∈ es → e.length = sz) ∧
    ∀ (i j : Nat) (e : List D) (x : D), es[i]? = some e → e[j]? = some x → cs[i * sz + j]? = some (.d x) := by
  intro n
  induction n with
  | zero => intro cs es h _; simp only [chunk, Option.some.injEq] at h; subst h; exact ⟨rfl, fun e h => (by cases h), fun i j e x h _ => (by simp at h)⟩
  | succ n ih =>
    intro cs es h hl
    simp only [chunk] at h
    rw [Nat.succ_mul] at hl
    split at h
    · rename_i e r he hr
      cases h
      obtain ⟨h1, h2, h3⟩ := ih _ _ hr (by simp; omega)
      have he' := toDs_get he
      have hel : e.length = sz := by
        have := congrArg List.length he'
        simp at this; omega
      refine ⟨by simp [h1], fun e' he'' => ?_, fun i j e' x hi hj => ?_⟩
      · rcases List.mem_cons.1 he'' with rfl | h
        · exact hel
        · exact h2 e' h
      · cases i with
        | zero =>
          simp only [List.getElem?_cons_zero, Option.some.injEq] at hi
          subst hi
          have hjl := (List.getElem?_eq_some_iff.1 hj).1
          have : (cs.take sz)[j]? = some (.d x) := by rw [he', List.getElem?_map, hj]; rfl
          rw [List.getElem?_take, if_pos (by omega)] at this
          simpa using this
        | succ i =>
          simp only [List.getElem?_cons_succ] at hi
          have := h3 i j e' x hi hj
          rw [List.getElem?_drop] at this
          rw [← this]; congr 1; rw [Nat.succ_mul]; omega
    · cases h

theorem sl_rel {g : Gh} {w : World} {hg : Nat → Option Blk} {sz : Nat} {v : V} {c : Value} {es : List (List D)} {rd : List Nat} (h : RelV g v c) (hs : slOf hg sz v = some (es, rd)) (hsz : sz ≠ 0)
    (hbl : ∀ id, id ∈ rd → ∀ b, hg id = some b → BlkRel g w id b) (hm : ∀ b o c, g.M b o = some c → w.cell? ⟨b, o, none⟩ = some c) : SlRel g w sz c es := by
  cases v with
  | d x =>
    cases x with
    | slice nil es' =>
      simp only [slOf] at hs
      split at hs
      · rename_i hall
        cases hs
        have hlen : ∀ e, e ∈ es → e.length = sz := fun e he => by have := List.all_eq_true.1 hall e he; simpa using this
        have hd := relV_d h
        cases hd with
        | nils => exact ⟨none, 0, rfl, Nat.le_refl _, hlen, fun h => absurd rfl h⟩
        | emp a cap => exact ⟨some a, cap, rfl, Nat.zero_le _, hlen, fun h => absurd rfl h⟩
        | slice sz' _ b o cap n hn hc hl hs' hr =>
          subst hn
          refine ⟨some ⟨b, o, none⟩, cap, rfl, hc, hlen, fun hne => ⟨b, o, rfl, fun i j e x hi hj => ?_⟩⟩
          have he := List.mem_of_getElem? hi
          have hszz : sz' = sz := by rw [← hl e he, hlen e he]
          subst hszz
          have hil := (List.getElem?_eq_some_iff.1 hi).1
          have hjl := (List.getElem?_eq_some_iff.1 hj).1
          obtain ⟨c', hc'⟩ := Option.isSome_iff_exists.1 (hs' i j hil (by rw [hl e he] at hjl; exact hjl))
          exact ⟨c', hm _ _ _ hc', hr i j e x c' hi hj hc'⟩
      · cases hs
    | _ => simp [slOf] at hs
  | emp0 nil =>
    simp only [slOf, Option.some.injEq, Prod.mk.injEq] at hs
    obtain ⟨rfl, rfl⟩ := hs
    cases h with
    | emp0t => exact ⟨none, 0, rfl, Nat.le_refl _, fun e h => (by cases h), fun h => absurd rfl h⟩
    | emp0f a => exact ⟨some a, 0, rfl, Nat.le_refl _, fun e h => (by cases h), fun h => absurd rfl h⟩
  | sref id n =>
    simp only [slOf] at hs
    split at hs
    · rename_i sz' fz nil es' hb
      split at hs
      · rename_i hc
        obtain ⟨rfl, rfl⟩ := hc
        cases hs
        have hblk := hbl id (by simp) _ hb
        cases h with
        | @sref _ _ cap a hsv hle h0 =>
          cases nil with
          | true =>
            obtain ⟨rfl, _, _⟩ := hblk.1 rfl
            exact ⟨a, cap, rfl, hle, fun e h => (by cases h), fun h => absurd rfl h⟩
          | false =>
            rcases hblk.2 rfl with ⟨rfl, _, _, _⟩ | ⟨k, arr, t, cap', h1, h2, h3, h4, h5, h6, h7, h8, h9⟩
            · exact ⟨a, cap, rfl, hle, fun e h => (by cases h), fun h => absurd rfl h⟩
            · rw [hsv] at h2; cases h2
              refine ⟨_, cap, rfl, hle, h7, fun _ => ⟨k, 0, rfl, fun i j e x hi hj => ?_⟩⟩
              have hil := (List.getElem?_eq_some_iff.1 hi).1
              have hjl := (List.getElem?_eq_some_iff.1 hj).1
              rw [h7 e (List.mem_of_getElem? hi)] at hjl
              have hmul : (i + 1) * sz' ≤ cap * sz' := Nat.mul_le_mul_right _ (by omega)
              rw [Nat.succ_mul] at hmul
              have hlt : i * sz' + j < arr.size := by omega
              refine ⟨arr[i * sz' + j], ?_, h8 i j e x _ hi hj (Array.getElem?_eq_getElem hlt)⟩
              rw [Nat.zero_add, cell_cells h3]; exact Array.getElem?_eq_getElem hlt
      · cases hs
    · cases hs
  | ssub id sz' off len =>
    simp only [slOf] at hs
    split at hs
    · rename_i sz'' fz nil es' hb
      split at hs
      · rename_i hc
        obtain ⟨rfl, rfl, hol⟩ := hc
        cases hs
        have hblk := hbl id (by simp) _ hb
        have hlen' : ((es'.drop off).take len).length = len := by simp; omega
        cases h with
        | @ssub _ _ _ _ n cap a a' hsv hle h0 h1' h2' h3' =>
          refine ⟨a', cap - off, by rw [hlen'], by rw [hlen']; omega, fun e he => ?_, fun hne => ?_⟩
          · have he' : e ∈ es' := List.mem_of_mem_drop (List.mem_of_mem_take he)
            cases nil with
            | true => obtain ⟨rfl, _, _⟩ := hblk.1 rfl; cases he'
            | false =>
              rcases hblk.2 rfl with ⟨rfl, _, _, _⟩ | ⟨k, arr, t, cap', h1, h2, h3, h4, h5, h6, h7, h8, h9⟩
              · cases he'
              · exact h7 e he'
          · have hpos : 0 < len := by
              rcases Nat.eq_zero_or_pos len with h | h
              · subst h; simp at hne
              · exact h
            have hesne : 0 < es'.length := by omega
            cases nil with
            | true => obtain ⟨rfl, _, _⟩ := hblk.1 rfl; simp at hesne
            | false =>
              rcases hblk.2 rfl with ⟨rfl, _, _, _⟩ | ⟨k, arr, t, cap', h1, h2, h3, h4, h5, h6, h7, h8, h9⟩
              · simp at hesne
              · rw [hsv] at h2; cases h2
                obtain ⟨ad, rfl, had⟩ := h3' _ rfl
                rw [had (.inr hpos), Addr.add_lit]
                refine ⟨k, 0 + off * sz'', rfl, fun i j e x hi hj => ?_⟩
                have hil := (List.getElem?_eq_some_iff.1 hi).1
                rw [hlen'] at hil
                rw [List.getElem?_take, if_pos hil, List.getElem?_drop] at hi
                have hjl := (List.getElem?_eq_some_iff.1 hj).1
                rw [h7 e (List.mem_of_getElem? hi)] at hjl
                have hmul : (off + i + 1) * sz'' ≤ cap * sz'' := Nat.mul_le_mul_right _ (by omega)
                rw [Nat.succ_mul, Nat.add_mul] at hmul
                have hlt : (off + i) * sz'' + j < arr.size := by rw [Nat.add_mul]; omega
                refine ⟨arr[(off + i) * sz'' + j], ?_, h8 (off + i) j e x _ hi hj (Array.getElem?_eq_getElem hlt)⟩
                rw [show 0 + off * sz'' + i * sz'' + j = (off + i) * sz'' + j from by rw [Nat.add_mul]; omega, cell_cells h3]; exact Array.getElem?_eq_getElem hlt
      · cases hs
    · cases hs
  | bsl id sz' off len cap =>
    simp only [slOf] at hs
    split at hs
    · rename_i fz cs hb
      split at hs
      · rename_i hc
        obtain ⟨hszz, hol⟩ := hc
        subst hszz
        obtain ⟨es', hch, he⟩ := Option.map_eq_some_iff.1 hs
        cases he
        rw [Nat.add_mul] at hol
        obtain ⟨h1, h2, h3⟩ := chunk_get _ _ _ hch (by simp; omega)
        obtain ⟨k', arr, t, hk', hw, hszq, hr, _⟩ := hbl id (by simp) _ hb
        cases h with
        | @bsl _ _ _ _ _ k ad hk hle had =>
          rw [hk] at hk'; cases hk'
          refine ⟨some ad, cap, by rw [h1], by omega, h2, fun hne => ?_⟩
          have hpos : 0 < len := by rw [← h1]; exact List.length_pos_iff.2 hne
          rw [had (.inr hpos)]
          refine ⟨_, _, rfl, fun i j e x hi hj => ?_⟩
          have hcs := h3 i j e x hi hj
          rw [List.getElem?_drop] at hcs
          have hlt := (List.getElem?_eq_some_iff.1 hcs).1
          have hcs' : cs[off * sz' + i * sz' + j]? = some (.d x) := by rw [← hcs]; congr 1; omega
          have hlt' : off * sz' + i * sz' + j < arr.size := by rw [hszq]; exact (List.getElem?_eq_some_iff.1 hcs').1
          exact ⟨arr[off * sz' + i * sz' + j], by rw [cell_cells hw]; exact Array.getElem?_eq_getElem hlt', relV_d (hr _ _ _ hcs' (Array.getElem?_eq_getElem hlt')).1⟩
      · cases hs
    · cases hs
  | _ => simp [slOf] at hs

theorem div_mod_lt {j m sz : Nat} (h : j < m * sz) : j / sz < m ∧ j % sz < sz := by
  have h0 : 0 < sz := by
    rcases Nat.eq_zero_or_pos sz with h0 | h0
    · subst h0; simp at h
    · exact h0
  exact ⟨(Nat.div_lt_iff_lt_mul h0).2 h, Nat.mod_lt _ h0⟩

theorem SlRel.news {g : Gh} {w : World} {sz : Nat} {c : Value} {es : List (List D)} (h : SlRel g w sz c es) (hne : es ≠ []) :
    ∃ (b o cap : Nat) (news : List Value), c = .slice (some ⟨b, o, none⟩) es.length cap ∧ es.length ≤ cap ∧ news.length = es.length * sz ∧ (∀ (j : Nat) (u : Value), news[j]? = some u → w.cell? ((⟨b, o, none⟩ : Addr).add j) = some u) ∧
      (∀ u, u ∈ news → u.oneCell' = true) ∧ (∀ e, e ∈ es → e.length = sz) ∧ ∀ (i j : Nat) (e : List D) (x : D) (u : Value), es[i]? = some e → e[j]? = some x → news[i * sz + j]? = some u → RelD g.M x u := by
  obtain ⟨a, cap, hc, hle, hl, hr⟩ := h
  obtain ⟨b, o, rfl, hcell⟩ := hr hne
  have key : ∀ k, k < es.length * sz → ∃ (e : List D) (x : D) (c' : Value), es[k / sz]? = some e ∧ e[k % sz]? = some x ∧ w.cell? ⟨b, o + k, none⟩ = some c' ∧ RelD g.M x c' := fun k hk => by
    obtain ⟨h1, h2⟩ := div_mod_lt hk
    have he : es[k / sz]? = some es[k / sz] := List.getElem?_eq_getElem h1
    have hel := hl _ (List.mem_of_getElem? he)
    have hx : (es[k / sz])[k % sz]? = some (es[k / sz])[k % sz] := List.getElem?_eq_getElem (by rw [hel]; exact h2)
    obtain ⟨c', h3, h4⟩ := hcell _ _ _ _ he hx
    refine ⟨_, _, c', he, hx, ?_, h4⟩
    rw [← h3]; congr 2
    have := Nat.div_add_mod k sz
    rw [Nat.mul_comm] at this
    omega
  refine ⟨b, o, cap, (List.range (es.length * sz)).map fun j => (w.cell? ⟨b, o + j, none⟩).getD undef, hc, hle, by simp, fun j u hj => ?_, fun u hu => ?_, hl, fun i j e x u hi hj hu => ?_⟩
  · rw [List.getElem?_map] at hj
    obtain ⟨k, hk, rfl⟩ := Option.map_eq_some_iff.1 hj
    have hjl := (List.getElem?_eq_some_iff.1 hk).1
    rw [List.getElem?_range (by simpa using hjl)] at hk
    cases hk
    obtain ⟨e, x, c', _, _, h3, _⟩ := key j (by simpa using hjl)
    rw [Addr.add_lit, h3]; rfl
  · obtain ⟨j, hj, rfl⟩ := List.mem_map.1 hu
    obtain ⟨e, x, c', _, _, h3, h4⟩ := key j (List.mem_range.1 hj)
    rw [h3]; exact h4.one
  · have hil := (List.getElem?_eq_some_iff.1 hi).1
    have hjl := (List.getElem?_eq_some_iff.1 hj).1
    rw [hl e (List.mem_of_getElem? hi)] at hjl
    obtain ⟨c', h3, h4⟩ := hcell i j e x hi hj
    rw [List.getElem?_map] at hu
    obtain ⟨k, hk, rfl⟩ := Option.map_eq_some_iff.1 hu
    have hkl := (List.getElem?_eq_some_iff.1 hk).1
    rw [List.getElem?_range (by simpa using hkl)] at hk
    cases hk
    rw [show o + (i * sz + j) = o + i * sz + j from by omega, h3]; exact h4

theorem Inv.dead {E : Ent} {g : Gh} {s : VS} {a : Act} {w : World} (h : Inv E g s a w) (id : Nat) : Inv E g { s with hp := hset s.hp id .dead } a w := by
  have hc : ∀ i b, hget (hset s.hp id .dead) i = some b → b = .dead ∨ hget s.hp i = some b := fun i b hb => by
    rw [hget_hset] at hb
    split at hb
    · cases hb; exact .inl rfl
    · exact .inr hb
  exact {
    wg := h.wg
    mem := h.mem
    blk := fun i b hb => by
      rcases hc i b hb with rfl | hb'
      · trivial
      · exact h.blk i b hb'
    inj := fun i j b b' k hi hj hb hb' hki hkj => by
      rcases hc i b hi with rfl | hi'
      · cases hb
      · rcases hc j b' hj with rfl | hj'
        · cases hb'
        · exact h.inj i j b b' k hi' hj' hb hb' hki hkj
    tm := h.tm
    size := h.size
    dom := h.dom
    fr := {
      leM := h.fr.leM
      leB := h.fr.leB
      leS := h.fr.leS
      size := h.fr.size
      os := h.fr.os
      output := h.fr.output
      tape := h.fr.tape
      kept := h.fr.kept
      mnew := h.fr.mnew
      own := fun k hk => by
        obtain ⟨i, b, hi, hb, hki⟩ := hk
        rcases hc i b hi with rfl | hi'
        · cases hb
        · exact h.fr.own k ⟨i, b, hi', hb, hki⟩ }
    marks := h.marks }

theorem Inv.rename {E : Ent} {g : Gh} {s : VS} {a : Act} {w : World} (h : Inv E g s a w) {id k : Nat} (hf : s.fresh id) (hna : E.na ≤ s.nx) (b : Blk) (sv : Option Value)
    (hfree : ∀ i bi, hget s.hp i = some bi → bi.holds = true → g.β i ≠ some k) (hown : E.O k ∨ E.w0.heap.size ≤ k) (hb : BlkRel (g.bind id k sv) w id b) :
    Inv E (g.bind id k sv) { s with hp := (id, b) :: s.hp, us := id :: s.us } a w := by
  have hβ := h.toRelS.fresh_β hf
  have hsv := h.toRelS.fresh_sv hf
  have hle : g.le (g.bind id k sv) := Gh.le_bind hβ hsv
  have hidna : ∀ i, i < E.na → i ≠ id := fun i hi e => hf (.inl (by omega))
  exact {
    wg := h.wg
    mem := h.mem
    blk := fun id' b' hb' => by
      simp only [hget_cons] at hb'
      by_cases e : id = id'
      · rw [if_pos e] at hb'; cases hb'; subst e; exact hb
      · rw [if_neg e] at hb'
        exact (h.blk id' b' hb').step hle (fun k x _ _ e => e) (fun k _ _ o c e => e) (fun e' => by rw [Gh.bind_β_ne g (fun x => e x.symm)]; exact e')
    inj := fun i j bi bj k' hi hj hbi hbj hki hkj => by
      simp only [hget_cons] at hi hj
      by_cases ei : id = i
      · subst ei
        by_cases ej : id = j
        · exact ej
        · rw [if_neg ej] at hj
          rw [Gh.bind_β] at hki; cases hki
          rw [Gh.bind_β_ne g (Ne.symm ej)] at hkj
          exact absurd hkj (hfree j bj hj hbj)
      · rw [if_neg ei] at hi
        rw [Gh.bind_β_ne g (Ne.symm ei)] at hki
        by_cases ej : id = j
        · subst ej
          rw [Gh.bind_β] at hkj; cases hkj
          exact absurd hki (hfree i bi hi hbi)
        · rw [if_neg ej] at hj
          rw [Gh.bind_β_ne g (Ne.symm ej)] at hkj
          exact h.inj i j bi bj k' hi hj hbi hbj hki hkj
    tm := fun t => (h.tm t).mono hle
    size := h.size
    dom := fun i hi => by
      by_cases e : i = id
      · exact .inr (by simp [e])
      · rw [Gh.bind_β_ne g e, Gh.bind_sv_ne g e] at hi
        rcases h.dom i hi with h1 | h1
        · exact .inl h1
        · exact .inr (List.mem_cons_of_mem _ h1)
    fr := {
      leM := h.fr.leM
      leB := fun i hi => by rw [Gh.bind_β_ne g (hidna i hi)]; exact h.fr.leB i hi
      leS := fun i hi => by rw [Gh.bind_sv_ne g (hidna i hi)]; exact h.fr.leS i hi
      size := h.fr.size
      os := h.fr.os
      output := h.fr.output
      tape := h.fr.tape
      kept := h.fr.kept
      own := fun k' hk => by
        obtain ⟨i, b', hi, hb', hki⟩ := hk
        simp only [hget_cons] at hi
        by_cases e : id = i
        · subst e
          rw [Gh.bind_β] at hki; cases hki
          exact hown
        · rw [if_neg e] at hi
          rw [Gh.bind_β_ne g (Ne.symm e)] at hki
          exact h.fr.own k' ⟨i, b', hi, hb', hki⟩
      mnew := h.fr.mnew }
    marks := h.marks }
end Go.Bv
