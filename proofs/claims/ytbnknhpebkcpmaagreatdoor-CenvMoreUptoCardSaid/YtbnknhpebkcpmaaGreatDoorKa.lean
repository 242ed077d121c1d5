/- The abstract values of a walk and what they say of a world; calls, code, operations; no condition. -/
import Derived.WalkKit
import Derived.Deep.AppendSrc
/- The abstract values of a walk, and what they say of a world. Nothing of the program is named here. -/
set_option linter.unusedVariables false
namespace Sp
open Go
structure Part where
  v : Int
  p : Int
  deriving DecidableEq, Inhabited
abbrev Level := List Part
inductive Term where
  | mk (kind num at_ : Int) (levels : List Level) (kids : List Term)
  deriving Inhabited
def Term.kind : Term → Int | .mk k _ _ _ _ => k
def Term.num : Term → Int | .mk _ n _ _ _ => n
def Term.at_ : Term → Int | .mk _ _ a _ _ => a
def Term.levels : Term → List Level | .mk _ _ _ l _ => l
def Term.kids : Term → List Term | .mk _ _ _ _ k => k
structure Core where
  levels : Int
  typ : Term
  has : Bool
  body : Term
  deriving Inhabited
inductive D where
  | any
  | int (k : IntKind) (n : Int)
  | bool (b : Bool)
  | str (s : ByteArray)
  | agg (cs : List D)
  | tup (cs : List D)
  | emp
  | slc (es : List D)
  | slP (ps : List Part)
  | slL (ls : List Level)
  | slT (ts : List Term)
  | slC (cs : List Core)
  | own (b cap : Nat) (es : List D)
  | sl (b off len : Nat)
  | room (b cap len : Nat)
  | ptr (b off : Nat)
  | nilp
  | ep (cs : List D)
  | func (f : Fn) (first cap : List D)
  | nilf
  | iface (t : TypeId) (d : D)
  | nili
  | map (b : Nat)
  deriving Inhabited
def D.cells : D → List D
  | .agg cs => cs
  | d => [d]
def cellsP (p : Part) : List D := [.int .i64 p.v, .int .i64 p.p]
def cellsL (l : Level) : List D := [.slP l]
def cellsT (t : Term) : List D := [.int .i64 t.kind, .int .i64 t.num, .int .i64 t.at_, .slL t.levels, .slT t.kids]
def cellsC (c : Core) : List D :=
  [.int .i64 c.levels, .int .i64 c.typ.kind, .int .i64 c.typ.num, .int .i64 c.typ.at_, .slL c.typ.levels, .slT c.typ.kids, .bool c.has,
   .int .i64 c.body.kind, .int .i64 c.body.num, .int .i64 c.body.at_, .slL c.body.levels, .slT c.body.kids]
def encP (p : Part) : D := .agg (cellsP p)
def encL (l : Level) : D := .agg (cellsL l)
def encT (t : Term) : D := .agg (cellsT t)
def encC (c : Core) : D := .agg (cellsC c)
def D.elems : D → Option (List D)
  | .slc es => some es
  | .slP ps => some (ps.map encP)
  | .slL ls => some (ls.map encL)
  | .slT ts => some (ts.map encT)
  | .slC cs => some (cs.map encC)
  | _ => none
def D.len : D → Option Nat
  | .slc es => some es.length
  | .slP ps => some ps.length
  | .slL ls => some ls.length
  | .slT ts => some ts.length
  | .slC cs => some cs.length
  | .own _ _ es => some es.length
  | .emp => some 0
  | .sl _ _ n => some n
  | _ => none
def flat (es : List D) : List D := es.flatMap D.cells
abbrev Ghost := Nat → Nat → Option Value
def Ghost.le (H H' : Ghost) : Prop := ∀ b o v, H b o = some v → H' b o = some v
theorem Ghost.le_refl (H : Ghost) : H.le H := fun _ _ _ h => h
theorem Ghost.le_trans {A B C : Ghost} (h : A.le B) (k : B.le C) : A.le C := fun b o v e => k b o v (h b o v e)
inductive Enc (H : Ghost) : D → Value → Prop
  | any (v : Value) : Enc H .any v
  | int (k : IntKind) (n : Int) : Enc H (.int k n) (.int k n)
  | bool (b : Bool) : Enc H (.bool b) (.bool b)
  | str (s : ByteArray) : Enc H (.str s) (.string s)
  | agg (cs : List D) (vs : Array Value) (hs : vs.size = cs.length) (h1 : ∀ (i : Nat) v, vs[i]? = some v → v.oneCell' = true)
      (h : ∀ (i : Nat) d v, cs[i]? = some d → vs[i]? = some v → Enc H d v) : Enc H (.agg cs) (.agg vs)
  | tup (cs : List D) (vs : Array Value) (hs : vs.size = cs.length)
      (h : ∀ (i : Nat) d v, cs[i]? = some d → vs[i]? = some v → Enc H d v) : Enc H (.tup cs) (.tuple vs)
  | emp (a : Option Addr) : Enc H .emp (.slice a 0 0)
  | data (d : D) (es : List D) (he : d.elems = some es) (a : Option Addr) (b off cap : Nat) (f : Nat → Value) (hc : es.length ≤ cap) (ha : es = [] ∨ a = some ⟨b, off, none⟩)
      (hH : ∀ (i : Nat) d, (flat es)[i]? = some d → H b (off + i) = some (f i))
      (h1 : ∀ (i : Nat) d, (flat es)[i]? = some d → (f i).oneCell' = true)
      (h : ∀ (i : Nat) d, (flat es)[i]? = some d → Enc H d (f i)) : Enc H d (.slice a es.length cap)
  | own (b cap : Nat) (es : List D) (f : Nat → Value) (hc : es.length ≤ cap)
      (hH : ∀ (i : Nat) d, (flat es)[i]? = some d → H b i = some (f i))
      (h1 : ∀ (i : Nat) d, (flat es)[i]? = some d → (f i).oneCell' = true)
      (h : ∀ (i : Nat) d, (flat es)[i]? = some d → Enc H d (f i)) : Enc H (.own b cap es) (.slice (some ⟨b, 0, none⟩) es.length cap)
  | sl (b off len cap : Nat) (hc : len ≤ cap) : Enc H (.sl b off len) (.slice (some ⟨b, off, none⟩) len cap)
  | room (b cap len : Nat) : Enc H (.room b cap len) (.slice (some ⟨b, 0, none⟩) len cap)
  | ptr (b off : Nat) : Enc H (.ptr b off) (.pointer (some ⟨b, off, none⟩))
  | nilp : Enc H .nilp (.pointer none)
  | ep (b off : Nat) (cs : List D) (f : Nat → Value)
      (hH : ∀ (i : Nat) d, cs[i]? = some d → H b (off + i) = some (f i))
      (h1 : ∀ (i : Nat) d, cs[i]? = some d → (f i).oneCell' = true)
      (h : ∀ (i : Nat) d, cs[i]? = some d → Enc H d (f i)) : Enc H (.ep cs) (.pointer (some ⟨b, off, none⟩))
  | func (f : Fn) (first cap : List D) (vs ws : Array Value) (hs : vs.size = first.length) (ht : ws.size = cap.length)
      (h : ∀ (i : Nat) d v, first[i]? = some d → vs[i]? = some v → Enc H d v)
      (k : ∀ (i : Nat) d v, cap[i]? = some d → ws[i]? = some v → Enc H d v) : Enc H (.func f first cap) (.func f vs ws)
  | nilf : Enc H .nilf .nilFunc
  | iface (t : TypeId) (d : D) (v : Value) (h : Enc H d v) : Enc H (.iface t d) (.iface t v)
  | nili : Enc H .nili .nilIface
  | map (b : Nat) : Enc H (.map b) (.map (some b))
theorem Enc.mono {H H' : Ghost} (hl : H.le H') {d : D} {v : Value} (h : Enc H d v) : Enc H' d v := by
  induction h with
  | any v => exact .any v
  | int k n => exact .int k n
  | bool b => exact .bool b
  | str s => exact .str s
  | agg cs vs hs h1 _ ih => exact .agg cs vs hs h1 ih
  | tup cs vs hs _ ih => exact .tup cs vs hs ih
  | emp a => exact .emp a
  | data d es he a b off cap f hc ha hH h1 _ ih => exact .data d es he a b off cap f hc ha (fun i d e => hl _ _ _ (hH i d e)) h1 ih
  | own b cap es f hc hH h1 _ ih => exact .own b cap es f hc (fun i d e => hl _ _ _ (hH i d e)) h1 ih
  | sl b off len cap hc => exact .sl b off len cap hc
  | room b cap len => exact .room b cap len
  | ptr b off => exact .ptr b off
  | nilp => exact .nilp
  | ep b off cs f hH h1 _ ih => exact .ep b off cs f (fun i d e => hl _ _ _ (hH i d e)) h1 ih
  | func f a b vs ws hs ht _ _ ih1 ih2 => exact .func f a b vs ws hs ht ih1 ih2
  | nilf => exact .nilf
  | iface t d v _ ih => exact .iface t d v ih
  | nili => exact .nili
  | map b => exact .map b
def EncC (H : Ghost) (d : D) (v : Value) : Prop := v.oneCell' = true ∧ Enc H d v
theorem EncC.mono {H H' : Ghost} (hl : H.le H') {d : D} {v : Value} (h : EncC H d v) : EncC H' d v := ⟨h.1, h.2.mono hl⟩
def EncCs (H : Ghost) (ds : List D) (vs : Array Value) : Prop :=
  vs.size = ds.length ∧ ∀ (i : Nat) d v, ds[i]? = some d → vs[i]? = some v → EncC H d v
theorem EncCs.mono {H H' : Ghost} (hl : H.le H') {ds : List D} {vs : Array Value} (h : EncCs H ds vs) : EncCs H' ds vs :=
  ⟨h.1, fun i d v e k => (h.2 i d v e k).mono hl⟩
def EncL (H : Ghost) (ds : List D) (vs : Array Value) : Prop :=
  vs.size = ds.length ∧ ∀ (i : Nat) d v, ds[i]? = some d → vs[i]? = some v → Enc H d v
theorem Enc.agg_iff {H : Ghost} {cs : List D} {v : Value} : Enc H (.agg cs) v ↔ ∃ vs, v = .agg vs ∧ EncCs H cs vs := by
  constructor
  · intro h; cases h with
    | agg _ vs hs h1 h => exact ⟨vs, rfl, hs, fun i d v e k => ⟨h1 i v k, h i d v e k⟩⟩
    | data _ es he => simp [D.elems] at he
  · rintro ⟨vs, rfl, hs, h⟩
    refine .agg cs vs hs (fun i v k => ?_) (fun i d v e k => (h i d v e k).2)
    have hi : i < cs.length := by
      have := (Array.getElem?_eq_some_iff.1 k).1
      omega
    exact (h i cs[i] v (List.getElem?_eq_getElem hi) k).1
def RowAt (H : Ghost) (b o : Nat) (cs : List D) : Prop := ∀ (i : Nat) d, cs[i]? = some d → ∃ v, H b (o + i) = some v ∧ EncC H d v
theorem RowAt.mono {H H' : Ghost} (hl : H.le H') {b o : Nat} {cs : List D} (h : RowAt H b o cs) : RowAt H' b o cs :=
  fun i d e => let ⟨v, a, c⟩ := h i d e; ⟨v, hl _ _ _ a, c.mono hl⟩
theorem RowAt.drop {H : Ghost} {b o : Nat} {cs : List D} (h : RowAt H b o cs) (n : Nat) : RowAt H b (o + n) (cs.drop n) := by
  intro i d e
  rw [List.getElem?_drop] at e
  obtain ⟨v, a, c⟩ := h _ d e
  exact ⟨v, by rw [Nat.add_assoc]; exact a, c⟩
theorem RowAt.take {H : Ghost} {b o : Nat} {cs : List D} (h : RowAt H b o cs) (n : Nat) : RowAt H b o (cs.take n) := by
  intro i d e
  rw [List.getElem?_take] at e
  split at e
  · exact h i d e
  · cases e
theorem RowAt.append {H : Ghost} {b o : Nat} {cs ds : List D} (h : RowAt H b o cs) (k : RowAt H b (o + cs.length) ds) : RowAt H b o (cs ++ ds) := by
  intro i d e
  rw [List.getElem?_append] at e
  split at e
  · exact h i d e
  · obtain ⟨v, a, c⟩ := k _ d e
    exact ⟨v, by rw [show o + i = o + cs.length + (i - cs.length) by omega]; exact a, c⟩
theorem RowAt.left {H : Ghost} {b o : Nat} {cs ds : List D} (h : RowAt H b o (cs ++ ds)) : RowAt H b o cs := by
  intro i d e
  exact h i d (by rw [List.getElem?_append_left (List.getElem?_eq_some_iff.1 e).1]; exact e)
theorem RowAt.fn {H : Ghost} {b o : Nat} {cs : List D} (h : RowAt H b o cs) : ∃ f : Nat → Value, (∀ (i : Nat) d, cs[i]? = some d → H b (o + i) = some (f i)) ∧
    (∀ (i : Nat) d, cs[i]? = some d → (f i).oneCell' = true) ∧ (∀ (i : Nat) d, cs[i]? = some d → Enc H d (f i)) := by
  refine ⟨fun i => (H b (o + i)).getD (.bool false), fun i d e => ?_, fun i d e => ?_, fun i d e => ?_⟩ <;> obtain ⟨v, a, c⟩ := h i d e
  · simp [a]
  · simp only [a, Option.getD_some]; exact c.1
  · simp only [a, Option.getD_some]; exact c.2
theorem Enc.ep_iff {H : Ghost} {cs : List D} {v : Value} : Enc H (.ep cs) v ↔ ∃ b o, v = .pointer (some ⟨b, o, none⟩) ∧ RowAt H b o cs := by
  constructor
  · intro h
    cases h with
    | data _ es he => simp [D.elems] at he
    | ep b o _ f h1 h2 h3 => exact ⟨b, o, rfl, fun i d e => ⟨f i, h1 i d e, h2 i d e, h3 i d e⟩⟩
  · rintro ⟨b, o, rfl, h⟩
    obtain ⟨f, h1, h2, h3⟩ := h.fn
    exact .ep b o cs f h1 h2 h3
theorem Enc.own_mk {H : Ghost} {b : Nat} {es : List D} {cap : Nat} (hc : es.length ≤ cap) (h : RowAt H b 0 (flat es)) : Enc H (.own b cap es) (.slice (some ⟨b, 0, none⟩) es.length cap) := by
  obtain ⟨f, h1, h2, h3⟩ := h.fn
  exact .own b cap es f hc (fun i d e => by simpa using h1 i d e) h2 h3
theorem Enc.own_inv {H : Ghost} {b cap : Nat} {es : List D} {v : Value} (h : Enc H (.own b cap es) v) : v = .slice (some ⟨b, 0, none⟩) es.length cap ∧ es.length ≤ cap ∧ RowAt H b 0 (flat es) := by
  cases h with
  | data _ es he => simp [D.elems] at he
  | own _ _ _ f hc h1 h2 h3 => exact ⟨rfl, hc, fun i d e => ⟨f i, by simpa using h1 i d e, h2 i d e, h3 i d e⟩⟩
theorem Enc.data_mk {H : Ghost} {d : D} {es : List D} (he : d.elems = some es) {b o : Nat} {cap : Nat} (hc : es.length ≤ cap) (h : RowAt H b o (flat es)) : Enc H d (.slice (some ⟨b, o, none⟩) es.length cap) := by
  obtain ⟨f, h1, h2, h3⟩ := h.fn
  exact .data d es he _ b o cap f hc (.inr rfl) h1 h2 h3
theorem Enc.data_nil {H : Ghost} {d : D} (he : d.elems = some []) (a : Option Addr) (cap : Nat) : Enc H d (.slice a 0 cap) :=
  .data d [] he a 0 0 cap (fun _ => .bool false) (by simp) (.inl rfl) (fun i d e => by simp [flat] at e) (fun i d e => by simp [flat] at e) (fun i d e => by simp [flat] at e)
theorem Enc.data_inv {H : Ghost} {d : D} {es : List D} {v : Value} (h : Enc H d v) (he : d.elems = some es) :
    ∃ a cap, v = .slice a es.length cap ∧ es.length ≤ cap ∧ (es = [] ∨ ∃ b o, a = some ⟨b, o, none⟩ ∧ RowAt H b o (flat es)) := by
  cases h with
  | data _ es' he' a b o cap f hc ha h1 h2 h3 =>
    obtain rfl : es' = es := Option.some.inj (he'.symm.trans he)
    exact ⟨a, cap, rfl, hc, ha.imp id (fun e => ⟨b, o, e, fun i d e => ⟨f i, h1 i d e, h2 i d e, h3 i d e⟩⟩)⟩
  | _ => simp [D.elems] at he
def D.one : D → Bool
  | .any | .agg _ | .tup _ => false
  | _ => true
theorem Enc.one {H : Ghost} {d : D} {v : Value} (h : Enc H d v) (hd : d.one = true) : v.oneCell' = true := by
  cases h <;> first | rfl | (simp [D.one] at hd)
theorem Enc.cells_of_one {H : Ghost} {d : D} {v : Value} (h : Enc H d v) (hd : d.one = true) : EncCs H d.cells v.cells := by
  have h1 := h.one hd
  have hv : v.cells = #[v] := by cases v <;> first | rfl | simp [Value.oneCell'] at h1
  have hdd : d.cells = [d] := by cases d <;> first | rfl | simp [D.one] at hd
  rw [hv, hdd]
  refine ⟨rfl, fun i d' v' e k => ?_⟩
  cases i with
  | zero => simp at e k; subst e; subst k; exact ⟨h1, h⟩
  | succ i => simp at e
def D.whole : D → Bool
  | .agg _ => true
  | d => d.one
theorem Enc.cells {H : Ghost} {d : D} {v : Value} (h : Enc H d v) (hd : d.whole = true) : EncCs H d.cells v.cells := by
  cases d with
  | agg cs => obtain ⟨vs, rfl, hc⟩ := Enc.agg_iff.1 h; exact hc
  | _ => exact h.cells_of_one hd
inductive MObj where
  | cells (t : TypeId) (cs : List D)
  | buf (t : TypeId) (sz cap : Nat) (es : List D)
  | map (es : List (Int × D))
  | iter (m n : Nat) (seen : List Nat)
  deriving Inhabited
abbrev Loc := List (Nat × MObj)
def MOk (H : Ghost) (w : World) (b : Nat) : MObj → Prop
  | .cells t cs => (∃ arr, w.heap[b]? = some (.cells arr t (0, 0)) ∧ EncCs H cs arr) ∧ ∀ o, H b o = none
  | .buf t sz cap es => (∃ arr, w.heap[b]? = some (.cells arr t (0, 0)) ∧ arr.size = cap * sz ∧ (flat es).length = es.length * sz ∧ es.length ≤ cap ∧ cap ≤ maxLen ∧ ∀ v ∈ arr.toList, v.oneCell' = true) ∧ ∀ o, (flat es).length ≤ o → H b o = none
  | .map es => (∃ ms, w.heap[b]? = some (.map ms es.length) ∧ ms.size = es.length ∧ ∀ (i : Nat) e m, es[i]? = some e → ms[i]? = some m → m.key = .int .i64 e.1 ∧ m.born = i ∧ Enc H e.2 m.val) ∧ ∀ o, H b o = none
  | .iter m n seen => w.heap[b]? = some (.mapIter (some m) n seen.toArray n) ∧ ∀ o, H b o = none
def kindRows : List (Bool × Bool × Int × Int × Int) :=
  [(false, false, 0, 0, 0), (true, false, 0, 0, -1), (false, false, 1, 0, -1), (true, false, -1, 0, -1), (false, false, 0, 2, 1), (false, false, 0, 2, 1), (false, false, 0, 2, -1),
   (false, false, 0, 3, 2), (true, true, -1, 0, -1), (true, true, -1, 0, -1), (true, true, -1, 0, -1), (false, true, 0, 0, -1), (false, false, 0, 2, 1), (false, false, 0, 2, -1),
   (false, false, 0, 1, -1), (false, false, 0, 1, -1), (false, false, 0, 2, 1), (false, false, 0, 2, -1), (false, false, 0, 5, 1), (false, false, 0, 3, -1), (false, false, 0, 0, -1),
   (false, false, 0, 6, -1), (true, false, 0, 0, -1), (true, true, 0, 0, -1), (false, true, 0, 2, -1)]
def kindCells : List Value := kindRows.flatMap fun (a, b, l, k, o) => [.bool a, .bool b, .int .i64 l, .int .i64 k, .int .i64 o]
def G0 : Ghost := fun b o => if b = 0 then kindCells[o]? else none
structure Sim (H : Ghost) (L : Loc) (w : World) : Prop where
  gl : G0.le H
  ok : ∀ b o v, H b o = some v → w.cell? ⟨b, o, none⟩ = some v
  obj : ∀ b m, (b, m) ∈ L → MOk H w b m
  nodup : (L.map Prod.fst).Nodup
def dom (L : Loc) : List Nat := L.map Prod.fst
theorem mem_dom {L : Loc} {b : Nat} {m : MObj} (h : (b, m) ∈ L) : b ∈ dom L := List.mem_map.2 ⟨_, h, rfl⟩
theorem MOk.lt {H : Ghost} {w : World} {b : Nat} {m : MObj} (h : MOk H w b m) : b < w.heap.size := by
  cases m with
  | cells t cs => obtain ⟨⟨arr, hb, _⟩, _⟩ := h; exact (Array.getElem?_eq_some_iff.1 hb).1
  | buf t sz cap es => obtain ⟨⟨arr, hb, _⟩, _⟩ := h; exact (Array.getElem?_eq_some_iff.1 hb).1
  | map es => obtain ⟨⟨ms, hb, _⟩, _⟩ := h; exact (Array.getElem?_eq_some_iff.1 hb).1
  | iter m n seen => exact (Array.getElem?_eq_some_iff.1 h.1).1
theorem Sim.lt_dom {H : Ghost} {L : Loc} {w : World} (h : Sim H L w) {b : Nat} (hb : b ∈ dom L) : b < w.heap.size := by
  obtain ⟨⟨b', m⟩, hm, rfl⟩ := List.mem_map.1 hb
  exact (h.obj _ _ hm).lt
theorem Sim.lt_ghost {H : Ghost} {L : Loc} {w : World} (h : Sim H L w) {b o : Nat} {v : Value} (hb : H b o = some v) : b < w.heap.size :=
  World.block_lt_of_cell? w ⟨b, o, none⟩ (h.ok _ _ _ hb)
theorem MOk.keep {H H' : Ghost} {w w' : World} {b : Nat} {m : MObj} (h : MOk H w b m) (hl : H.le H') (hw : w'.heap[b]? = w.heap[b]?)
    (hb : ∀ o, H b o = none → H' b o = none) : MOk H' w' b m := by
  cases m with
  | cells t cs =>
    obtain ⟨⟨arr, h1, h2⟩, h4⟩ := h
    exact ⟨⟨arr, hw.trans h1, h2.mono hl⟩, fun o => hb o (h4 o)⟩
  | buf t sz cap es =>
    obtain ⟨⟨arr, h1, h2⟩, h4⟩ := h
    exact ⟨⟨arr, hw.trans h1, h2⟩, fun o ho => hb o (h4 o ho)⟩
  | map es =>
    obtain ⟨⟨ms, h1, h2, h3⟩, h4⟩ := h
    exact ⟨⟨ms, hw.trans h1, h2, fun i e m a c => ⟨(h3 i e m a c).1, (h3 i e m a c).2.1, (h3 i e m a c).2.2.mono hl⟩⟩, fun o => hb o (h4 o)⟩
  | iter m n seen => exact ⟨hw.trans h.1, fun o => hb o (h.2 o)⟩
structure Step (H : Ghost) (L : Loc) (w : World) (H' : Ghost) (L' : Loc) (w' : World) : Prop where
  le : H.le H'
  os : w'.os = w.os
  tape : w'.tape = w.tape
  output : w'.output = w.output
  size : w.heap.size ≤ w'.heap.size
  frame : ∀ b, b < w.heap.size → b ∉ dom L → w'.heap[b]? = w.heap[b]?
  dom' : ∀ b, b ∈ dom L' → b ∈ dom L ∨ w.heap.size ≤ b
  fresh : ∀ b o, b < w.heap.size → b ∉ dom L → H b o = none → H' b o = none
theorem Step.refl (H : Ghost) (L : Loc) (w : World) : Step H L w H L w :=
  ⟨Ghost.le_refl _, rfl, rfl, rfl, Nat.le_refl _, fun _ _ _ => rfl, fun _ h => .inl h, fun _ _ _ _ h => h⟩
theorem Step.trans {H H' H'' : Ghost} {L L' L'' : Loc} {w w' w'' : World} (h : Step H L w H' L' w') (k : Step H' L' w' H'' L'' w'') : Step H L w H'' L'' w'' where
  le := Ghost.le_trans h.le k.le
  os := k.os.trans h.os
  tape := k.tape.trans h.tape
  output := k.output.trans h.output
  size := Nat.le_trans h.size k.size
  frame b hb hd := by
    have hd' : b ∉ dom L' := fun e => (h.dom' b e).elim hd (fun g => by omega)
    exact (k.frame b (Nat.lt_of_lt_of_le hb h.size) hd').trans (h.frame b hb hd)
  dom' b hb := (k.dom' b hb).elim (fun e => h.dom' b e) (fun g => .inr (Nat.le_trans h.size g))
  fresh b o hb hd hn := by
    have hd' : b ∉ dom L' := fun e => (h.dom' b e).elim hd (fun g => by omega)
    exact k.fresh b o (Nat.lt_of_lt_of_le hb h.size) hd' (h.fresh b o hb hd hn)
theorem Sim.drop {H : Ghost} {L L' : Loc} {w : World} (h : Sim H L w) (hs : L'.Sublist L) : Sim H L' w :=
  ⟨h.gl, h.ok, fun b m hm => h.obj b m (hs.subset hm), h.nodup.sublist (hs.map _)⟩
theorem Step.drop {H H' : Ghost} {L L' L'' : Loc} {w w' : World} (h : Step H L w H' L' w') (hs : L''.Sublist L') : Step H L w H' L'' w' :=
  { h with dom' := fun b hb => h.dom' b ((hs.map Prod.fst).subset hb) }
theorem Sim.perm {H : Ghost} {L L' : Loc} {w : World} (h : Sim H L w) (hp : L.Perm L') : Sim H L' w :=
  ⟨h.gl, h.ok, fun b m hm => h.obj b m (hp.mem_iff.2 hm), (hp.map _).nodup_iff.1 h.nodup⟩
theorem dom_perm {L L' : Loc} (hp : L.Perm L') (b : Nat) : b ∈ dom L ↔ b ∈ dom L' := (hp.map Prod.fst).mem_iff
theorem Step.perm {H H' : Ghost} {L L' M M' : Loc} {w w' : World} (h : Step H L w H' L' w') (hp : L.Perm M) (hq : L'.Perm M') : Step H M w H' M' w' :=
  { h with
    frame := fun b hb hd => h.frame b hb (fun e => hd ((dom_perm hp b).1 e))
    dom' := fun b hb => (h.dom' b ((dom_perm hq b).2 hb)).imp (fun e => (dom_perm hp b).1 e) id
    fresh := fun b o hb hd hn => h.fresh b o hb (fun e => hd ((dom_perm hp b).1 e)) hn }
theorem Sim.framed {H H' : Ghost} {L L' R : Loc} {w w' : World} (h : Sim H (L ++ R) w) (hs : Step H L w H' L' w') (h' : Sim H' L' w') : Sim H' (L' ++ R) w' := by
  have hnd := h.nodup
  rw [List.map_append, List.nodup_append] at hnd
  obtain ⟨_, hR, hLR⟩ := hnd
  have hnotL : ∀ b, b ∈ dom R → b ∉ dom L := fun b hb hl => hLR b hl b hb rfl
  refine ⟨h'.gl, h'.ok, fun b m hm => ?_, ?_⟩
  · rcases List.mem_append.1 hm with hm | hm
    · exact h'.obj b m hm
    · have hmR : (b, m) ∈ L ++ R := List.mem_append.2 (.inr hm)
      have hlt := (h.obj b m hmR).lt
      have hnl := hnotL b (mem_dom hm)
      exact (h.obj b m hmR).keep hs.le (hs.frame b hlt hnl) (fun o => hs.fresh b o hlt hnl)
  · rw [List.map_append, List.nodup_append]
    refine ⟨h'.nodup, hR, ?_⟩
    rintro b hb c hc rfl
    rcases hs.dom' b hb with hb | hb
    · exact hnotL b hc hb
    · have : b < w.heap.size := h.lt_dom (by unfold dom; rw [List.map_append]; exact List.mem_append.2 (.inr hc))
      omega
theorem Step.framed {H H' : Ghost} {L L' R : Loc} {w w' : World} (hs : Step H L w H' L' w') : Step H (L ++ R) w H' (L' ++ R) w' where
  le := hs.le
  os := hs.os
  tape := hs.tape
  output := hs.output
  size := hs.size
  frame b hb hd := hs.frame b hb (fun e => hd (by unfold dom at *; rw [List.map_append]; exact List.mem_append.2 (.inl e)))
  dom' b hb := by
    unfold dom at *
    rw [List.map_append, List.mem_append] at hb
    rcases hb with hb | hb
    · exact (hs.dom' b hb).imp (fun e => by rw [List.map_append]; exact List.mem_append.2 (.inl e)) id
    · exact .inl (by rw [List.map_append]; exact List.mem_append.2 (.inr hb))
  fresh b o hb hd hn := hs.fresh b o hb (fun e => hd (by unfold dom at *; rw [List.map_append]; exact List.mem_append.2 (.inl e))) hn
theorem Step.below {H H' : Ghost} {L' : Loc} {w w' : World} (h : Step H [] w H' L' w') : Go.RowKit.Below w.heap.size w w' :=
  ⟨h.os, h.tape, h.output, h.size, fun k hk => h.frame k hk (by simp [dom])⟩
end Sp

/- What a walk is about, in abstract values: code, calls, and the rules of code. -/
set_option linter.unusedVariables false
namespace Sp
open Go
theorem beq_ne {i j : Nat} (h : ¬ i = j) : Nat.beq i j = false := by rw [Bool.eq_false_iff]; exact fun e => h (Nat.eq_of_beq_eq_true e)
abbrev Env := Nat → D
def upd (t : Env) (i : Nat) (d : D) : Env := fun j => bif Nat.beq j i then d else t j
structure AS where
  t : Env
  df : List Deferred
def D.ofConst1 : Value → D
  | .int k n => .int k n
  | .bool b => .bool b
  | .string s => .str s
  | .slice none 0 0 => .emp
  | .pointer none => .nilp
  | .nilIface => .nili
  | .nilFunc => .nilf
  | _ => .any
def D.ofConst : Value → D
  | .agg cs => bif cs.toList.all Value.oneCell' then .agg (cs.toList.map D.ofConst1) else .any
  | .tuple cs => .tup (cs.toList.map D.ofConst1)
  | v => D.ofConst1 v
def AS.ev (α : AS) : Operand → D
  | .tmp i => α.t i
  | .const v => D.ofConst v
  | .global g => .ptr g 0
  | .func f => .func (.func f) [] []
def AS.put (α : AS) (dst : Option Tmp) (d : D) : AS :=
  match dst with
  | some i => { α with t := upd α.t i d }
  | none => α
theorem Enc.ofConst1 (H : Ghost) (v : Value) : Enc H (D.ofConst1 v) v := by
  unfold D.ofConst1
  split <;> first | exact .int _ _ | exact .bool _ | exact .str _ | exact .emp _ | exact .nilp | exact .nili | exact .nilf | exact .any _
theorem Enc.ofConst (H : Ghost) (v : Value) : Enc H (D.ofConst v) v := by
  unfold D.ofConst
  split
  · rename_i cs
    cases hv : cs.toList.all Value.oneCell' with
    | false => exact .any _
    | true =>
      refine .agg _ _ (by simp) (fun i v e => ?_) (fun i d v e k => ?_)
      · simp only [List.all_eq_true] at hv
        exact hv v (Array.mem_toList_iff.2 (Array.mem_of_getElem? e))
      · simp only [List.getElem?_map, Array.getElem?_toList, k, Option.map_some, Option.some.injEq] at e
        subst e; exact Enc.ofConst1 H v
  · rename_i cs
    refine .tup _ _ (by simp) (fun i d v e k => ?_)
    simp only [List.getElem?_map, Array.getElem?_toList, k, Option.map_some, Option.some.injEq] at e
    subst e; exact Enc.ofConst1 H v
  · exact Enc.ofConst1 H v
structure Tm (H : Ghost) (n : Nat) (α : AS) (a : Act) : Prop where
  size : a.tmps.size = n
  val : ∀ i, Enc H (α.t i) (a.tmps.getD i undef)
  df : a.defers = α.df
theorem Tm.mono {H H' : Ghost} (hl : H.le H') {n : Nat} {α : AS} {a : Act} (h : Tm H n α a) : Tm H' n α a :=
  ⟨h.size, fun i => (h.val i).mono hl, h.df⟩
theorem Tm.ev {H : Ghost} {n : Nat} {α : AS} {a : Act} (h : Tm H n α a) (x : Operand) : Enc H (α.ev x) (a.eval x) := by
  cases x with
  | tmp i => exact h.val i
  | const v => exact Enc.ofConst H v
  | global g => exact .ptr g 0
  | func f => exact .func _ _ _ _ _ rfl rfl (fun i d v e => by simp at e) (fun i d v e => by simp at e)
theorem Tm.put {H : Ghost} {n : Nat} {α : AS} {a : Act} (h : Tm H n α a) {dst : Option Tmp} (hd : ∀ i, dst = some i → i < n) {d : D} {v : Value} (hv : Enc H d v) :
    Tm H n (α.put dst d) (a.put dst v) := by
  cases dst with
  | none => exact h
  | some i =>
    have hi := hd i rfl
    refine ⟨by simp [Act.put, h.size], fun j => ?_, h.df⟩
    simp only [AS.put, upd, Act.put]
    by_cases e : j = i
    · subst e
      have : (a.tmps.setIfInBounds j v).getD j undef = v := by
        rw [Array.getD_eq_getD_getElem?, Array.getElem?_setIfInBounds_self_of_lt (by rw [h.size]; exact hi)]; rfl
      rw [this]
      simpa using hv
    · have e' : Nat.beq j i = false := beq_ne e
      have : (a.tmps.setIfInBounds i v).getD j undef = a.tmps.getD j undef := by
        rw [Array.getD_eq_getD_getElem?, Array.getD_eq_getD_getElem?, Array.getElem?_setIfInBounds_ne (fun h => e h.symm)]
      rw [this, e']
      exact h.val j
theorem Enc.bool_inv {H : Ghost} {b : Bool} {v : Value} (h : Enc H (.bool b) v) : v = .bool b := by cases h with | bool => rfl | data _ es he => simp [D.elems] at he
theorem Enc.int_inv {H : Ghost} {k : IntKind} {z : Int} {v : Value} (h : Enc H (.int k z) v) : v = .int k z := by cases h with | int => rfl | data _ es he => simp [D.elems] at he
theorem Enc.ptr_inv {H : Ghost} {b o : Nat} {v : Value} (h : Enc H (.ptr b o) v) : v = .pointer (some ⟨b, o, none⟩) := by cases h with | ptr => rfl | data _ es he => simp [D.elems] at he
theorem Enc.emp_inv {H : Ghost} {v : Value} (h : Enc H .emp v) : ∃ a, v = .slice a 0 0 := by cases h with | emp a => exact ⟨a, rfl⟩ | data _ es he => simp [D.elems] at he
theorem Enc.sl_inv {H : Ghost} {b o n : Nat} {v : Value} (h : Enc H (.sl b o n) v) : ∃ cap, v = .slice (some ⟨b, o, none⟩) n cap ∧ n ≤ cap := by cases h with | sl _ _ _ cap h => exact ⟨cap, rfl, h⟩ | data _ es he => simp [D.elems] at he
theorem Enc.map_inv {H : Ghost} {b : Nat} {v : Value} (h : Enc H (.map b) v) : v = .map (some b) := by cases h with | map => rfl | data _ es he => simp [D.elems] at he
theorem Enc.func_inv {H : Ghost} {f : Fn} {cs ds : List D} {v : Value} (h : Enc H (.func f cs ds) v) : ∃ vs ws, v = .func f vs ws ∧ EncL H cs vs ∧ EncL H ds ws := by
  cases h with
  | func _ _ _ vs ws a b c d => exact ⟨vs, ws, rfl, ⟨a, c⟩, ⟨b, d⟩⟩
  | data _ es he => simp [D.elems] at he
theorem Enc.iface_inv {H : Ghost} {t : TypeId} {d : D} {v : Value} (h : Enc H (.iface t d) v) : ∃ u, v = .iface t u ∧ Enc H d u := by cases h with | iface _ _ u h => exact ⟨u, rfl, h⟩ | data _ es he => simp [D.elems] at he
theorem Enc.nili_inv {H : Ghost} {v : Value} (h : Enc H .nili v) : v = .nilIface := by cases h with | nili => rfl | data _ es he => simp [D.elems] at he
theorem Enc.tup_inv {H : Ghost} {cs : List D} {v : Value} (h : Enc H (.tup cs) v) : ∃ vs, v = .tuple vs ∧ EncL H cs vs := by cases h with | tup _ vs hs h => exact ⟨vs, rfl, hs, h⟩ | data _ es he => simp [D.elems] at he
inductive AExit where
  | normal
  | exit (id : Nat)
  | goto (l : Nat)
  | ret
  | panic (d : D)
inductive EncExit (H : Ghost) : AExit → Exit → Prop
  | normal : EncExit H .normal .normal
  | exit (id : Nat) : EncExit H (.exit id) (.exit id)
  | goto (l : Nat) : EncExit H (.goto l) (.goto l)
  | ret : EncExit H .ret .ret
  | panic (d : D) (v : Value) (h : Enc H d v) : EncExit H (.panic d) (.panic [{ v, recovered := false }])
abbrev Post := AExit → AS → Loc → Prop
def conc (n : Nat) (Q : Post) (H : Ghost) (L : Loc) (w : World) : Exit → Act → World → Prop := fun e a' w' =>
  ∃ H' L' α' ae, Sim H' L' w' ∧ Tm H' n α' a' ∧ Step H L w H' L' w' ∧ EncExit H' ae e ∧ Q ae α' L'
theorem conc_step {n : Nat} {Q : Post} {H H' : Ghost} {L L' : Loc} {w w' : World} (hs : Step H L w H' L' w') {e : Exit} {a : Act} {u : World}
    (h : conc n Q H' L' w' e a u) : conc n Q H L w e a u := by
  obtain ⟨H2, L2, α2, ae, s, t, st, ee, q⟩ := h
  exact ⟨H2, L2, α2, ae, s, t, hs.trans st, ee, q⟩
def ACode (P : Program) (n : Nat) (c : Code) (Q : Post) (α : AS) (L : Loc) : Prop :=
  ∀ H w a, Sim H L w → Tm H n α a → c.wp P (conc n Q H L w) a w
def AThen (next : AS → Loc → Prop) (Q : Post) : Post
  | .normal, α, L => next α L
  | e, α, L => Q e α L
def ABlock (id : Nat) (Q : Post) : Post
  | .exit id', α, L => bif Nat.beq id' id then Q .normal α L else Q (.exit id') α L
  | e, α, L => Q e α L
section
variable {P : Program} {n : Nat} {Q : Post} {α : AS} {L : Loc}
theorem ACode.mono {c : Code} {Q' : Post} (h : ACode P n c Q α L) (hq : ∀ e α L, Q e α L → Q' e α L) : ACode P n c Q' α L := by
  intro H w a hs ht
  refine wp_mono (h H w a hs ht) ?_
  rintro e a' w' ⟨H', L', α', ae, s, t, st, ee, q⟩
  exact ⟨H', L', α', ae, s, t, st, ee, hq _ _ _ q⟩
theorem conc_here {H : Ghost} {w : World} {a : Act} (hs : Sim H L w) (ht : Tm H n α a) {e : Exit} {ae : AExit} (he : EncExit H ae e) (q : Q ae α L) : conc n Q H L w e a w :=
  ⟨H, L, α, ae, hs, ht, Step.refl _ _ _, he, q⟩
theorem Ye (h : Q .normal α L) : ACode P n .skip Q α L := fun H w a hs ht => wp_skip (conc_here hs ht .normal h)
theorem Yg {id : Nat} (h : Q (.exit id) α L) : ACode P n (.exit id) Q α L := fun H w a hs ht => wp_exit (conc_here hs ht (.exit id) h)
theorem Yd (h : Q .ret α L) : ACode P n .ret Q α L := fun H w a hs ht => wp_ret (conc_here hs ht .ret h)
theorem Yb {x y : Code} (h : ACode P n x (AThen (ACode P n y Q) Q) α L) : ACode P n (.seq x y) Q α L := by
  intro H w a hs ht
  refine wp_seq (wp_mono (h H w a hs ht) ?_)
  rintro e a' w' ⟨H', L', α', ae, s, t, st, ee, q⟩
  cases ee with
  | normal => exact wp_mono (q H' w' a' s t) (fun e a w h => conc_step st h)
  | exit id => exact ⟨H', L', α', _, s, t, st, .exit id, q⟩
  | goto l => exact ⟨H', L', α', _, s, t, st, .goto l, q⟩
  | ret => exact ⟨H', L', α', _, s, t, st, .ret, q⟩
  | panic d v hv => exact ⟨H', L', α', _, s, t, st, .panic d v hv, q⟩
theorem ACode.cond {c : Operand} {x y : Code} {t : Bool} (hc : α.ev c = .bool t) (h1 : t = true → ACode P n x Q α L) (h2 : t = false → ACode P n y Q α L) :
    ACode P n (.cond c x y) Q α L := by
  intro H w a hs ht
  have he := ht.ev c
  rw [hc] at he
  have he' : a.eval c = .bool t := he.bool_inv
  exact wp_cond_split he' (fun e => h1 e H w a hs ht) (fun e => h2 e H w a hs ht)
theorem ACode.condT {c : Operand} {x y : Code} (hc : α.ev c = .bool true) (h1 : ACode P n x Q α L) : ACode P n (.cond c x y) Q α L :=
  ACode.cond hc (fun _ => h1) (fun e => by cases e)
theorem ACode.condF {c : Operand} {x y : Code} (hc : α.ev c = .bool false) (h1 : ACode P n y Q α L) : ACode P n (.cond c x y) Q α L :=
  ACode.cond hc (fun e => by cases e) (fun _ => h1)
theorem Yf {id : Nat} {c : Code} (h : ACode P n c (ABlock id Q) α L) : ACode P n (.block id c) Q α L := by
  intro H w a hs ht
  refine wp_block (wp_mono (h H w a hs ht) ?_)
  rintro e a' w' ⟨H', L', α', ae, s, t, st, ee, q⟩
  cases ee with
  | normal => exact ⟨H', L', α', _, s, t, st, .normal, q⟩
  | exit id' =>
    by_cases hid : id' = id
    · subst hid
      simp only [Exit.inBlock, if_true]
      refine ⟨H', L', α', _, s, t, st, .normal, ?_⟩
      simpa [ABlock] using q
    · have hid' : Nat.beq id' id = false := beq_ne hid
      simp only [Exit.inBlock, hid, if_false]
      refine ⟨H', L', α', _, s, t, st, .exit id', ?_⟩
      simpa [ABlock, hid'] using q
  | goto l => exact ⟨H', L', α', _, s, t, st, .goto l, q⟩
  | ret => exact ⟨H', L', α', _, s, t, st, .ret, q⟩
  | panic d v hv => exact ⟨H', L', α', _, s, t, st, .panic d v hv, q⟩
inductive D.Le : D → D → Prop
  | refl (d : D) : D.Le d d
  | any (d : D) : D.Le d .any
  | emp (d : D) (h : d.elems = some []) : D.Le .emp d
  | own (b cap : Nat) (es : List D) (d : D) (h : d.elems = some es) : D.Le (.own b cap es) d
  | data (c d : D) (es : List D) (h : c.elems = some es) (k : d.elems = some es) : D.Le c d
  | agg (cs ds : List D) (hl : cs.length = ds.length) (h : ∀ (i : Nat) c d, cs[i]? = some c → ds[i]? = some d → D.Le c d) : D.Le (.agg cs) (.agg ds)
  | tup (cs ds : List D) (hl : cs.length = ds.length) (h : ∀ (i : Nat) c d, cs[i]? = some c → ds[i]? = some d → D.Le c d) : D.Le (.tup cs) (.tup ds)
  | iface (t : TypeId) (c d : D) (h : D.Le c d) : D.Le (.iface t c) (.iface t d)
theorem Enc.le {H : Ghost} {c d : D} (hl : D.Le c d) : ∀ {v : Value}, Enc H c v → Enc H d v := by
  induction hl with
  | refl d => exact fun h => h
  | any d => exact fun _ => .any _
  | emp d hd =>
    intro v h
    cases h with
    | emp a => exact Enc.data_nil hd a 0
    | data _ es he => simp [D.elems] at he
  | data c d es hc hd =>
    intro v h
    obtain ⟨a, cap, rfl, h1, h2⟩ := h.data_inv hc
    rcases h2 with rfl | ⟨b, o, rfl, h2⟩
    · exact Enc.data_nil hd a cap
    · exact Enc.data_mk hd h1 h2
  | own b cap es d hd =>
    intro v h
    obtain ⟨rfl, hc, hr⟩ := h.own_inv
    exact Enc.data_mk hd hc hr
  | agg cs ds hl _ ih =>
    intro v h
    cases h with
    | data _ es he => simp [D.elems] at he
    | agg _ vs hs h1 h =>
      refine .agg ds vs (hs.trans hl) h1 (fun i d v e k => ?_)
      have hi : i < cs.length := by have := (List.getElem?_eq_some_iff.1 e).1; omega
      exact ih i cs[i] d (List.getElem?_eq_getElem hi) e (h i _ v (List.getElem?_eq_getElem hi) k)
  | tup cs ds hl _ ih =>
    intro v h
    cases h with
    | data _ es he => simp [D.elems] at he
    | tup _ vs hs h =>
      refine .tup ds vs (hs.trans hl) (fun i d v e k => ?_)
      have hi : i < cs.length := by have := (List.getElem?_eq_some_iff.1 e).1; omega
      exact ih i cs[i] d (List.getElem?_eq_getElem hi) e (h i _ v (List.getElem?_eq_getElem hi) k)
  | iface t c d _ ih =>
    intro v h
    cases h with
    | data _ es he => simp [D.elems] at he
    | iface _ _ v h => exact .iface t d v (ih h)
def upds (t : Env) : List (Nat × D) → Env
  | [] => t
  | (i, d) :: r => upd (upds t r) i d
theorem upd_self (t : Env) (i : Nat) : upd t i (t i) = t := by
  funext j
  unfold upd
  by_cases e : j = i
  · subst e; simp
  · have : Nat.beq j i = false := beq_ne e
    simp [this]
def Agree (α : AS) (l : List (Nat × D)) : Prop := ∀ p ∈ l, D.Le (α.t p.1) p.2
theorem Yu {γ : Type} {c : Code} (env : γ → List (Nat × D)) (loc : γ → Loc) (inv : γ → Prop) (μ : γ → Nat) (g₀ : γ) (h₀ : inv g₀)
    (ha : Agree α (env g₀)) (hl : (loc g₀).Sublist L)
    (round : ∀ g, inv g → ∀ t : Env, ACode P n c (AThen (fun α' L' => ∃ g', inv g' ∧ μ g' < μ g ∧ α'.df = α.df ∧ Agree α' (env g') ∧ (loc g').Sublist L') Q) ⟨upds t (env g), α.df⟩ (loc g)) :
    ACode P n (.loop c) Q α L := by
  intro H w a hs ht
  have lower : ∀ {H : Ghost} {α' : AS} {a : Act} {l : List (Nat × D)}, Tm H n α' a → α'.df = α.df → Agree α' l → ∃ t : Env, Tm H n ⟨upds t l, α.df⟩ a := by
    intro H α' a l ht hdf hag
    have key : ∀ (l' : List (Nat × D)), (∀ p ∈ l', D.Le (α'.t p.1) p.2) → ∀ i, Enc H ((upds α'.t l') i) (a.tmps.getD i undef) := by
      intro l'
      induction l' with
      | nil => intro _ i; exact ht.val i
      | cons p r ih =>
        intro hle i
        obtain ⟨j, d⟩ := p
        simp only [upds, upd]
        by_cases e : i = j
        · subst e
          simp only [cond_true, Nat.beq_refl]
          exact (ht.val i).le (hle (i, d) (by simp))
        · have e' : Nat.beq i j = false := beq_ne e
          rw [e']
          exact ih (fun p hp => hle p (by simp [hp])) i
    exact ⟨α'.t, ht.size, key l hag, hdf ▸ ht.df⟩
  have key : ∀ m g, μ g = m → inv g → ∀ (H' : Ghost) (w' : World) (a' : Act) (t : Env), Sim H' (loc g) w' → Tm H' n ⟨upds t (env g), α.df⟩ a' → Step H L w H' (loc g) w' →
      ∀ (b : Frame) (k : List Item) (cs : List Frame), ∃ e a'' w'', conc n Q H L w e a'' w'' ∧ Arrives P (lone (b.at a' (.code c :: .inLoop c :: k)) cs w') b k cs e a'' w'' := by
    intro m
    induction m using Nat.strongRecOn with
    | _ m ih =>
      intro g hm hg H' w' a' t s ht' st b k cs
      obtain ⟨e, a₁, w₁, hq, harr⟩ := round g hg t H' w' a' s ht' b (.inLoop c :: k) cs
      obtain ⟨H1, L1, α1, ae, s1, t1, st1, ee, q⟩ := hq
      cases ee with
      | normal =>
        obtain ⟨g', hg', hlt, hdf, hag, hsub⟩ := q
        obtain ⟨t2, ht2⟩ := lower t1 hdf hag
        obtain ⟨e₂, a₂, w₂, hq₂, harr₂⟩ := ih (μ g') (hm ▸ hlt) g' rfl hg' H1 w₁ a₁ t2 (s1.drop hsub) ht2 ((st.trans st1).drop hsub) b k cs
        exact ⟨e₂, a₂, w₂, hq₂, .of_steps (Steps.trans harr (.one step_inLoop)) harr₂⟩
      | exit id => exact ⟨_, a₁, w₁, ⟨H1, L1, α1, _, s1, t1, st.trans st1, .exit id, q⟩, .pass (x := .inLoop c) rfl (fun _ _ => .inl (by simp)) harr⟩
      | goto l => exact ⟨_, a₁, w₁, ⟨H1, L1, α1, _, s1, t1, st.trans st1, .goto l, q⟩, .pass (x := .inLoop c) rfl (fun _ _ => .inl (by simp)) harr⟩
      | ret => exact ⟨_, a₁, w₁, ⟨H1, L1, α1, _, s1, t1, st.trans st1, .ret, q⟩, .pass (x := .inLoop c) rfl (fun _ _ => .inl (by simp)) harr⟩
      | panic d v hv => exact ⟨_, a₁, w₁, ⟨H1, L1, α1, _, s1, t1, st.trans st1, .panic d v hv, q⟩, .pass (x := .inLoop c) rfl (fun _ _ => .inl (by simp)) harr⟩
  obtain ⟨t0, ht0⟩ := lower ht rfl ha
  intro b k cs
  obtain ⟨e, a', w', hq, harr⟩ := key _ g₀ rfl h₀ H w a t0 (hs.drop hl) ht0 ((Step.refl H L w).drop hl) b k cs
  exact ⟨e, a', w', hq, .of_steps (.one step_loop) harr⟩
theorem ACode.weaken {c : Code} (l : List (Nat × D)) (L' : Loc) (ha : Agree α l) (hl : L'.Sublist L) (h : ∀ t, ACode P n c Q ⟨upds t l, α.df⟩ L') : ACode P n c Q α L := by
  intro H w a hs ht
  have key : ∀ (l' : List (Nat × D)), (∀ p ∈ l', D.Le (α.t p.1) p.2) → ∀ i, Enc H ((upds α.t l') i) (a.tmps.getD i undef) := by
    intro l'
    induction l' with
    | nil => intro _ i; exact ht.val i
    | cons p r ih =>
      intro hle i
      obtain ⟨j, d⟩ := p
      simp only [upds, upd]
      by_cases e : i = j
      · subst e
        simp only [Nat.beq_refl, cond_true]
        exact (ht.val i).le (hle (i, d) (by simp))
      · have e' : Nat.beq i j = false := beq_ne e
        rw [e']
        exact ih (fun p hp => hle p (by simp [hp])) i
  have ht' : Tm H n ⟨upds α.t l, α.df⟩ a := ⟨ht.size, key l ha, ht.df⟩
  refine wp_mono (h α.t H w a (hs.drop hl) ht') (fun e a w hc => conc_step ?_ hc)
  exact (Step.refl H L _).drop hl
end
end Sp

/- Calls in abstract values; a function's body; types; lists of operations. -/
set_option linter.unusedVariables false
namespace Sp
open Go
structure TI where
  size : Nat
  agg : Bool
  zero : List D
  bytes : Nat
structure TOk (P : Program) (t : TypeId) (i : TI) : Prop where
  info : ∃ ti z, P.info? t = some ti ∧ ti.size = i.size ∧ ti.bytes = i.bytes ∧ ti.zero = some z ∧ z.cells.size = i.size ∧ ∀ H, EncCs H i.zero z.cells
  isAgg : ∀ w, (Go.isAgg t).run P w = .ok i.agg w
  one : i.agg = false → i.size = 1
structure FOk (P : Program) (s : TypeId) (f : Nat) (off : Nat) : Prop where
  ok : ∃ fields fd, P.underlying s = some (.struct fields) ∧ fields[f]? = some fd ∧ fd.offset = off ∧ ((P.info? fd.type).map (·.size)).getD 0 ≠ 0
def lookupN {α : Type} : List (Nat × α) → Nat → Option α
  | [], _ => none
  | (k, v) :: r, n => bif Nat.beq n k then some v else lookupN r n
theorem lookupN_mem {α : Type} : ∀ (l : List (Nat × α)) (n : Nat) (v : α), lookupN l n = some v → (n, v) ∈ l
  | [], _, _, h => by simp [lookupN] at h
  | (k, u) :: r, n, v, h => by
    unfold lookupN at h
    cases e : Nat.beq n k with
    | true => rw [e] at h; simp at h; have := Nat.eq_of_beq_eq_true e; subst this; subst h; simp
    | false => rw [e] at h; exact List.mem_cons_of_mem _ (lookupN_mem r n v h)
structure PlOk (P : Program) (s : TypeId) (l : List (Nat × Nat)) : Prop where
  ok : ∃ fields, P.underlying s = some (.struct fields) ∧ ∀ w, (fields.mapM (m := Sem) fun f => do pure (f.offset, ← Go.sizeOf f.type)).run P w = .ok l.toArray w
structure PT where
  P : Program
  tys : List (Nat × TI)
  flds : List (Nat × List Nat)
  elems : List (Nat × Nat)
  plcs : List (Nat × List (Nat × Nat))
  tok : ∀ p ∈ tys, TOk P p.1 p.2
  fok : ∀ p ∈ flds, ∀ f off, p.2[f]? = some off → FOk P p.1 f off
  eok : ∀ p ∈ elems, P.underlying p.1 = some (.slice p.2)
  epos : ∀ p ∈ elems, ∀ i, lookupN tys p.2 = some i → 0 < i.size
  pok : ∀ p ∈ plcs, PlOk P p.1 p.2
def PT.ty (X : PT) (t : TypeId) : Option TI := lookupN X.tys t
def PT.fld (X : PT) (s f : Nat) : Option Nat := (lookupN X.flds s).bind (·[f]?)
def PT.plc (X : PT) (t : TypeId) : Option (List (Nat × Nat)) := lookupN X.plcs t
def PT.elem (X : PT) (t : TypeId) : Option Nat := lookupN X.elems t
theorem PT.ty_ok (X : PT) {t : TypeId} {i : TI} (h : X.ty t = some i) : TOk X.P t i := X.tok _ (lookupN_mem _ _ _ h)
theorem PT.fld_ok (X : PT) {s f off : Nat} (h : X.fld s f = some off) : FOk X.P s f off := by
  unfold PT.fld at h
  rw [Option.bind_eq_some_iff] at h
  obtain ⟨l, h1, h2⟩ := h
  exact X.fok _ (lookupN_mem _ _ _ h1) f off h2
theorem PT.elem_ok (X : PT) {t : TypeId} {e : Nat} (h : X.elem t = some e) : X.P.underlying t = some (.slice e) := X.eok _ (lookupN_mem _ _ _ h)
theorem PT.elem_pos (X : PT) {t : TypeId} {e : Nat} {i : TI} (h : X.elem t = some e) (hT : X.ty e = some i) : 0 < i.size := X.epos _ (lookupN_mem _ _ _ h) i hT
theorem PT.plc_ok (X : PT) {t : TypeId} {l : List (Nat × Nat)} (h : X.plc t = some l) : PlOk X.P t l := X.pok _ (lookupN_mem _ _ _ h)
theorem TOk.sizeOf {P : Program} {t : TypeId} {i : TI} (h : TOk P t i) (w : World) : (Go.sizeOf t).run P w = .ok i.size w := by
  obtain ⟨ti, z, h1, h2, _⟩ := h.info
  simp [Go.sizeOf, typeInfo, h1, h2]
inductive AEnd where
  | ret (d : D)
  | pan (d : D)
def EncEnd (H : Ghost) (R : AEnd → Prop) : Ending → Prop
  | .returned v => ∃ d, Enc H d v ∧ R (.ret d)
  | .panicked ch => ∃ d v, ch = [{ v, recovered := false }] ∧ Enc H d v ∧ R (.pan d)
  | .outgrown => False
def Enters (P : Program) (f : FuncId) : Prop := ∃ fn, P.funcs[f]? = some fn ∧ (fn.name == "runtime.NumGoroutine") = false ∧ fn.body.isNone = false
def ACalls (X : PT) (f : FuncId) (args : List D) (L : Loc) (R : AEnd → Loc → Prop) : Prop :=
  Enters X.P f ∧ ∀ H w vs, Sim H L w → EncL H args vs → Calls X.P f vs w fun e w' => ∃ H' L', Sim H' L' w' ∧ Step H L w H' L' w' ∧ EncEnd H' (fun r => R r L') e
theorem EncEnd.mono {H : Ghost} {R R' : AEnd → Prop} (h : ∀ r, R r → R' r) {e : Ending} (he : EncEnd H R e) : EncEnd H R' e := by
  cases e with
  | returned v => obtain ⟨d, a, b⟩ := he; exact ⟨d, a, h _ b⟩
  | panicked ch => obtain ⟨d, v, a, b, c⟩ := he; exact ⟨d, v, a, b, h _ c⟩
  | outgrown => exact he
section
variable {X : PT} {f : FuncId}
theorem ACalls.mono {args : List D} {L : Loc} {R R' : AEnd → Loc → Prop} (h : ACalls X f args L R) (hr : ∀ r L', R r L' → R' r L') : ACalls X f args L R' :=
  ⟨h.1, fun H w vs hs ha => (h.2 H w vs hs ha).mono fun e w' ⟨H', L', a, b, c⟩ => ⟨H', L', a, b, c.mono fun r => hr r L'⟩⟩
theorem ACalls.frame {args : List D} {L : Loc} {R : AEnd → Loc → Prop} (h : ACalls X f args L R) (L1 : Loc) : ACalls X f args (L ++ L1) (fun r L' => ∃ L0, L' = L0 ++ L1 ∧ R r L0) := by
  refine ⟨h.1, fun H w vs hs ha => ?_⟩
  have hs0 : Sim H L w := hs.drop (List.sublist_append_left _ _)
  exact (h.2 H w vs hs0 ha).mono fun e w' ⟨H', L', a, b, c⟩ => ⟨H', L' ++ L1, hs.framed b a, b.framed, c.mono fun r hr => ⟨L', rfl, hr⟩⟩
theorem EncL.le {H : Ghost} {cs ds : List D} {vs : Array Value} (h : EncL H cs vs) (hl : cs.length = ds.length)
    (hle : ∀ (i : Nat) c d, cs[i]? = some c → ds[i]? = some d → D.Le c d) : EncL H ds vs := by
  refine ⟨h.1.trans hl, fun i d v e k => ?_⟩
  have hi : i < cs.length := by have := (List.getElem?_eq_some_iff.1 e).1; omega
  exact (h.2 i cs[i] v (List.getElem?_eq_getElem hi) k).le (hle i _ d (List.getElem?_eq_getElem hi) e)
def Conv (L : Loc) (d0 : D) (L' : Loc) (d : D) : Prop :=
  ∀ H w v, Sim H L w → Enc H d0 v → ∃ H', Sim H' L' w ∧ Step H L w H' L' w ∧ Enc H' d v
theorem Conv.drop {L L' : Loc} {a b : D} (hs : L'.Sublist L) (hl : D.Le a b) : Conv L a L' b :=
  fun H w v s he => ⟨H, s.drop hs, (Step.refl H L w).drop hs, he.le hl⟩
def ARead (X : PT) (L : Loc) (p : D) (t : TypeId) (d : D) : Prop :=
  ∀ H w v, Sim H L w → Enc H p v → ∃ a x, v = .pointer (some a) ∧ (loadVar t a).run X.P w = .ok x w ∧ Enc H d x
def ARes1 (X : PT) (α : AS) (L : Loc) : ResultVar → D → Prop
  | .tmp t, d => α.t t = d
  | .cell t ty, d => ARead X L (α.t t) ty d
inductive AResL (X : PT) (α : AS) (L : Loc) : List ResultVar → List D → Prop
  | nil : AResL X α L [] []
  | cons {r : ResultVar} {d : D} {rs : List ResultVar} {ds : List D} (h : ARes1 X α L r d) (k : AResL X α L rs ds) : AResL X α L (r :: rs) (d :: ds)
def resD : List D → D
  | [d] => d
  | ds => .tup ds
def AFin (X : PT) (fn : Func) (R : AEnd → Loc → Prop) : Post
  | .normal, α, L | .ret, α, L => α.df = [] ∧ ∃ ds d L', AResL X α L fn.results.toList ds ∧ Conv L (resD ds) L' d ∧ R (.ret d) L'
  | .panic d, α, L => α.df = [] ∧ ∃ d' L', Conv L d L' d' ∧ R (.pan d') L'
  | _, _, _ => False
def resOf (tmps : Array Value) (r : ResultVar) : Sem Value :=
  match r with
  | .tmp t => pure (tmps.getD t undef)
  | .cell b t => do loadVar t (← asAddr (tmps.getD b undef))
theorem results_eq (fn : Func) (tmps : Array Value) :
    results fn tmps = (do let vs ← fn.results.mapM (resOf tmps); pure (if h : vs.size = 1 then vs[0] else .tuple vs)) := rfl
theorem run_results {α : AS} {L : Loc} {H : Ghost} {n : Nat} {w : World} {a : Act} (hs : Sim H L w) (ht : Tm H n α a) :
    ∀ (rs : List ResultVar) (ds : List D), AResL X α L rs ds → ∃ vs : List Value, vs.length = ds.length ∧ (∀ (i : Nat) d v, ds[i]? = some d → vs[i]? = some v → Enc H d v) ∧
      (rs.mapM (resOf a.tmps)).run X.P w = .ok vs w := by
  intro rs ds h
  induction h with
  | nil => exact ⟨[], rfl, fun i d v e => by simp at e, by simp⟩
  | @cons r d rs ds hr _ ih =>
    obtain ⟨vs, hl, he, hrun⟩ := ih
    have one : ∃ v, Enc H d v ∧ (resOf a.tmps r).run X.P w = .ok v w := by
      cases r with
      | tmp t => subst hr; exact ⟨_, ht.val t, rfl⟩
      | cell b t =>
        obtain ⟨ad, x, e1, e2, e3⟩ := hr H w _ hs (ht.val b)
        refine ⟨x, e3, ?_⟩
        simp only [resOf, e1, asAddr, Sem.run_bind, Sem.run_pure, Result.andThen_ok]
        exact e2
    obtain ⟨v, hv, hrv⟩ := one
    refine ⟨v :: vs, by simp [hl], fun i d' v' e k => ?_, ?_⟩
    · cases i with
      | zero => simp at e k; subst e; subst k; exact hv
      | succ i => simp at e k; exact he i d' v' e k
    · rw [List.mapM_cons]
      simp only [Sem.run_bind, hrv, Result.andThen_ok, hrun, Sem.run_pure]
theorem ACalls.of_code {fn : Func} {c : Code} {args : List D} {L : Loc} {R : AEnd → Loc → Prop} (hf : X.P.funcs[f]? = some fn) (hb : fn.body = some c) (hname : (fn.name == "runtime.NumGoroutine") = false) (hn : args.length ≤ fn.ntmps)
    (h : ACode X.P fn.ntmps c (AFin X fn R) ⟨fun i => (args[i]?).getD .any, []⟩ L) : ACalls X f args L R := by
  refine ⟨⟨fn, hf, hname, by simp [hb]⟩, fun H w vs hs ha => ?_⟩
  refine calls_of_wp hf hb ?_
  have ht : Tm H fn.ntmps ⟨fun i => (args[i]?).getD .any, []⟩ { tmps := vs ++ Array.replicate (fn.ntmps - vs.size) undef, defers := [] } := by
    refine ⟨by simp [ha.1]; omega, fun i => ?_, rfl⟩
    show Enc H ((args[i]?).getD .any) _
    cases e : args[i]? with
    | none => exact .any _
    | some d =>
      have hi : i < vs.size := by rw [ha.1]; exact (List.getElem?_eq_some_iff.1 e).1
      have : (vs ++ Array.replicate (fn.ntmps - vs.size) undef).getD i undef = vs[i] := by
        rw [Array.getD_eq_getD_getElem?, Array.getElem?_append_left hi, Array.getElem?_eq_getElem hi]; rfl
      show Enc H d ((vs ++ Array.replicate (fn.ntmps - vs.size) undef).getD i undef)
      rw [this]
      exact ha.2 i d _ e (Array.getElem?_eq_getElem hi)
  have fin : ∀ (a' : Act) (w' : World) H' L' α', Sim H' L' w' → Tm H' fn.ntmps α' a' → Step H L w H' L' w' →
      (α'.df = [] ∧ ∃ ds d L'', AResL X α' L' fn.results.toList ds ∧ Conv L' (resD ds) L'' d ∧ R (.ret d) L'') →
      a'.defers = [] ∧ ∃ v, (results fn a'.tmps).run X.P w' = .ok v w' ∧ ∃ H' L', Sim H' L' w' ∧ Step H L w H' L' w' ∧ EncEnd H' (fun r => R r L') (.returned v) := by
    rintro a' w' H' L' α' s t st ⟨hdf, ds, d, L'', hres, hconv, hR⟩
    refine ⟨t.df.trans hdf, ?_⟩
    obtain ⟨vs', hl, he, hrun⟩ := run_results s t _ _ hres
    have hrun2 : (fn.results.mapM (resOf a'.tmps)).run X.P w' = .ok vs'.toArray w' := by
      rw [Array.mapM_eq_mapM_toList, Sem.run_map, hrun]; rfl
    refine ⟨if h : vs'.toArray.size = 1 then vs'.toArray[0] else .tuple vs'.toArray, ?_, ?_⟩
    · rw [results_eq, Sem.run_bind, hrun2]; rfl
    · have henc : Enc H' (resD ds) (if h : vs'.toArray.size = 1 then vs'.toArray[0] else .tuple vs'.toArray) := by
        cases ds with
        | nil =>
          have : vs' = [] := by cases vs' <;> simp_all
          subst this
          simp only [List.size_toArray, List.length_nil]
          exact .tup _ _ (by simp) (fun i d v e => by simp at e)
        | cons d0 r =>
          cases r with
          | nil =>
            obtain ⟨v0, rfl⟩ : ∃ v0, vs' = [v0] := by
              cases vs' with
              | nil => simp at hl
              | cons v r => cases r with
                | nil => exact ⟨v, rfl⟩
                | cons => simp at hl
            show Enc H' d0 _
            simpa using he 0 d0 v0 rfl rfl
          | cons d1 r =>
            have h2 : ¬ vs'.toArray.size = 1 := by simp [hl]
            rw [dif_neg h2]
            exact .tup _ _ (by simp [hl]) (fun i d v e k => he i d v e (by simpa using k))
      obtain ⟨H2, s2, t2, e2⟩ := hconv H' w' _ s henc
      exact ⟨H2, L'', s2, st.trans t2, d, e2, hR⟩
  refine wp_mono (h H w _ hs ht) ?_
  rintro e a' w' ⟨H', L', α', ae, s, t, st, ee, q⟩
  cases ee with
  | normal => exact fin a' w' H' L' α' s t st q
  | ret => exact fin a' w' H' L' α' s t st q
  | exit id => exact q.elim
  | goto l => exact q.elim
  | panic d v hv =>
    obtain ⟨hdf, d', L'', hconv, hR⟩ := q
    obtain ⟨H2, s2, t2, e2⟩ := hconv H' w' v s hv
    exact ⟨t.df.trans hdf, H2, L'', s2, st.trans t2, d', v, rfl, e2, hR⟩
end
end Sp

/- One operation in abstract values, and lists of operations in the text's order. -/
set_option linter.unusedVariables false
namespace Sp
open Go
def AOp (X : PT) (o : Oper) (ρ : Operand → D) (L : Loc) (K : D → Loc → Prop) (Kp : D → Loc → Prop) : Prop :=
  ∀ H w (a : Act), Sim H L w → (∀ x ∈ o.op.operands, Enc H (ρ x) (a.eval x)) →
    ∀ (next : Act → World → Prop) (Qc : Exit → Act → World → Prop),
      (∀ v H' L' w' d, Sim H' L' w' → Step H L w H' L' w' → Enc H' d v → K d L' → next (a.put o.dst v) w') →
      (∀ v H' L' w' d, Sim H' L' w' → Step H L w H' L' w' → Enc H' d v → Kp d L' → Qc (.panic [{ v, recovered := false }]) a w') →
      o.wp X.P a w next Qc
def AVal (X : PT) (o : Oper) (ρ : Operand → D) (L : Loc) (d : D) : Prop :=
  ∀ H w (e : Operand → Value), Sim H L w → (∀ x ∈ o.op.operands, Enc H (ρ x) (e x)) → ∃ v, (execOp e o).run X.P w = .ok (.value v) w ∧ Enc H d v
theorem AVal.op {X : PT} {o : Oper} {ρ : Operand → D} {L : Loc} {d : D} (h : AVal X o ρ L d) {K Kp : D → Loc → Prop} (k : K d L) : AOp X o ρ L K Kp := by
  intro H w a hs he next Qc hn _
  obtain ⟨v, hr, hv⟩ := h H w a.eval hs he
  unfold Oper.wp
  rw [hr]
  exact hn v H L w d hs (Step.refl _ _ _) hv k
def AOps (X : PT) (n : Nat) (ops : Array Oper) (Q : Post) (l : List Oper) (α : AS) (L : Loc) : Prop :=
  ∀ H w a, Sim H L w → Tm H n α a → ∀ Qc : Exit → Act → World → Prop, (∀ e a' w', conc n Q H L w e a' w' → Qc e a' w') → wpList X.P ops Qc l a w
section
variable {X : PT} {n : Nat} {ops : Array Oper} {Q : Post} {rest : List Oper} {α : AS} {L : Loc}
theorem Yc (h : Q .normal α L) : AOps X n ops Q [] α L :=
  fun H w a hs ht Qc hq => wpList_nil (hq _ _ _ (conc_here hs ht .normal h))
theorem Act.put_defers' (a : Act) (dst : Option Tmp) (v : Value) : (a.put dst v).defers = a.defers := by cases dst <;> rfl
theorem AOps.step {o : Oper} (hd : ∀ i, o.dst = some i → i < n)
    (h : AOp X o α.ev L (fun d L' => AOps X n ops Q rest (α.put o.dst d) L') (fun d L' => Q (.panic d) α L')) :
    ∀ H w a, Sim H L w → Tm H n α a → ∀ Qc : Exit → Act → World → Prop, (∀ e a' w', conc n Q H L w e a' w' → Qc e a' w') → o.wp X.P a w (wpList X.P ops Qc rest) Qc := by
  intro H w a hs ht Qc hq
  refine h H w a hs (fun x _ => ht.ev x) _ _ ?_ ?_
  · intro v H' L' w' d s t e k
    exact k H' w' _ s ((ht.mono t.le).put hd e) Qc (fun e a' w'' hc => hq _ _ _ (conc_step t hc))
  · intro v H' L' w' d s t e k
    exact hq _ _ _ ⟨H', L', α, .panic d, s, ht.mono t.le, t, .panic d v e, k⟩
theorem AOps.cons {o : Oper} (hg : o.guard = none) (hd : ∀ i, o.dst = some i → i < n)
    (h : AOp X o α.ev L (fun d L' => AOps X n ops Q rest (α.put o.dst d) L') (fun d L' => Q (.panic d) α L')) : AOps X n ops Q (o :: rest) α L := by
  intro H w a hs ht Qc hq
  unfold wpList
  rw [if_pos (by simp [Region.wanted, hg])]
  exact .inl (AOps.step hd h H w a hs ht Qc hq)
theorem yielded_of {H : Ghost} {a : Act} {g : Nat} {t : Tmp} {b : Bool} (ht : Tm H n α a) (hj : ((ops[g]?).bind (·.dst)) = some t) (hv : α.t t = .bool b) (hn : t < n) : yielded ops a.tmps g = some b := by
  have hb := ht.val t
  rw [hv] at hb
  have hlt : t < a.tmps.size := by rw [ht.size]; exact hn
  have hget : a.tmps[t]? = some (a.tmps.getD t undef) := by
    rw [Array.getD_eq_getD_getElem?, Array.getElem?_eq_getElem hlt]; rfl
  unfold yielded
  rw [hj]
  simp only [Option.bind_some, hget]
  rw [hb.bool_inv]
theorem Enc.undef (H : Ghost) : Enc H (.tup []) Go.undef := .tup [] #[] rfl (fun i d v e => by simp at e)
theorem yielded_none {H : Ghost} {a : Act} {g : Nat} {t : Tmp} (ht : Tm H n α a) (hj : ((ops[g]?).bind (·.dst)) = some t) (hv : α.t t = .tup []) : yielded ops a.tmps g = none := by
  have hb := ht.val t
  rw [hv] at hb
  obtain ⟨vs, hvs, _⟩ := hb.tup_inv
  unfold yielded
  rw [hj]
  simp only [Option.bind_some]
  rw [Array.getD_eq_getD_getElem?] at hvs
  cases hg : a.tmps[t]? with
  | none => rfl
  | some v => rw [hg] at hvs; simp only [Option.getD_some] at hvs; subst hvs; rfl
theorem AOps.guardU {o : Oper} {g : Nat} {want : Bool} {t : Tmp} (hg : o.guard = some (g, want)) (hj : ((ops[g]?).bind (·.dst)) = some t) (hv : α.t t = .tup [])
    (hd : ∀ i, o.dst = some i → i < n)
    (h : AOps X n ops Q rest (α.put o.dst (.tup [])) L) : AOps X n ops Q (o :: rest) α L := by
  intro H w a hs ht Qc hq
  unfold wpList
  rw [if_neg (by simp [Region.wanted, hg, yielded_none ht hj hv])]
  exact h H w _ hs (ht.put hd (Enc.undef H)) Qc hq
theorem AOps.guardT {o : Oper} {g : Nat} {want : Bool} {t : Tmp} (hg : o.guard = some (g, want)) (hj : ((ops[g]?).bind (·.dst)) = some t) (hn : t < n) (hv : α.t t = .bool want)
    (hd : ∀ i, o.dst = some i → i < n)
    (h : AOp X o α.ev L (fun d L' => AOps X n ops Q rest (α.put o.dst d) L') (fun d L' => Q (.panic d) α L')) : AOps X n ops Q (o :: rest) α L := by
  intro H w a hs ht Qc hq
  unfold wpList
  rw [if_pos (by simp [Region.wanted, hg, yielded_of ht hj hv hn])]
  exact .inl (AOps.step hd h H w a hs ht Qc hq)
theorem AOps.guardF {o : Oper} {g : Nat} {want b : Bool} {t : Tmp} (hg : o.guard = some (g, want)) (hj : ((ops[g]?).bind (·.dst)) = some t) (hn : t < n) (hv : α.t t = .bool b) (hb : b = !want)
    (hd : ∀ i, o.dst = some i → i < n)
    (h : AOps X n ops Q rest (α.put o.dst (.tup [])) L) : AOps X n ops Q (o :: rest) α L := by
  intro H w a hs ht Qc hq
  unfold wpList
  rw [if_neg (by simp [Region.wanted, hg, yielded_of ht hj hv hn, hb])]
  exact h H w _ hs (ht.put hd (Enc.undef H)) Qc hq
theorem Ya {id : Nat} {l : List Oper} (h : AOps X n l.toArray Q l α L) : ACode X.P n (.region id l.toArray false) Q α L :=
  fun H w a hs ht => wp_region_lit (h H w a hs ht _ (fun _ _ _ hc => hc))
theorem AOps.split {l : List Oper} (t : Tmp) {c : Bool} (hv : α.t t = .bool c) (h1 : c = true → AOps X n ops Q l { α with t := upd α.t t (.bool true) } L)
    (h2 : c = false → AOps X n ops Q l { α with t := upd α.t t (.bool false) } L) : AOps X n ops Q l α L := by
  cases c with
  | true => have := h1 rfl; rw [← hv, upd_self] at this; exact this
  | false => have := h2 rfl; rw [← hv, upd_self] at this; exact this
end
section
variable {X : PT} {ρ : Operand → D} {L : Loc} {dst : Option Tmp} {ty : TypeId} {pos : String} {after : Array Edge} {guard : Option (Nat × Bool)}
theorem AVal.move {x : Operand} : AVal X ⟨dst, .move x, ty, pos, after, guard⟩ ρ L (ρ x) :=
  fun H w e hs he => ⟨e x, by simp [execOp], he x (by simp [Op.operands])⟩
theorem AVal.assign {x : Operand} : AVal X ⟨dst, .assign x, ty, pos, after, guard⟩ ρ L (ρ x) :=
  fun H w e hs he => ⟨e x, by simp [execOp], he x (by simp [Op.operands])⟩
theorem AVal.pick {c x y : Operand} {t : Bool} {d : D} (hc : ρ c = .bool t) (hd : d = bif t then ρ x else ρ y) : AVal X ⟨dst, .pick c x y, ty, pos, after, guard⟩ ρ L d := by
  intro H w e hs he
  have h1 := he c (by simp [Op.operands])
  rw [hc] at h1
  have hc' := h1.bool_inv
  subst hd
  cases t with
  | true => exact ⟨e x, by simp [execOp, hc', asBool], he x (by simp [Op.operands])⟩
  | false => exact ⟨e y, by simp [execOp, hc', asBool], he y (by simp [Op.operands])⟩
theorem AVal.intBin {op : BinOp} {t : TypeId} {x y : Operand} {k : IntKind} {a b : Int} {u : TypeId} {d : D} (v : Value) (hx : ρ x = .int k a) (hy : ρ y = .int k b)
    (h : ∀ w, (Go.binOp op t (.int k a) (.int k b)).run X.P w = .ok v w) (hd : ∀ H, Enc H d v) : AVal X ⟨dst, .binOp op t x y u, ty, pos, after, guard⟩ ρ L d := by
  intro H w e hs he
  have h1 := he x (by simp [Op.operands])
  have h2 := he y (by simp [Op.operands])
  rw [hx] at h1; rw [hy] at h2
  have hguard : eqGuard op t x y (.int k a) (.int k b) = pure () := eqGuard_at_int _ _ _ _ _ _ _
  refine ⟨v, ?_, hd H⟩
  simp only [execOp, Sem.run_bind, h1.int_inv, h2.int_inv, hguard, Sem.run_pure, Result.andThen_ok, h w]
theorem AVal.add {t : TypeId} {x y : Operand} {k : IntKind} {a b : Int} {u : TypeId} (hx : ρ x = .int k a) (hy : ρ y = .int k b) : AVal X ⟨dst, .binOp .add t x y u, ty, pos, after, guard⟩ ρ L (.int k (k.wrap (a + b))) :=
  AVal.intBin _ hx hy (fun w => by simp [binOp_add, Op.intArith]) (fun _ => .int _ _)
theorem AVal.sub {t : TypeId} {x y : Operand} {k : IntKind} {a b : Int} {u : TypeId} (hx : ρ x = .int k a) (hy : ρ y = .int k b) : AVal X ⟨dst, .binOp .sub t x y u, ty, pos, after, guard⟩ ρ L (.int k (k.wrap (a - b))) :=
  AVal.intBin _ hx hy (fun w => by simp [binOp_sub, Op.intArith]) (fun _ => .int _ _)
theorem wrap_i64 {a : Int} (h1 : -9223372036854775808 ≤ a) (h2 : a ≤ 9223372036854775807) : IntKind.i64.wrap a = a := by
  simp only [IntKind.wrap, IntKind.bits, IntKind.signed, Bool.true_and]
  split <;> simp_all <;> omega
theorem AVal.addn {t : TypeId} {x y : Operand} {a b : Int} {u : TypeId} (hx : ρ x = .int .i64 a) (hy : ρ y = .int .i64 b) (h1 : -9223372036854775808 ≤ a + b ∧ a + b ≤ 9223372036854775807) :
    AVal X ⟨dst, .binOp .add t x y u, ty, pos, after, guard⟩ ρ L (.int .i64 (a + b)) := by
  have h := AVal.add (X := X) (L := L) (dst := dst) (ty := ty) (pos := pos) (after := after) (guard := guard) (t := t) (u := u) hx hy
  rwa [wrap_i64 h1.1 h1.2] at h
theorem AVal.subn {t : TypeId} {x y : Operand} {a b : Int} {u : TypeId} (hx : ρ x = .int .i64 a) (hy : ρ y = .int .i64 b) (h1 : -9223372036854775808 ≤ a - b ∧ a - b ≤ 9223372036854775807) :
    AVal X ⟨dst, .binOp .sub t x y u, ty, pos, after, guard⟩ ρ L (.int .i64 (a - b)) := by
  have h := AVal.sub (X := X) (L := L) (dst := dst) (ty := ty) (pos := pos) (after := after) (guard := guard) (t := t) (u := u) hx hy
  rwa [wrap_i64 h1.1 h1.2] at h
theorem AVal.eql {t : TypeId} {x y : Operand} {k : IntKind} {a b : Int} {u : TypeId} (hx : ρ x = .int k a) (hy : ρ y = .int k b) : AVal X ⟨dst, .binOp .eql t x y u, ty, pos, after, guard⟩ ρ L (.bool (decide (a = b))) := by
  refine AVal.intBin (.bool (a == b)) hx hy (fun w => by simp only [binOp_eql, Sem.run_pure]) (fun _ => ?_)
  rw [show (a == b) = decide (a = b) from rfl]; exact .bool _
theorem AVal.neq {t : TypeId} {x y : Operand} {k : IntKind} {a b : Int} {u : TypeId} (hx : ρ x = .int k a) (hy : ρ y = .int k b) : AVal X ⟨dst, .binOp .neq t x y u, ty, pos, after, guard⟩ ρ L (.bool (!decide (a = b))) := by
  refine AVal.intBin (.bool (a != b)) hx hy (fun w => by simp only [binOp_neq, Sem.run_pure]) (fun _ => ?_)
  rw [show (a != b) = !decide (a = b) from rfl]; exact .bool _
theorem AVal.lss {t : TypeId} {x y : Operand} {k : IntKind} {a b : Int} {u : TypeId} (hx : ρ x = .int k a) (hy : ρ y = .int k b) : AVal X ⟨dst, .binOp .lss t x y u, ty, pos, after, guard⟩ ρ L (.bool (decide (a < b))) :=
  AVal.intBin _ hx hy (fun w => by simp only [binOp_lss, Sem.run_pure]) (fun _ => .bool _)
theorem AVal.leq {t : TypeId} {x y : Operand} {k : IntKind} {a b : Int} {u : TypeId} (hx : ρ x = .int k a) (hy : ρ y = .int k b) : AVal X ⟨dst, .binOp .leq t x y u, ty, pos, after, guard⟩ ρ L (.bool (decide (a ≤ b))) :=
  AVal.intBin _ hx hy (fun w => by simp only [binOp_leq, Sem.run_pure]) (fun _ => .bool _)
theorem AVal.gtr {t : TypeId} {x y : Operand} {k : IntKind} {a b : Int} {u : TypeId} (hx : ρ x = .int k a) (hy : ρ y = .int k b) : AVal X ⟨dst, .binOp .gtr t x y u, ty, pos, after, guard⟩ ρ L (.bool (decide (b < a))) :=
  AVal.intBin _ hx hy (fun w => by simp only [binOp_gtr, Sem.run_pure]) (fun _ => .bool _)
theorem AVal.geq {t : TypeId} {x y : Operand} {k : IntKind} {a b : Int} {u : TypeId} (hx : ρ x = .int k a) (hy : ρ y = .int k b) : AVal X ⟨dst, .binOp .geq t x y u, ty, pos, after, guard⟩ ρ L (.bool (decide (b ≤ a))) :=
  AVal.intBin _ hx hy (fun w => by simp only [binOp_geq, Sem.run_pure]) (fun _ => .bool _)
theorem AVal.not {t : TypeId} {x : Operand} {b : Bool} (hx : ρ x = .bool b) : AVal X ⟨dst, .unOp .not t x, ty, pos, after, guard⟩ ρ L (.bool (!b)) := by
  intro H w e hs he
  have h1 := he x (by simp [Op.operands])
  rw [hx] at h1
  exact ⟨.bool (!b), by simp [execOp, h1.bool_inv, Op.unary], .bool _⟩
theorem AVal.eqlB {t : TypeId} {x y : Operand} {a b : Bool} {u : TypeId} (hx : ρ x = .bool a) (hy : ρ y = .bool b) (hu : X.P.underlying t = some .bool) : AVal X ⟨dst, .binOp .eql t x y u, ty, pos, after, guard⟩ ρ L (.bool (a == b)) := by
  intro H w e hs he
  have h1 := he x (by simp [Op.operands])
  have h2 := he y (by simp [Op.operands])
  rw [hx] at h1; rw [hy] at h2
  refine ⟨.bool (a == b), ?_, .bool _⟩
  have he : ∀ d, (Op.equalIn (d + 1) t (.bool a) (.bool b)).run X.P w = .ok (a == b) w := fun d => by
    simp [Op.equalIn, run_underlying hu]
  simp only [execOp, Sem.run_bind, h1.bool_inv, h2.bool_inv, eqGuard_at_bool, Sem.run_pure, Result.andThen_ok]
  simp only [Go.binOp, Op.equal, Op.maxDepth, Sem.run_bind, he 9999, Result.andThen_ok, Sem.run_pure]
theorem AVal.extract {t : Operand} {i : Nat} {cs : List D} {d : D} (ht : ρ t = .tup cs) (hi : cs[i]? = some d) : AVal X ⟨dst, .extract t i, ty, pos, after, guard⟩ ρ L d := by
  intro H w e hs he
  have h1 := he t (by simp [Op.operands])
  rw [ht] at h1
  obtain ⟨vs, hv, h2⟩ := h1.tup_inv
  have hlt : i < vs.size := by rw [h2.1]; exact (List.getElem?_eq_some_iff.1 hi).1
  refine ⟨vs[i], ?_, h2.2 i d _ hi (Array.getElem?_eq_getElem hlt)⟩
  simp [execOp, hv, Instr.extract, Array.getElem?_eq_getElem hlt]
theorem AVal.nilCheckP {x : Operand} {b o : Nat} (hx : ρ x = .ptr b o) : AVal X ⟨dst, .nilCheck x, ty, pos, after, guard⟩ ρ L (.ptr b o) := by
  intro H w e hs he
  have h1 := he x (by simp [Op.operands])
  rw [hx] at h1
  exact ⟨_, by simp [execOp, h1.ptr_inv], .ptr b o⟩
theorem run_fieldAt {P : Program} {s f off : Nat} (hf : FOk P s f off) (b o : Nat) (w : World) :
    (Instr.fieldAt s (.pointer (some ⟨b, o, none⟩)) f).run P w = .ok (.pointer (some ⟨b, o + off, none⟩)) w := by
  obtain ⟨fields, fd, h1, h2, h3, h4⟩ := hf.ok
  subst h3
  cases hi : P.info? fd.type with
  | none => simp [hi] at h4
  | some ti =>
    have h5 : ti.size ≠ 0 := by simpa [hi] using h4
    simp [Instr.fieldAt, run_underlying h1, h2, Instr.sureAddr, fieldPlace, Go.sizeOf, typeInfo, hi, h5, Addr.add_lit]
theorem AVal.fieldP {s f off : Nat} {x : Operand} {b o : Nat} (hx : ρ x = .ptr b o) (hf : X.fld s f = some off) : AVal X ⟨dst, .fieldAddr s x f, ty, pos, after, guard⟩ ρ L (.ptr b (o + off)) := by
  intro H w e hs he
  have h1 := he x (by simp [Op.operands])
  rw [hx] at h1
  refine ⟨_, ?_, .ptr b (o + off)⟩
  simp only [execOp, Sem.run_bind, h1.ptr_inv, run_fieldAt (X.fld_ok hf), Result.andThen_ok, Sem.run_pure]
theorem AVal.fieldE {s f off : Nat} {x : Operand} {cs : List D} (hx : ρ x = .ep cs) (hf : X.fld s f = some off) : AVal X ⟨dst, .fieldAddr s x f, ty, pos, after, guard⟩ ρ L (.ep (cs.drop off)) := by
  intro H w e hs he
  have h1 := he x (by simp [Op.operands])
  rw [hx] at h1
  obtain ⟨b, o, hv, hr⟩ := Enc.ep_iff.1 h1
  refine ⟨.pointer (some ⟨b, o + off, none⟩), ?_, Enc.ep_iff.2 ⟨b, o + off, rfl, hr.drop off⟩⟩
  simp only [execOp, Sem.run_bind, hv, run_fieldAt (X.fld_ok hf), Result.andThen_ok, Sem.run_pure]
end
end Sp

/- Memory: what becomes of a state when a block is new, or written, or becomes data. -/
set_option linter.unusedVariables false
namespace Sp
open Go
structure NewW (w w' : World) (o : Obj) : Prop where
  heap : w'.heap = w.heap.push o
  os : w'.os = w.os
  tape : w'.tape = w.tape
  output : w'.output = w.output
theorem NewW.alloc (w : World) (o : Obj) : NewW w (w.alloc o) o := ⟨rfl, rfl, rfl, rfl⟩
theorem NewW.drewAlloc (w : World) (o : Obj) : NewW w (w.drew.alloc o) o := ⟨rfl, rfl, rfl, rfl⟩
theorem NewW.old {w w' : World} {o : Obj} (h : NewW w w' o) {b : Nat} (hb : b < w.heap.size) : w'.heap[b]? = w.heap[b]? := by
  rw [h.heap, Array.getElem?_push_lt hb, Array.getElem?_eq_getElem hb]
theorem NewW.new {w w' : World} {o : Obj} (h : NewW w w' o) : w'.heap[w.heap.size]? = some o := by
  rw [h.heap, Array.getElem?_push_size]
theorem NewW.size {w w' : World} {o : Obj} (h : NewW w w' o) : w'.heap.size = w.heap.size + 1 := by
  rw [h.heap, Array.size_push]
theorem cell_of_heap {w w' : World} {a : Addr} (h : w'.heap[a.block]? = w.heap[a.block]?) : w'.cell? a = w.cell? a := by
  unfold World.cell?; rw [h]
def Ghost.add (H : Ghost) (b lo : Nat) (vs : List Value) : Ghost := fun b' o => if b' = b ∧ lo ≤ o ∧ o < lo + vs.length then vs[o - lo]? else H b' o
theorem Ghost.le_add {H : Ghost} {b lo : Nat} {vs : List Value} (h : ∀ o, lo ≤ o → o < lo + vs.length → H b o = none) : H.le (H.add b lo vs) := by
  intro b' o v e
  unfold Ghost.add
  split
  · rename_i hc
    obtain ⟨rfl, h1, h2⟩ := hc
    rw [h o h1 h2] at e; cases e
  · exact e
theorem Ghost.add_at {H : Ghost} {b lo : Nat} {vs : List Value} {i : Nat} {v : Value} (h : vs[i]? = some v) : (H.add b lo vs) b (lo + i) = some v := by
  have hi := (List.getElem?_eq_some_iff.1 h).1
  unfold Ghost.add
  rw [if_pos ⟨rfl, by omega, by omega⟩, show lo + i - lo = i by omega, h]
theorem Ghost.add_other {H : Ghost} {b lo : Nat} {vs : List Value} {b' o : Nat} (h : b' ≠ b ∨ o < lo ∨ lo + vs.length ≤ o) : (H.add b lo vs) b' o = H b' o := by
  unfold Ghost.add
  rw [if_neg]
  rintro ⟨rfl, h1, h2⟩
  rcases h with h | h | h
  · exact h rfl
  · omega
  · omega
section
variable {H : Ghost} {L : Loc} {w w' : World}
theorem Sim.newObj (hs : Sim H L w) {o : Obj} (hw : NewW w w' o) {m : MObj} (hm : MOk H w' w.heap.size m) :
    Sim H ((w.heap.size, m) :: L) w' ∧ Step H L w H ((w.heap.size, m) :: L) w' := by
  refine ⟨⟨hs.gl, fun b o v e => ?_, fun b m' hb => ?_, ?_⟩, ?_⟩
  · have hlt := hs.lt_ghost e
    rw [cell_of_heap (hw.old (b := b) hlt)]
    exact hs.ok b o v e
  · rcases List.mem_cons.1 hb with e | hb
    · cases e; exact hm
    · exact (hs.obj b m' hb).keep (Ghost.le_refl _) (hw.old (hs.obj b m' hb).lt) (fun _ h => h)
  · rw [List.map_cons, List.nodup_cons]
    refine ⟨fun h => ?_, hs.nodup⟩
    exact absurd (hs.lt_dom h) (Nat.lt_irrefl _)
  · refine ⟨Ghost.le_refl _, hw.os, hw.tape, hw.output, by rw [hw.size]; omega, fun b hb _ => hw.old hb, fun b hb => ?_, fun _ _ _ _ h => h⟩
    simp only [dom, List.map_cons, List.mem_cons] at hb
    rcases hb with rfl | hb
    · exact .inr (Nat.le_refl _)
    · exact .inl hb
theorem Sim.newData (hs : Sim H L w) {arr : Array Value} {t : TypeId} (hw : NewW w w' (.cells arr t)) :
    Sim (H.add w.heap.size 0 arr.toList) L w' ∧ Step H L w (H.add w.heap.size 0 arr.toList) L w' := by
  have hno : ∀ o, H w.heap.size o = none := fun o => by
    cases e : H w.heap.size o with
    | none => rfl
    | some v => exact absurd (hs.lt_ghost e) (Nat.lt_irrefl _)
  have hle : H.le (H.add w.heap.size 0 arr.toList) := Ghost.le_add (fun o _ _ => hno o)
  refine ⟨⟨Ghost.le_trans hs.gl hle, fun b o v e => ?_, fun b m hb => ?_, hs.nodup⟩, ?_⟩
  · by_cases hb : b = w.heap.size
    · subst hb
      unfold Ghost.add at e
      split at e
      · rename_i hc
        simp only [Nat.sub_zero, Array.getElem?_toList] at e
        simp only [World.cell?, hw.new, Option.isSome_none]
        simpa using e
      · rw [hno o] at e; cases e
    · rw [Ghost.add_other (.inl hb)] at e
      rw [cell_of_heap (hw.old (b := b) (hs.lt_ghost e))]
      exact hs.ok b o v e
  · have hlt := (hs.obj b m hb).lt
    exact (hs.obj b m hb).keep hle (hw.old hlt) (fun o h => by rw [Ghost.add_other (.inl (by omega))]; exact h)
  · exact ⟨hle, hw.os, hw.tape, hw.output, by rw [hw.size]; omega, fun b hb _ => hw.old hb, fun b hb => .inl hb,
      fun b o hb _ h => by rw [Ghost.add_other (.inl (by omega))]; exact h⟩
theorem mem_set {k b : Nat} {m m' : MObj} {c : Nat} {x : MObj} (hk : L[k]? = some (b, m)) (h : (c, x) ∈ L.set k (b, m')) (hn : (L.map Prod.fst).Nodup) : (c = b ∧ x = m') ∨ (c ≠ b ∧ (c, x) ∈ L) := by
  obtain ⟨i, hi⟩ := List.mem_iff_getElem?.1 h
  rw [List.getElem?_set] at hi
  split at hi
  · split at hi
    · cases hi; exact .inl ⟨rfl, rfl⟩
    · cases hi
  · rename_i hne
    refine .inr ⟨?_, List.mem_iff_getElem?.2 ⟨i, hi⟩⟩
    rintro rfl
    have h1 : (L.map Prod.fst)[i]? = some c := by simp [hi]
    have h2 : (L.map Prod.fst)[k]? = some c := by simp [hk]
    have hi' := (List.getElem?_eq_some_iff.1 h1).1
    exact hne ((List.getElem?_inj hi' hn).1 (h1.trans h2.symm)).symm
theorem dom_set {k b : Nat} {m m' : MObj} (hk : L[k]? = some (b, m)) : dom (L.set k (b, m')) = dom L := by
  unfold dom
  apply List.ext_getElem?
  intro i
  rw [List.getElem?_map, List.getElem?_set, List.getElem?_map]
  split
  · rename_i h
    subst h
    split
    · simp [hk]
    · rename_i h; simp [List.getElem?_eq_none (Nat.le_of_not_lt h)]
  · rfl
theorem Sim.write (hs : Sim H L w) {k b : Nat} {m m' : MObj} (hk : L[k]? = some (b, m)) (hw : ∀ c, c ≠ b → w'.heap[c]? = w.heap[c]?) (hz : w'.heap.size = w.heap.size)
    (ho : w'.os = w.os) (ht : w'.tape = w.tape) (hp : w'.output = w.output) (hno : ∀ o, H b o = none) (hm : MOk H w' b m') :
    Sim H (L.set k (b, m')) w' ∧ Step H L w H (L.set k (b, m')) w' := by
  have hmem : (b, m) ∈ L := List.mem_iff_getElem?.2 ⟨k, hk⟩
  refine ⟨⟨hs.gl, fun c o v e => ?_, fun c x hc => ?_, ?_⟩, ?_⟩
  · have hne : c ≠ b := by rintro rfl; rw [hno o] at e; cases e
    rw [cell_of_heap (hw c hne)]
    exact hs.ok c o v e
  · rcases mem_set hk hc hs.nodup with ⟨rfl, rfl⟩ | ⟨hne, hc⟩
    · exact hm
    · exact (hs.obj c x hc).keep (Ghost.le_refl _) (hw c hne) (fun _ h => h)
  · have := hs.nodup; rw [show (L.set k (b, m')).map Prod.fst = L.map Prod.fst from dom_set hk]; exact this
  · refine ⟨Ghost.le_refl _, ho, ht, hp, by omega, fun c _ hd => hw c (fun e => hd (e ▸ mem_dom hmem)), fun c hc => .inl (by rw [dom_set hk] at hc; exact hc), fun _ _ _ _ h => h⟩
theorem Sim.freeze (hs : Sim H L w) {k b : Nat} {t : TypeId} {cs : List D} (hk : L[k]? = some (b, .cells t cs)) :
    ∃ H', Sim H' (L.eraseIdx k) w ∧ Step H L w H' (L.eraseIdx k) w ∧ RowAt H' b 0 cs := by
  have hmem : (b, MObj.cells t cs) ∈ L := List.mem_iff_getElem?.2 ⟨k, hk⟩
  obtain ⟨⟨arr, h1, h2⟩, h3⟩ := hs.obj _ _ hmem
  have hle : H.le (H.add b 0 arr.toList) := Ghost.le_add (fun o _ _ => h3 o)
  have hlt : b < w.heap.size := (hs.obj _ _ hmem).lt
  have hsub := List.eraseIdx_sublist L k
  have hne : ∀ c x, (c, x) ∈ L.eraseIdx k → c ≠ b := by
    intro c x hc e
    subst e
    have hn := hs.nodup
    have hk' : k < L.length := (List.getElem?_eq_some_iff.1 hk).1
    rw [List.mem_iff_getElem?] at hc
    obtain ⟨i, hi⟩ := hc
    rw [List.getElem?_eraseIdx] at hi
    split at hi
    · have h5 : (L.map Prod.fst)[i]? = some c := by simp [hi]
      have h6 : (L.map Prod.fst)[k]? = some c := by simp [hk]
      have := (List.getElem?_inj (List.getElem?_eq_some_iff.1 h5).1 hn).1 (h5.trans h6.symm)
      omega
    · have h5 : (L.map Prod.fst)[i + 1]? = some c := by simp [hi]
      have h6 : (L.map Prod.fst)[k]? = some c := by simp [hk]
      have := (List.getElem?_inj (List.getElem?_eq_some_iff.1 h5).1 hn).1 (h5.trans h6.symm)
      omega
  refine ⟨H.add b 0 arr.toList, ⟨Ghost.le_trans hs.gl hle, fun c o v e => ?_, fun c x hc => ?_, hs.nodup.sublist (hsub.map _)⟩, ?_, ?_⟩
  · by_cases hb : c = b
    · subst hb
      unfold Ghost.add at e
      split at e
      · simp only [Nat.sub_zero, Array.getElem?_toList] at e
        simp only [World.cell?, h1, Option.isSome_none]
        simpa using e
      · rw [h3 o] at e; cases e
    · rw [Ghost.add_other (.inl hb)] at e
      exact hs.ok c o v e
  · exact (hs.obj c x (hsub.subset hc)).keep hle rfl (fun o h => by rw [Ghost.add_other (.inl (hne c x hc))]; exact h)
  · refine ⟨hle, rfl, rfl, rfl, Nat.le_refl _, fun _ _ _ => rfl, fun c hc => .inl ((hsub.map Prod.fst).subset hc), fun c o _ hd h => ?_⟩
    rw [Ghost.add_other (.inl (fun e => hd (by rw [e]; exact mem_dom hmem)))]; exact h
  · intro i d e
    have hi : i < arr.size := by rw [h2.1]; exact (List.getElem?_eq_some_iff.1 e).1
    refine ⟨arr[i], Ghost.add_at (by rw [Array.getElem?_toList]; exact Array.getElem?_eq_getElem hi), ?_⟩
    exact (h2.2 i d _ e (Array.getElem?_eq_getElem hi)).mono hle
end
section
variable {P : Program} {t : TypeId} {i : TI}
theorem run_loadVar_row {w : World} (hT : TOk P t i) (b o : Nat) (vs : List Value) (hl : vs.length = i.size) (hc : ∀ (j : Nat) v, vs[j]? = some v → w.cell? ⟨b, o + j, none⟩ = some v) :
    (loadVar t ⟨b, o, none⟩).run P w = .ok (bif i.agg then .agg vs.toArray else vs.headD undef) w := by
  have hadd : ∀ j, (⟨b, o, none⟩ : Addr).add j = ⟨b, o + j, none⟩ := fun j => Addr.add_lit b o j
  simp only [loadVar, Sem.run_bind, hT.isAgg w, Result.andThen_ok]
  cases ha : i.agg with
  | true =>
    have h := run_loadCells_list (P := P) w ⟨b, o, none⟩ vs (fun j v e => by rw [hadd]; exact hc j v e)
    rw [hl] at h
    simp only [if_true, Sem.run_bind, hT.sizeOf w, Result.andThen_ok, h, Sem.run_pure, cond_true]
  | false =>
    have h1 := hT.one ha
    rw [h1] at hl
    obtain ⟨v, rfl⟩ : ∃ v, vs = [v] := by
      cases vs with
      | nil => simp at hl
      | cons v r => cases r with
        | nil => exact ⟨v, rfl⟩
        | cons => simp at hl
    have h0 := hc 0 v rfl
    simp only [Nat.add_zero] at h0
    simp only [Bool.false_eq_true, if_false, run_load, h0, cond_false, List.headD_cons]
def loadD (i : TI) (cs : List D) : Option D :=
  bif i.agg then (bif Nat.ble i.size cs.length then some (.agg (cs.take i.size)) else none) else cs.head?
theorem loadD_ok {H : Ghost} {w : World} {cs : List D} {d : D} (hT : TOk P t i) (b o : Nat) (hd : loadD i cs = some d)
    (hc : ∀ (j : Nat) d, cs[j]? = some d → ∃ v, w.cell? ⟨b, o + j, none⟩ = some v ∧ EncC H d v) : ∃ v, (loadVar t ⟨b, o, none⟩).run P w = .ok v w ∧ Enc H d v := by
  have hsz : i.size ≤ cs.length := by
    unfold loadD at hd
    cases ha : i.agg with
    | true =>
      rw [ha] at hd
      simp only [cond_true] at hd
      cases hb : Nat.ble i.size cs.length with
      | true => exact Nat.le_of_ble_eq_true hb
      | false => rw [hb] at hd; cases hd
    | false =>
      rw [ha] at hd
      simp only [cond_false] at hd
      rw [hT.one ha]
      cases cs with
      | nil => cases hd
      | cons => simp
  let f : Nat → Value := fun j => (w.cell? ⟨b, o + j, none⟩).getD undef
  have hf : ∀ j, j < i.size → w.cell? ⟨b, o + j, none⟩ = some (f j) ∧ ∃ d, cs[j]? = some d ∧ EncC H d (f j) := by
    intro j hj
    have hj' : j < cs.length := by omega
    obtain ⟨v, h1, h2⟩ := hc j cs[j] (List.getElem?_eq_getElem hj')
    have : f j = v := by simp [f, h1]
    rw [this]
    exact ⟨h1, _, List.getElem?_eq_getElem hj', h2⟩
  have hrun := run_loadVar_row (w := w) hT b o ((List.range i.size).map f) (by simp) (fun j v e => by
    rw [List.getElem?_map] at e
    cases h : (List.range i.size)[j]? with
    | none => rw [h] at e; cases e
    | some x =>
      rw [h] at e
      rw [List.getElem?_eq_some_iff] at h
      obtain ⟨hj, hx⟩ := h
      simp at hj hx
      subst hx
      simp at e
      subst e
      exact (hf j hj).1)
  refine ⟨_, hrun, ?_⟩
  unfold loadD at hd
  cases ha : i.agg with
  | true =>
    rw [ha] at hd
    have hble : Nat.ble i.size cs.length = true := by rw [Nat.ble_eq]; exact hsz
    simp only [cond_true, hble, Option.some.injEq] at hd
    subst hd
    simp only [cond_true]
    refine Enc.agg_iff.2 ⟨_, rfl, by simp [hsz], fun j d v e k => ?_⟩
    have hj : j < i.size := by
      have := (List.getElem?_eq_some_iff.1 e).1
      simp at this; omega
    obtain ⟨_, d', h2, h3⟩ := hf j hj
    rw [List.getElem?_take_of_lt hj, h2] at e
    cases e
    simp [hj] at k
    subst k
    exact h3
  | false =>
    rw [ha] at hd
    simp only [cond_false] at hd ⊢
    have h1 := hT.one ha
    rw [h1]
    obtain ⟨_, d', h2, h3⟩ := hf 0 (by omega)
    cases cs with
    | nil => cases hd
    | cons c r =>
      simp at hd h2
      subst hd
      subst h2
      simpa using h3.2
theorem run_storeVar_at {w : World} (hT : TOk P t i) (b o : Nat) (tt : TypeId) (cur : Array Value) (hb : w.heap[b]? = some (.cells cur tt (0, 0))) (v : Value) (hv : v.cells.size = i.size)
    (h1 : ∀ x ∈ v.cells.toList, x.oneCell' = true) (hfit : o + i.size ≤ cur.size) :
    (storeVar t ⟨b, o, none⟩ v).run P w = .ok () (w.setRow b (cur.toList.take o ++ v.cells.toList ++ cur.toList.drop (o + i.size)).toArray) := by
  have h := run_storeCells_at P b o tt v.cells.toList 0 cur w hb (by simp [hv]; omega) h1
  simp only [Nat.add_zero, Array.length_toList, hv] at h
  unfold storeVar
  simp only [Sem.run_bind, hT.sizeOf w, Result.andThen_ok, hv, ne_eq, not_true_eq_false, if_false]
  exact h
end
def setD (cs : List D) (o : Nat) (new : List D) : List D := cs.take o ++ new ++ cs.drop (o + new.length)
theorem encCs_set {H : Ghost} {cs new : List D} {cur : Array Value} {nv : List Value} {o : Nat} (h : EncCs H cs cur) (hn : EncCs H new nv.toArray) (hfit : o + new.length ≤ cs.length) :
    EncCs H (setD cs o new) (cur.toList.take o ++ nv ++ cur.toList.drop (o + nv.length)).toArray := by
  have hl : nv.length = new.length := by simpa using hn.1
  have hc : cur.size = cs.length := h.1
  refine ⟨by simp [setD, hl, hc], fun i d v e k => ?_⟩
  unfold setD at e
  simp only [List.getElem?_toArray] at k
  rw [List.append_assoc] at e k
  by_cases h1 : i < o
  · rw [List.getElem?_append_left (by simp; omega), List.getElem?_take_of_lt h1] at e
    rw [List.getElem?_append_left (by simp; omega), List.getElem?_take_of_lt h1] at k
    exact h.2 i d v e (by simpa using k)
  · have e1 : (cs.take o).length = o := by simp; omega
    have k1 : (cur.toList.take o).length = o := by simp; omega
    rw [List.getElem?_append_right (by omega), e1] at e
    rw [List.getElem?_append_right (by omega), k1] at k
    by_cases h2 : i - o < new.length
    · rw [List.getElem?_append_left h2] at e
      rw [List.getElem?_append_left (by omega)] at k
      exact hn.2 (i - o) d v e (by simpa using k)
    · rw [List.getElem?_append_right (by omega), List.getElem?_drop] at e
      rw [List.getElem?_append_right (by omega), List.getElem?_drop] at k
      have q : o + new.length + (i - o - new.length) = i := by omega
      have q' : o + nv.length + (i - o - nv.length) = i := by omega
      rw [q] at e
      rw [q'] at k
      exact h.2 i d v e (by simpa using k)
end Sp

/- Operations on memory, in abstract values. -/
set_option linter.unusedVariables false
namespace Sp
open Go
section
variable {X : PT} {ρ : Operand → D} {L : Loc} {dst : Option Tmp} {ty : TypeId} {pos : String} {after : Array Edge} {guard : Option (Nat × Bool)} {K Kp : D → Loc → Prop}
theorem Sim.cell_of_obj {H : Ghost} {w : World} (hs : Sim H L w) {k b : Nat} {t : TypeId} {cs : List D} (hk : L[k]? = some (b, .cells t cs)) (o : Nat) :
    ∀ (j : Nat) d, (cs.drop o)[j]? = some d → ∃ v, w.cell? ⟨b, o + j, none⟩ = some v ∧ EncC H d v := by
  intro j d e
  obtain ⟨⟨arr, h1, h2⟩, _⟩ := hs.obj b _ (List.mem_iff_getElem?.2 ⟨k, hk⟩)
  rw [List.getElem?_drop] at e
  have hj : o + j < arr.size := by rw [h2.1]; exact (List.getElem?_eq_some_iff.1 e).1
  refine ⟨arr[o + j], ?_, h2.2 _ d _ e (Array.getElem?_eq_getElem hj)⟩
  simp [World.cell?, h1, hj]
theorem RowAt.cell {H : Ghost} {w : World} (hs : Sim H L w) {b o : Nat} {cs : List D} (h : RowAt H b o cs) : ∀ (j : Nat) d, cs[j]? = some d → ∃ v, w.cell? ⟨b, o + j, none⟩ = some v ∧ EncC H d v := by
  intro j d e
  obtain ⟨v, h1, h2⟩ := h j d e
  exact ⟨v, hs.ok _ _ _ h1, h2⟩
theorem AVal.loadP {t tt : TypeId} {x : Operand} {b o : Nat} {cs : List D} {i : TI} {d : D} (k : Nat) (hx : ρ x = .ptr b o) (hk : L[k]? = some (b, .cells tt cs)) (hT : X.ty t = some i) (hd : loadD i (cs.drop o) = some d) :
    AVal X ⟨dst, .load t x, ty, pos, after, guard⟩ ρ L d := by
  intro H w e hs he
  have h1 := he x (by simp [Op.operands])
  rw [hx] at h1
  obtain ⟨v, hr, hv⟩ := loadD_ok (X.ty_ok hT) b o hd (hs.cell_of_obj hk o)
  refine ⟨v, ?_, hv⟩
  simp only [execOp, Sem.run_bind, h1.ptr_inv, Instr.loadAt, Instr.sureAddr, Sem.run_pure, Result.andThen_ok, hr]
theorem AVal.loadE {t : TypeId} {x : Operand} {cs : List D} {i : TI} {d : D} (hx : ρ x = .ep cs) (hT : X.ty t = some i) (hd : loadD i cs = some d) : AVal X ⟨dst, .load t x, ty, pos, after, guard⟩ ρ L d := by
  intro H w e hs he
  have h1 := he x (by simp [Op.operands])
  rw [hx] at h1
  obtain ⟨b, o, hv, hrow⟩ := Enc.ep_iff.1 h1
  obtain ⟨v, hr, hvv⟩ := loadD_ok (X.ty_ok hT) b o hd (hrow.cell hs)
  refine ⟨v, ?_, hvv⟩
  simp only [execOp, Sem.run_bind, hv, Instr.loadAt, Instr.sureAddr, Sem.run_pure, Result.andThen_ok, hr]
theorem Yi {t tt : TypeId} {p : D} {b o : Nat} {cs : List D} {i : TI} {d : D} (k : Nat) (hp : p = .ptr b o) (hk : L[k]? = some (b, .cells tt cs)) (hT : X.ty t = some i) (hd : loadD i (cs.drop o) = some d) : ARead X L p t d := by
  intro H w v hs hv
  subst hp
  obtain ⟨x, hr, hx⟩ := loadD_ok (X.ty_ok hT) b o hd (hs.cell_of_obj hk o)
  exact ⟨_, x, hv.ptr_inv, hr, hx⟩
theorem setRow_other' (w : World) (b : Nat) (cs : Array Value) {c : Nat} (h : c ≠ b) : (w.setRow b cs).heap[c]? = w.heap[c]? := by
  unfold World.setRow
  simp only [Array.getElem?_modify]
  rw [if_neg (fun e => h e.symm)]
theorem AOp.store {t tt : TypeId} {x y : Operand} {b o : Nat} {cs : List D} {i : TI} {d : D} (k : Nat) (hx : ρ x = .ptr b o) (hk : L[k]? = some (b, .cells tt cs)) (hT : X.ty t = some i) (hy : ρ y = d) (hw : d.whole = true)
    (hl : d.cells.length = i.size) (hfit : Nat.ble (o + i.size) cs.length = true) (h : K .any (L.set k (b, .cells tt (setD cs o d.cells)))) : AOp X ⟨dst, .store t x y, ty, pos, after, guard⟩ ρ L K Kp := by
  intro H w a hs he next Qc hn _
  have h1 := he x (by simp [Op.operands])
  have h2 := he y (by simp [Op.operands])
  rw [hx] at h1
  rw [hy] at h2
  have hcells := h2.cells hw
  obtain ⟨⟨arr, h3, h4⟩, h5⟩ := hs.obj b _ (List.mem_iff_getElem?.2 ⟨k, hk⟩)
  have hsz : (a.eval y).cells.size = i.size := hcells.1.trans hl
  have hfit' : o + i.size ≤ cs.length := Nat.le_of_ble_eq_true hfit
  have one : ∀ x ∈ (a.eval y).cells.toList, x.oneCell' = true := by
    intro u hu
    obtain ⟨j, hj⟩ := List.mem_iff_getElem?.1 hu
    rw [Array.getElem?_toList] at hj
    have hlt : j < d.cells.length := by rw [← hcells.1]; exact (Array.getElem?_eq_some_iff.1 hj).1
    exact (hcells.2 j _ u (List.getElem?_eq_getElem hlt) hj).1
  have hrun := run_storeVar_at (P := X.P) (w := w) (X.ty_ok hT) b o tt arr h3 (a.eval y) hsz one (by rw [h4.1]; exact hfit')
  have hset := setRow_heap w b arr (arr.toList.take o ++ (a.eval y).cells.toList ++ arr.toList.drop (o + i.size)).toArray tt (0, 0) h3
  have hm : MOk H (w.setRow b (arr.toList.take o ++ (a.eval y).cells.toList ++ arr.toList.drop (o + i.size)).toArray) b (.cells tt (setD cs o d.cells)) := by
    refine ⟨⟨_, hset, ?_⟩, h5⟩
    have := encCs_set (o := o) h4 (nv := (a.eval y).cells.toList) (by simpa using hcells) (by rw [hl]; exact hfit')
    rw [show (a.eval y).cells.toList.length = i.size by simpa using hsz] at this
    exact this
  obtain ⟨s', t'⟩ := hs.write hk (fun c hc => setRow_other' w b _ hc) (by simp [World.setRow]) rfl rfl rfl h5 hm
  unfold Oper.wp
  simp only [execOp, Sem.run_bind, h1.ptr_inv, Instr.storeAt, Instr.sureAddr, Sem.run_pure, Result.andThen_ok, hrun]
  exact hn undef H _ _ .any s' t' (.any _) h
theorem AOp.box {t : TypeId} {x : Operand} {d : D} (hx : ρ x = d) (hw : d.whole = true) (h : ∀ b, K (.ptr b 0) ((b, .cells t d.cells) :: L)) : AOp X ⟨dst, .box t x, ty, pos, after, guard⟩ ρ L K Kp := by
  intro H w a hs he next Qc hn _
  have h1 := he x (by simp [Op.operands])
  rw [hx] at h1
  have hcells := h1.cells hw
  have hno : ∀ o, H w.heap.size o = none := fun o => by
    cases e : H w.heap.size o with
    | none => rfl
    | some v => exact absurd (hs.lt_ghost e) (Nat.lt_irrefl _)
  obtain ⟨s', t'⟩ := hs.newObj (NewW.alloc w (.cells (a.eval x).cells t)) (m := .cells t d.cells) ⟨⟨_, (NewW.alloc w _).new, hcells⟩, hno⟩
  unfold Oper.wp
  simp only [execOp, Sem.run_bind, Instr.box, newVar, newRow, run_newObj, Sem.run_pure, Result.andThen_ok]
  exact hn _ H _ _ _ s' t' (.ptr _ 0) (h _)
theorem AOp.alloc {t : TypeId} {i : TI} (hT : X.ty t = some i) (h : ∀ b, K (.ptr b 0) ((b, .cells t i.zero) :: L)) : AOp X ⟨dst, .alloc t, ty, pos, after, guard⟩ ρ L K Kp := by
  intro H w a hs he next Qc hn _
  obtain ⟨ti, z, h1, h2, h3, h4, h5, h6⟩ := (X.ty_ok hT).info
  have hno : ∀ o, H w.heap.size o = none := fun o => by
    cases e : H w.heap.size o with
    | none => rfl
    | some v => exact absurd (hs.lt_ghost e) (Nat.lt_irrefl _)
  obtain ⟨s', t'⟩ := hs.newObj (NewW.alloc w (.cells z.cells t)) (m := .cells t i.zero) ⟨⟨_, (NewW.alloc w _).new, h6 H⟩, hno⟩
  unfold Oper.wp
  simp only [execOp, Sem.run_bind, Instr.alloc, zeroValue, typeInfo, run_program, h1, h4, newVar, newRow, run_newObj, Sem.run_pure, Result.andThen_ok]
  exact hn _ H _ _ _ s' t' (.ptr _ 0) (h _)
theorem Enc.len_inv {H : Ghost} {d : D} {n : Nat} {v : Value} (h : Enc H d v) (hd : d.len = some n) : ∃ a cap, v = .slice a n cap ∧ n ≤ cap := by
  have el : ∀ es, d.elems = some es → es.length = n → ∃ a cap, v = .slice a n cap ∧ n ≤ cap := by
    intro es he hn
    obtain ⟨a, cap, h1, h2, _⟩ := h.data_inv he
    exact ⟨a, cap, hn ▸ h1, hn ▸ h2⟩
  cases d with
  | slc es => exact el es rfl (by simpa [D.len] using hd)
  | slP ps => exact el _ rfl (by simpa [D.len] using hd)
  | slL ps => exact el _ rfl (by simpa [D.len] using hd)
  | slT ps => exact el _ rfl (by simpa [D.len] using hd)
  | slC ps => exact el _ rfl (by simpa [D.len] using hd)
  | own b cap es =>
    obtain ⟨h1, h2, _⟩ := h.own_inv
    have : es.length = n := by simpa [D.len] using hd
    exact ⟨_, cap, this ▸ h1, this ▸ h2⟩
  | emp =>
    obtain ⟨a, rfl⟩ := h.emp_inv
    have : 0 = n := by simpa [D.len] using hd
    exact ⟨a, 0, by rw [← this], by omega⟩
  | sl b o m =>
    obtain ⟨cap, h1, h2⟩ := h.sl_inv
    have : m = n := by simpa [D.len] using hd
    exact ⟨_, cap, this ▸ h1, this ▸ h2⟩
  | _ => simp [D.len] at hd
theorem AVal.len {x : Operand} {d : D} {n : Nat} {t e : TypeId} (hx : ρ x = d) (hn : d.len = some n) (ht : X.elem t = some e) :
    AVal X ⟨dst, .call ⟨.builtin .len, #[x], #[t]⟩, ty, pos, after, guard⟩ ρ L (.int .i64 n) := by
  intro H w e' hs he
  have h1 := he x (by simp [Op.operands, Call.operands])
  rw [hx] at h1
  obtain ⟨a, cap, hv, _⟩ := h1.len_inv hn
  refine ⟨goInt n, ?_, .int _ _⟩
  simp only [execOp, resolve, invoke, builtin, Sem.run_bind, Sem.run_pure, Result.andThen_ok, List.map_toArray, List.map_cons, List.map_nil, hv]
  simp [Builtin.len_, run_underlying (X.elem_ok ht)]
theorem flat_cells_at {es : List D} {sz : Nat} (hz : ∀ e ∈ es, e.cells.length = sz) : ∀ {i : Nat} {e : D}, es[i]? = some e → ∃ tl, (flat es).drop (i * sz) = e.cells ++ tl := by
  induction es with
  | nil => intro i e h; simp at h
  | cons c r ih =>
    intro i e h
    cases i with
    | zero => simp at h; subst h; exact ⟨flat r, by simp [flat]⟩
    | succ i =>
      simp at h
      obtain ⟨tl, ht⟩ := ih (fun e he => hz e (by simp [he])) h
      refine ⟨tl, ?_⟩
      have hc := hz c (by simp)
      rw [← ht]
      show (c.cells ++ flat r).drop ((i + 1) * sz) = _
      rw [Nat.add_mul, Nat.one_mul, Nat.add_comm, ← hc, List.drop_append, List.drop_eq_nil_of_le (by omega)]
      simp [hc]
theorem run_indexAt_data {P : Program} {t e : TypeId} (ht : P.underlying t = some (.slice e)) {i : TI} (hT : TOk P e i) (b o len cap : Nat) (z : Int) (h0 : 0 ≤ z) (h1 : z < len) (w : World) :
    (Instr.indexAt t (.slice (some ⟨b, o, none⟩) len cap) (.int .i64 z)).run P w = .ok (.pointer (some ⟨b, o + z.toNat * i.size, none⟩)) w := by
  simp [Instr.indexAt, run_underlying ht, asIntOf, h0, h1, hT.sizeOf, Addr.add_lit]
theorem AVal.indexD {x y : Operand} {d e : D} {es : List D} {z : Int} {t et : TypeId} {i : TI} (hx : ρ x = d) (hd : d.elems = some es) (hy : ρ y = .int .i64 z) (ht : X.elem t = some et) (hT : X.ty et = some i)
    (h0 : 0 ≤ z) (hi : es[z.toNat]? = some e) (hz : ∀ e ∈ es, e.cells.length = i.size) : AVal X ⟨dst, .indexAddr t x y, ty, pos, after, guard⟩ ρ L (.ep e.cells) := by
  intro H w ev hs he
  have h1 := he x (by simp [Op.operands])
  have h2 := he y (by simp [Op.operands])
  rw [hx] at h1
  rw [hy] at h2
  obtain ⟨a, cap, hv, hc, hr⟩ := h1.data_inv hd
  have hlt : z.toNat < es.length := (List.getElem?_eq_some_iff.1 hi).1
  rcases hr with rfl | ⟨b, o, rfl, hrow⟩
  · simp at hi
  obtain ⟨tl, htl⟩ := flat_cells_at hz hi
  have hrow' := hrow.drop (z.toNat * i.size)
  rw [htl] at hrow'
  refine ⟨_, ?_, Enc.ep_iff.2 ⟨b, o + z.toNat * i.size, rfl, hrow'.left⟩⟩
  simp only [execOp, Sem.run_bind, hv, h2.int_inv, run_indexAt_data (X.elem_ok ht) (X.ty_ok hT) b o es.length cap z h0 (by omega) w, Result.andThen_ok, Sem.run_pure]
theorem AVal.indexT {x y : Operand} {ts : List Term} {tm : Term} {z : Int} {t et : TypeId} {i : TI} (hx : ρ x = .slT ts) (hy : ρ y = .int .i64 z) (ht : X.elem t = some et) (hT : X.ty et = some i) (h5 : i.size = 5)
    (h0 : 0 ≤ z) (hi : ts[z.toNat]? = some tm) : AVal X ⟨dst, .indexAddr t x y, ty, pos, after, guard⟩ ρ L (.ep (cellsT tm)) := by
  refine AVal.indexD hx rfl hy ht hT h0 (e := encT tm) (by rw [List.getElem?_map, hi]; rfl) (fun e he => ?_)
  obtain ⟨u, _, rfl⟩ := List.mem_map.1 he
  rw [h5]; rfl
theorem AVal.indexL {x y : Operand} {ts : List Level} {tm : Level} {z : Int} {t et : TypeId} {i : TI} (hx : ρ x = .slL ts) (hy : ρ y = .int .i64 z) (ht : X.elem t = some et) (hT : X.ty et = some i) (h5 : i.size = 1)
    (h0 : 0 ≤ z) (hi : ts[z.toNat]? = some tm) : AVal X ⟨dst, .indexAddr t x y, ty, pos, after, guard⟩ ρ L (.ep (cellsL tm)) := by
  refine AVal.indexD hx rfl hy ht hT h0 (e := encL tm) (by rw [List.getElem?_map, hi]; rfl) (fun e he => ?_)
  obtain ⟨u, _, rfl⟩ := List.mem_map.1 he
  rw [h5]; rfl
theorem AVal.indexP {x y : Operand} {ts : List Part} {tm : Part} {z : Int} {t et : TypeId} {i : TI} (hx : ρ x = .slP ts) (hy : ρ y = .int .i64 z) (ht : X.elem t = some et) (hT : X.ty et = some i) (h5 : i.size = 2)
    (h0 : 0 ≤ z) (hi : ts[z.toNat]? = some tm) : AVal X ⟨dst, .indexAddr t x y, ty, pos, after, guard⟩ ρ L (.ep (cellsP tm)) := by
  refine AVal.indexD hx rfl hy ht hT h0 (e := encP tm) (by rw [List.getElem?_map, hi]; rfl) (fun e he => ?_)
  obtain ⟨u, _, rfl⟩ := List.mem_map.1 he
  rw [h5]; rfl
theorem AVal.indexC {x y : Operand} {ts : List Core} {tm : Core} {z : Int} {t et : TypeId} {i : TI} (hx : ρ x = .slC ts) (hy : ρ y = .int .i64 z) (ht : X.elem t = some et) (hT : X.ty et = some i) (h5 : i.size = 12)
    (h0 : 0 ≤ z) (hi : ts[z.toNat]? = some tm) : AVal X ⟨dst, .indexAddr t x y, ty, pos, after, guard⟩ ρ L (.ep (cellsC tm)) := by
  refine AVal.indexD hx rfl hy ht hT h0 (e := encC tm) (by rw [List.getElem?_map, hi]; rfl) (fun e he => ?_)
  obtain ⟨u, _, rfl⟩ := List.mem_map.1 he
  rw [h5]; rfl
theorem AVal.indexS {x y : Operand} {b o n : Nat} {z : Int} {t et : TypeId} {i : TI} (hx : ρ x = .sl b o n) (hy : ρ y = .int .i64 z) (ht : X.elem t = some et) (hT : X.ty et = some i)
    (h0 : 0 ≤ z) (hi : z < n) : AVal X ⟨dst, .indexAddr t x y, ty, pos, after, guard⟩ ρ L (.ptr b (o + z.toNat * i.size)) := by
  intro H w ev hs he
  have h1 := he x (by simp [Op.operands])
  have h2 := he y (by simp [Op.operands])
  rw [hx] at h1
  rw [hy] at h2
  obtain ⟨cap, hv, hc⟩ := h1.sl_inv
  refine ⟨_, ?_, .ptr _ _⟩
  simp only [execOp, Sem.run_bind, hv, h2.int_inv, run_indexAt_data (X.elem_ok ht) (X.ty_ok hT) b o n cap z h0 hi w, Result.andThen_ok, Sem.run_pure]
theorem AVal.makeInterface {t : TypeId} {x : Operand} {d : D} (hx : ρ x = d) (hu : (match X.P.underlying t with | some (.interface _) | none => false | _ => true) = true) : AVal X ⟨dst, .makeInterface t x, ty, pos, after, guard⟩ ρ L (.iface t d) := by
  intro H w e hs he
  have h1 := he x (by simp [Op.operands])
  rw [hx] at h1
  refine ⟨_, ?_, .iface t d _ h1⟩
  cases hq : X.P.underlying t with
  | none => rw [hq] at hu; cases hu
  | some q =>
    simp only [execOp, Sem.run_bind, Instr.makeInterface, run_underlying hq, Result.andThen_ok]
    cases q <;> first | rfl | (rw [hq] at hu; cases hu)
theorem AVal.makeFunc {f : Fn} {first cap : Array Operand} : AVal X ⟨dst, .makeFunc f first cap, ty, pos, after, guard⟩ ρ L (.func f (first.toList.map ρ) (cap.toList.map ρ)) := by
  intro H w e hs he
  refine ⟨.func f (first.map e) (cap.map e), by simp [execOp, Instr.makeFunc], .func _ _ _ _ _ (by simp) (by simp) (fun i d v h1 h2 => ?_) (fun i d v h1 h2 => ?_)⟩
  · rw [List.getElem?_map, Array.getElem?_toList] at h1
    rw [Array.getElem?_map] at h2
    cases hx : first[i]? with
    | none => rw [hx] at h1; cases h1
    | some x =>
      rw [hx] at h1 h2; cases h1; cases h2
      exact he x (by simp [Op.operands, Array.mem_of_getElem? hx])
  · rw [List.getElem?_map, Array.getElem?_toList] at h1
    rw [Array.getElem?_map] at h2
    cases hx : cap[i]? with
    | none => rw [hx] at h1; cases h1
    | some x =>
      rw [hx] at h1 h2; cases h1; cases h2
      exact he x (by simp [Op.operands, Array.mem_of_getElem? hx])
theorem AVal.assertOk {x : Operand} {t xt : TypeId} {d : D} {q : TypeDesc} (hx : ρ x = .iface t d) (hq : X.P.underlying t = some q) (hni : (match q with | .interface _ => false | _ => true) = true) :
    AVal X ⟨dst, .typeAssert x xt t true, ty, pos, after, guard⟩ ρ L (.tup [d, .bool true]) := by
  intro H w e hs he
  have h := he x (by simp [Op.operands])
  rw [hx] at h
  obtain ⟨u, hv, hu'⟩ := h.iface_inv
  refine ⟨.tuple #[u, .bool true], ?_, .tup _ _ rfl (fun j d' v' h1 h2 => ?_)⟩
  · simp only [execOp, Sem.run_bind, Instr.typeAssert, run_underlying hq, Result.andThen_ok, hv]
    cases q with
    | interface ms => cases hni
    | _ => simp
  · match j with
    | 0 => simp at h1 h2; subst h1; subst h2; exact hu'
    | 1 => simp at h1 h2; subst h1; subst h2; exact .bool _
    | j + 2 => simp at h1
end
end Sp

/- Slices that are made, appended to, cut; structs that are made; calls. -/
set_option linter.unusedVariables false
namespace Sp
open Go
section
variable {X : PT} {ρ : Operand → D} {L : Loc} {dst : Option Tmp} {ty : TypeId} {pos : String} {after : Array Edge} {guard : Option (Nat × Bool)} {K Kp : D → Loc → Prop}
theorem Sim.no_ghost {H : Ghost} {w : World} (hs : Sim H L w) (o : Nat) : H w.heap.size o = none := by
  cases e : H w.heap.size o with
  | none => rfl
  | some v => exact absurd (hs.lt_ghost e) (Nat.lt_irrefl _)
def fillD (sz : Nat → Option (Nat × Nat)) : List D → List (Nat × D) → Option (List D)
  | cs, [] => some cs
  | cs, (i, d) :: r =>
    match sz i with
    | none => none
    | some (off, size) => bif (Nat.beq d.cells.length size) && Nat.ble (off + size) cs.length && d.whole then fillD sz (setD cs off d.cells) r else none
theorem foldl_set (l : List Value) (off : Nat) : ∀ (cs : Array Value) (k : Nat), off + k + l.length ≤ cs.size →
    ((l.zipIdx k).foldl (fun cs (p : Value × Nat) => cs.setIfInBounds (off + p.2) p.1) cs).toList = cs.toList.take (off + k) ++ l ++ cs.toList.drop (off + k + l.length) := by
  induction l with
  | nil => intro cs k h; simp
  | cons v r ih =>
    intro cs k h
    rw [List.zipIdx_cons, List.foldl_cons, ih _ (k + 1) (by simp at h ⊢; omega)]
    simp only [Array.toList_setIfInBounds, List.length_cons]
    simp only [List.length_cons] at h
    have hlt : off + k < cs.toList.length := by simp; omega
    rw [show off + (k + 1) = off + k + 1 by omega, List.take_add_one, List.take_set_of_le (Nat.le_refl _), List.getElem?_set_self hlt, List.drop_set_of_lt (by omega)]
    simp only [Option.toList_some, List.append_assoc, List.cons_append, List.nil_append]
    rw [show off + k + 1 + r.length = off + k + (r.length + 1) by omega]
theorem fill_ok {H : Ghost} (place : Nat → Option (Nat × Nat)) : ∀ (ps : List (Nat × D)) (vs : List (Nat × Value)) (cs ds : List D) (cur : Array Value), fillD place cs ps = some ds → EncCs H cs cur →
    vs.map Prod.fst = ps.map Prod.fst → (∀ (j : Nat) p v, ps[j]? = some p → vs[j]? = some v → Enc H p.2 v.2) → ∃ arr, Instr.fill place cur vs = some arr ∧ EncCs H ds arr
  | [], [], cs, ds, cur, h, hc, _, _ => by
    simp [fillD] at h
    subst h
    exact ⟨cur, rfl, hc⟩
  | [], _ :: _, _, _, _, _, _, h, _ => by simp at h
  | _ :: _, [], _, _, _, _, _, h, _ => by simp at h
  | (i, d) :: r, (i', v) :: vr, cs, ds, cur, h, hc, hm, he => by
    simp only [List.map_cons, List.cons.injEq] at hm
    obtain ⟨rfl, hm⟩ := hm
    unfold fillD at h
    cases hp : place i' with
    | none => rw [hp] at h; cases h
    | some q =>
      obtain ⟨off, size⟩ := q
      rw [hp] at h
      simp only at h
      cases hb : ((Nat.beq d.cells.length size) && Nat.ble (off + size) cs.length && d.whole) with
      | false => rw [hb] at h; cases h
      | true =>
        rw [hb] at h
        simp only [cond_true] at h
        simp only [Bool.and_eq_true] at hb
        obtain ⟨⟨hb1, hb2⟩, hb3⟩ := hb
        have hb1 := Nat.eq_of_beq_eq_true hb1
        have hb2 := Nat.le_of_ble_eq_true hb2
        have hv : Enc H d v := he 0 (i', d) (i', v) rfl rfl
        have hcv := hv.cells hb3
        have hsz : v.cells.size = size := hcv.1.trans hb1
        have hfold := foldl_set v.cells.toList off cur 0 (by simp [hsz, hc.1]; omega)
        simp only [Nat.add_zero, Array.length_toList] at hfold
        have hset := encCs_set (o := off) hc (nv := v.cells.toList) (new := d.cells) (by simpa using hcv) (by omega)
        simp only [Array.length_toList] at hset
        rw [← hfold] at hset
        obtain ⟨arr, h1, h2⟩ := fill_ok place r vr (setD cs off d.cells) ds _ h hset hm (fun j p v a b => he (j + 1) p v (by simpa using a) (by simpa using b))
        refine ⟨arr, ?_, h2⟩
        rw [Instr.fill, hp]
        simp only
        rw [if_neg (by simp [hsz, hc.1]; omega)]
        rw [show (v.cells.zipIdx.foldl (fun cs (x : Value × Nat) => cs.setIfInBounds (off + x.2) x.1) cur) = ((v.cells.toList.zipIdx 0).foldl (fun cs (p : Value × Nat) => cs.setIfInBounds (off + p.2) p.1) cur).toList.toArray from by
          rw [Array.toArray_toList, ← Array.foldl_toList, Array.toList_zipIdx]] at *
        simpa using h1
theorem AVal.build {t : TypeId} {parts : Array (Nat × Operand)} {i : TI} {pl : List (Nat × Nat)} {ds : List D} (hT : X.ty t = some i) (hp : X.plc t = some pl)
    (hd : fillD (pl[·]?) i.zero (parts.toList.map fun p => (p.1, ρ p.2)) = some ds) : AVal X ⟨dst, .build t parts, ty, pos, after, guard⟩ ρ L (.agg ds) := by
  intro H w e hs he
  obtain ⟨ti, z, g1, g2, g3, g4, g5, g6⟩ := (X.ty_ok hT).info
  obtain ⟨fields, hu, hf⟩ := (X.plc_ok hp).ok
  have hrun := hf w
  obtain ⟨arr, h1, h2⟩ := fill_ok (H := H) (pl[·]?) (parts.toList.map fun p => (p.1, ρ p.2)) (parts.toList.map fun p => (p.1, e p.2)) i.zero ds z.cells hd (g6 H) (by simp) (fun j p v a b => by
    rw [List.getElem?_map] at a b
    cases hp : parts.toList[j]? with
    | none => rw [hp] at a; cases a
    | some q =>
      rw [hp] at a b
      cases a; cases b
      have hm : q ∈ parts := Array.mem_toList_iff.1 (List.mem_of_getElem? hp)
      refine he q.2 ?_
      simp only [Op.operands, List.mem_toArray, List.mem_map]
      exact ⟨q, Array.mem_toList_iff.2 hm, rfl⟩)
  refine ⟨.agg arr, ?_, Enc.agg_iff.2 ⟨arr, rfl, h2⟩⟩
  simp only [execOp, Sem.run_bind, Instr.build, zeroValue, typeInfo, run_program, g1, g4, Sem.run_pure, Result.andThen_ok, run_underlying hu, hrun]
  have e1 : (Array.map (fun x : Nat × Operand => (x.fst, e x.snd)) parts).toList = parts.toList.map fun p => (p.1, e p.2) := by simp
  have e2 : (fun x : Nat => pl.toArray[x]?) = (fun x : Nat => pl[x]?) := by funext x; simp
  simp only [e1, e2, h1]
  rfl
theorem run_buildSlice {H : Ghost} {w : World} {t et : TypeId} {i : TI} {n : Nat} {parts : List (Nat × D)} {vs : List (Nat × Value)} {ds : List D} (ht : X.elem t = some et) (hT : X.ty et = some i) (hn : n * i.size ≤ 16777216)
    (hd : fillD (fun j => some (j * i.size, i.size)) ((List.range n).flatMap fun _ => i.zero) parts = some ds)
    (hm : vs.map Prod.fst = parts.map Prod.fst) (he : ∀ (j : Nat) p v, parts[j]? = some p → vs[j]? = some v → Enc H p.2 v.2) :
    ∃ arr, (Instr.buildSlice t n vs.toArray).run X.P w = .ok (.slice (some ⟨w.heap.size, 0, none⟩) n n) (w.alloc (.cells arr et)) ∧ EncCs H ds arr := by
  obtain ⟨ti, z, g1, g2, g3, g4, g5, g6⟩ := (X.ty_ok hT).info
  have hpos := X.elem_pos ht hT
  have hz := g6 H
  have hzero : EncCs H ((List.range n).flatMap fun _ => i.zero) ((Array.range (n * i.size)).map (z.cells[· % z.cells.size]!)) := by
    have hlen : i.zero.length = i.size := by rw [← hz.1, g5]
    have hfl : ∀ m, ((List.range m).flatMap fun _ => i.zero).length = m * i.size := fun m => by
      induction m with
      | zero => simp
      | succ m ih => rw [List.range_succ, List.flatMap_append, List.length_append, ih]; simp [hlen, Nat.add_mul]
    refine ⟨by simp [hfl], fun j d v a b => ?_⟩
    have hj : j < n * i.size := by have := (List.getElem?_eq_some_iff.1 a).1; rw [hfl] at this; exact this
    have key : ∀ m j, j < m * i.size → ((List.range m).flatMap fun _ => i.zero)[j]? = i.zero[j % i.size]? := by
      intro m
      induction m with
      | zero => intro j h; omega
      | succ m ih =>
        intro j h
        rw [List.range_succ, List.flatMap_append]
        by_cases hjm : j < m * i.size
        · rw [List.getElem?_append_left (by rw [hfl]; exact hjm)]
          exact ih j hjm
        · rw [List.getElem?_append_right (by rw [hfl]; omega), hfl]
          simp only [List.flatMap_cons, List.flatMap_nil, List.append_nil]
          have h3 : j - m * i.size < i.size := by rw [Nat.add_mul] at h; omega
          have : j % i.size = j - m * i.size := by
            have e : j = (j - m * i.size) + m * i.size := by omega
            rw [e, Nat.add_mul_mod_self_right, Nat.mod_eq_of_lt h3]
            omega
          rw [this]
    rw [key n j hj] at a
    have hmod : j % i.size < z.cells.size := by rw [g5]; exact Nat.mod_lt _ hpos
    simp only [Array.getElem?_map, Array.getElem?_range, hj, if_true, Option.map_some, Option.some.injEq] at b
    subst b
    rw [g5, getElem!_pos z.cells (j % i.size) hmod]
    exact hz.2 _ d _ a (Array.getElem?_eq_getElem hmod)
  obtain ⟨arr, h1, h2⟩ := fill_ok (H := H) (fun j => some (j * i.size, i.size)) parts vs _ ds _ hd hzero hm he
  refine ⟨arr, ?_, h2⟩
  have hz2 : ¬ (16777216 < n * i.size) := by omega
  simp only [Instr.buildSlice, Sem.run_bind, run_underlying (X.elem_ok ht), Result.andThen_ok, (X.ty_ok hT).sizeOf w]
  by_cases h0 : n * i.size = 0
  · have hn0 : n = 0 := by
      rcases Nat.mul_eq_zero.1 h0 with h | h
      · exact h
      · omega
    subst hn0
    simp only [Nat.zero_mul, Array.range_zero', Array.map_empty] at h1 ⊢
    simp [h1, newRow]
  · simp [hz2, h0, zeroValue, typeInfo, g1, g4, h1, newRow]
theorem enc_parts {H : Ghost} {a : Act} {parts : Array (Nat × Operand)} {t : TypeId} {n : Nat} (he : ∀ x ∈ (Op.buildSlice t n parts).operands, Enc H (ρ x) (a.eval x)) :
    ∀ (j : Nat) (p : Nat × D) (v : Nat × Value), (parts.toList.map fun p => (p.1, ρ p.2))[j]? = some p → (parts.toList.map fun p => (p.1, a.eval p.2))[j]? = some v → Enc H p.2 v.2 := by
  intro j p v q b
  rw [List.getElem?_map] at q b
  cases hp : parts.toList[j]? with
  | none => rw [hp] at q; cases q
  | some r =>
    rw [hp] at q b
    cases q; cases b
    have hm : r ∈ parts := Array.mem_toList_iff.1 (List.mem_of_getElem? hp)
    refine he r.2 ?_
    simp only [Op.operands, List.mem_toArray, List.mem_map]
    exact ⟨r, Array.mem_toList_iff.2 hm, rfl⟩
theorem parts_eq (parts : Array (Nat × Operand)) (a : Act) : (Array.map (fun x => match x with | (i, x) => (i, a.eval x)) parts) = (parts.toList.map fun p => (p.1, a.eval p.2)).toArray := by
  apply Array.ext'
  simp
theorem EncCs.rowAdd {H : Ghost} {b : Nat} {ds : List D} {arr : Array Value} (hc : EncCs H ds arr) (hle : H.le (H.add b 0 arr.toList)) : RowAt (H.add b 0 arr.toList) b 0 ds := by
  intro j d e
  have hj : j < arr.size := by rw [hc.1]; exact (List.getElem?_eq_some_iff.1 e).1
  exact ⟨arr[j], Ghost.add_at (by rw [Array.getElem?_toList]; exact Array.getElem?_eq_getElem hj), (hc.2 j d _ e (Array.getElem?_eq_getElem hj)).mono hle⟩
theorem AOp.buildSlice {t et : TypeId} {n : Nat} {parts : Array (Nat × Operand)} {i : TI} {es : List D} (ht : X.elem t = some et) (hT : X.ty et = some i) (hn : Nat.ble (n * i.size) 16777216 = true)
    (hd : fillD (fun j => some (j * i.size, i.size)) ((List.range n).flatMap fun _ => i.zero) (parts.toList.map fun p => (p.1, ρ p.2)) = some (flat es)) (hl : es.length = n)
    (h : K (.slc es) L) : AOp X ⟨dst, .buildSlice t n parts, ty, pos, after, guard⟩ ρ L K Kp := by
  intro H w a hs he next Qc hnx _
  obtain ⟨arr, hrun, hc⟩ := run_buildSlice (X := X) (H := H) (w := w) (vs := parts.toList.map fun p => (p.1, a.eval p.2)) ht hT (Nat.le_of_ble_eq_true hn) hd (by simp) (enc_parts he)
  obtain ⟨s', t'⟩ := hs.newData (NewW.alloc w (.cells arr et))
  have henc : Enc (H.add w.heap.size 0 arr.toList) (.slc es) (.slice (some ⟨w.heap.size, 0, none⟩) n n) := by
    have := Enc.data_mk (d := .slc es) (es := es) (cap := es.length) rfl (Nat.le_refl _) (hc.rowAdd t'.le)
    rwa [hl] at this
  unfold Oper.wp
  simp only [execOp, Sem.run_bind, parts_eq, hrun, Result.andThen_ok, Sem.run_pure]
  exact hnx _ _ _ _ _ s' t' henc h
theorem AOp.buildEmpty {t et : TypeId} {i : TI} (ht : X.elem t = some et) (hT : X.ty et = some i) (h : K .emp L) : AOp X ⟨dst, .buildSlice t 0 #[], ty, pos, after, guard⟩ ρ L K Kp := by
  intro H w a hs he next Qc hnx _
  obtain ⟨arr, hrun, hc⟩ := run_buildSlice (X := X) (H := H) (w := w) (n := 0) (parts := []) (vs := []) (ds := []) ht hT (by omega) rfl rfl (fun j p v q b => by simp at q)
  obtain ⟨s', t'⟩ := hs.newData (NewW.alloc w (.cells arr et))
  unfold Oper.wp
  simp only [execOp, Sem.run_bind, Array.map_empty, hrun, Result.andThen_ok, Sem.run_pure]
  exact hnx _ _ _ _ _ s' t' (.emp _) h
end
end Sp

/- append. -/
set_option linter.unusedVariables false
namespace Sp
open Go
def D.src : D → Option (List D)
  | .emp => some []
  | .own _ _ es => some es
  | d => d.elems
section
variable {X : PT} {ρ : Operand → D} {L : Loc} {dst : Option Tmp} {ty : TypeId} {pos : String} {after : Array Edge} {guard : Option (Nat × Bool)} {K Kp : D → Loc → Prop}
theorem D.src_elems {d : D} {es : List D} (h : d.elems = some es) : d.src = some es := by cases d <;> first | exact h | (simp [D.elems] at h)
theorem flat_length {es : List D} {sz : Nat} (hz : ∀ e ∈ es, e.cells.length = sz) : (flat es).length = es.length * sz := by
  induction es with
  | nil => simp [flat]
  | cons e r ih =>
    have h1 := hz e (by simp)
    have h2 := ih (fun e he => hz e (by simp [he]))
    show (e.cells ++ flat r).length = (r.length + 1) * sz
    rw [List.length_append, h1, h2, Nat.add_mul]; omega
theorem flat_append (a b : List D) : flat (a ++ b) = flat a ++ flat b := by simp [flat]
theorem src_ok {H : Ghost} {w : World} (hs : Sim H L w) {d : D} {es : List D} {v : Value} (h : Enc H d v) (hd : d.src = some es) {sz : Nat} (hz : ∀ e ∈ es, e.cells.length = sz) {tx e' : TypeId} (hk : X.P.underlying tx = some (.slice e')) :
    ∃ news : List Value, Src X.P sz tx v es.length news w ∧ EncCs H (flat es) news.toArray := by
  have row : ∀ b o cap, RowAt H b o (flat es) → ∃ news : List Value, Src X.P sz tx (.slice (some ⟨b, o, none⟩) es.length cap) es.length news w ∧ EncCs H (flat es) news.toArray := by
    intro b o cap hr
    let f : Nat → Value := fun j => (H b (o + j)).getD undef
    have hf : ∀ j, j < (flat es).length → H b (o + j) = some (f j) ∧ ∃ d, (flat es)[j]? = some d ∧ EncC H d (f j) := by
      intro j hj
      obtain ⟨v, h1, h2⟩ := hr j _ (List.getElem?_eq_getElem hj)
      have : f j = v := by simp [f, h1]
      rw [this]
      exact ⟨h1, _, List.getElem?_eq_getElem hj, h2⟩
    have hget : ∀ (j : Nat) u, ((List.range (flat es).length).map f)[j]? = some u → j < (flat es).length ∧ u = f j := by
      intro j u e
      have hj : j < (flat es).length := by have := (List.getElem?_eq_some_iff.1 e).1; simpa using this
      simp [hj] at e
      exact ⟨hj, e.symm⟩
    refine ⟨(List.range (flat es).length).map f, Src.ofSlice w hk ⟨b, o, none⟩ es.length cap _ (by simp [flat_length hz]) ?_ ?_, by simp, ?_⟩
    · intro j u e
      obtain ⟨hj, rfl⟩ := hget j u e
      rw [Addr.add_lit]
      exact hs.ok _ _ _ (hf j hj).1
    · intro u hu
      obtain ⟨j, hj⟩ := List.mem_iff_getElem?.1 hu
      obtain ⟨hj', rfl⟩ := hget j u hj
      obtain ⟨_, d, _, h2⟩ := hf j hj'
      exact h2.1
    · intro j d v e k
      obtain ⟨hj, rfl⟩ := hget j v (by simpa using k)
      obtain ⟨_, d', h1, h2⟩ := hf j hj
      rw [h1] at e; cases e
      exact h2
  have nil : ∀ a cap, es = [] → ∃ news : List Value, Src X.P sz tx (.slice a 0 cap) es.length news w ∧ EncCs H (flat es) news.toArray := by
    intro a cap he
    subst he
    refine ⟨[], ?_, rfl, fun i d v e => by simp [flat] at e⟩
    cases a with
    | none => exact Src.ofNil w hk cap
    | some a => exact Src.ofSlice w hk a 0 cap [] (by simp) (fun j u e => by simp at e) (fun u hu => by cases hu)
  cases d with
  | emp =>
    obtain ⟨a, rfl⟩ := h.emp_inv
    have : es = [] := by simpa [D.src, eq_comm] using hd
    exact nil a 0 this
  | own b cap fs =>
    obtain ⟨rfl, hc, hr⟩ := h.own_inv
    have : fs = es := by simpa [D.src] using hd
    subst this
    exact row b 0 cap hr
  | _ =>
    have he : _ = some es := hd
    obtain ⟨a, cap, rfl, h1, h2⟩ := h.data_inv he
    rcases h2 with rfl | ⟨b, o, rfl, h2⟩
    · exact nil a cap rfl
    · exact row b o cap h2
theorem perm_eraseIdx {α : Type} : ∀ (l : List α) (k : Nat) (x : α), l[k]? = some x → l.Perm (x :: l.eraseIdx k)
  | [], k, x, h => by simp at h
  | y :: r, 0, x, h => by simp at h; subst h; exact List.Perm.refl _
  | y :: r, k + 1, x, h => by
    simp at h
    have ih := perm_eraseIdx r k x h
    simp only [List.eraseIdx_cons_succ]
    exact (List.Perm.cons y ih).trans (List.Perm.swap x y _)
theorem encCs_append {H : Ghost} {as bs : List D} {us vs : Array Value} (h : EncCs H as us) (k : EncCs H bs vs) : EncCs H (as ++ bs) (us ++ vs) := by
  refine ⟨by simp [h.1, k.1], fun i d v e q => ?_⟩
  by_cases hi : i < as.length
  · rw [List.getElem?_append_left hi] at e
    rw [Array.getElem?_append_left (by rw [h.1]; exact hi)] at q
    exact h.2 i d v e q
  · rw [List.getElem?_append_right (by omega)] at e
    rw [Array.getElem?_append_right (by rw [h.1]; omega), h.1] at q
    exact k.2 _ d v e q
theorem EncCs.rowAdd' {H : Ghost} {b lo : Nat} {ds : List D} {vs : List Value} (hc : EncCs H ds vs.toArray) (hle : H.le (H.add b lo vs)) : RowAt (H.add b lo vs) b lo ds := by
  intro j d e
  have hj : j < vs.length := by have := hc.1; simp at this; rw [this]; exact (List.getElem?_eq_some_iff.1 e).1
  exact ⟨vs[j], Ghost.add_at (List.getElem?_eq_getElem hj), (hc.2 j d _ e (by simp [hj])).mono hle⟩
theorem Sim.newBuf {H : Ghost} {w w' : World} (hs : Sim H L w) {t : TypeId} {sz cap : Nat} {es : List D} {vs rest : Array Value} (hw : NewW w w' (.cells (vs ++ rest) t)) (hc : EncCs H (flat es) vs) (hr : rest.size = cap * sz - es.length * sz)
    (hl : (flat es).length = es.length * sz) (hcap : es.length ≤ cap) (hm : cap ≤ maxLen) (h1c : ∀ u ∈ rest.toList, u.oneCell' = true) :
    Sim (H.add w.heap.size 0 vs.toList) ((w.heap.size, .buf t sz cap es) :: L) w' ∧ Step H L w (H.add w.heap.size 0 vs.toList) ((w.heap.size, .buf t sz cap es) :: L) w' ∧
      Enc (H.add w.heap.size 0 vs.toList) (.own w.heap.size cap es) (.slice (some ⟨w.heap.size, 0, none⟩) es.length cap) := by
  have hno := hs.no_ghost
  have hle : H.le (H.add w.heap.size 0 vs.toList) := Ghost.le_add (fun o _ _ => hno o)
  have hsz : vs.size = es.length * sz := hc.1.trans hl
  have hmul : es.length * sz ≤ cap * sz := Nat.mul_le_mul_right _ hcap
  have hrow : RowAt (H.add w.heap.size 0 vs.toList) w.heap.size 0 (flat es) := EncCs.rowAdd' (by simpa using hc) hle
  refine ⟨⟨Ghost.le_trans hs.gl hle, fun b o v e => ?_, fun b m hb => ?_, ?_⟩, ?_, Enc.own_mk hcap hrow⟩
  · by_cases hb : b = w.heap.size
    · subst hb
      unfold Ghost.add at e
      split at e
      · rename_i hc'
        simp only [Nat.sub_zero, Array.getElem?_toList] at e
        simp only [World.cell?, hw.new, Option.isSome_none]
        have ho : o < vs.size := by simpa using hc'.2.2
        rw [Array.getElem?_append_left ho]
        simpa using e
      · rw [hno o] at e; cases e
    · rw [Ghost.add_other (.inl hb)] at e
      rw [cell_of_heap (hw.old (b := b) (hs.lt_ghost e))]
      exact hs.ok b o v e
  · rcases List.mem_cons.1 hb with e | hb
    · cases e
      refine ⟨⟨_, hw.new, by simp [hsz, hr]; omega, hl, hcap, hm, fun u hu => ?_⟩, fun o ho => ?_⟩
      · rw [Array.toList_append] at hu
        rcases List.mem_append.1 hu with hu | hu
        · obtain ⟨j, hj⟩ := List.mem_iff_getElem?.1 hu
          rw [Array.getElem?_toList] at hj
          have hjl : j < (flat es).length := by rw [← hc.1]; exact (Array.getElem?_eq_some_iff.1 hj).1
          exact (hc.2 j _ u (List.getElem?_eq_getElem hjl) hj).1
        · exact h1c u hu
      rw [Ghost.add_other (.inr (.inr (by simp [hsz]; omega)))]
      exact hno o
    · have hlt := (hs.obj b m hb).lt
      exact (hs.obj b m hb).keep hle (hw.old hlt) (fun o h => by rw [Ghost.add_other (.inl (by omega))]; exact h)
  · rw [List.map_cons, List.nodup_cons]
    exact ⟨fun h => absurd (hs.lt_dom h) (Nat.lt_irrefl _), hs.nodup⟩
  · refine ⟨hle, hw.os, hw.tape, hw.output, by rw [hw.size]; omega, fun b hb _ => hw.old hb, fun b hb => ?_, fun b o hb _ h => by rw [Ghost.add_other (.inl (by omega))]; exact h⟩
    simp only [dom, List.map_cons, List.mem_cons] at hb
    rcases hb with rfl | hb
    · exact .inr (Nat.le_refl _)
    · exact .inl hb
theorem toElemInfo {t : TypeId} {i : TI} (hT : X.ty t = some i) : ∃ ti z, X.P.info? t = some ti ∧ ti.size = i.size ∧ ti.bytes = i.bytes ∧ ti.zero = some z ∧ z.cells.size = i.size := by
  obtain ⟨ti, z, g1, g2, g3, g4, g5, _⟩ := (X.ty_ok hT).info
  exact ⟨ti, z, g1, g2, g3, g4, g5⟩
theorem firstCells_emp (P : Program) (w : World) (size : Nat) (a : Option Addr) : (Builtin.firstCells size 0 (.slice a 0 0)).run P w = .ok (#[] : Array Value) w := by
  cases a with
  | none => rfl
  | some a => simp [Builtin.firstCells, loadCells, loadCellsFrom]
theorem zeroCells_one {t et : TypeId} {i : TI} {ti : TypeInfo} {z : Value} (ht : X.elem t = some et) (hT : X.ty et = some i) (g1 : X.P.info? et = some ti) (g4 : ti.zero = some z) (g5 : z.cells.size = i.size) (n : Nat) : ∀ u ∈ (Builtin.zeroCells z.cells n).toList, u.oneCell' = true := by
  intro u hu
  obtain ⟨j, e⟩ := List.mem_iff_getElem?.1 hu
  rw [Array.getElem?_toList] at e
  obtain ⟨_, z', q1, _, _, q4, _, q6⟩ := (X.ty_ok hT).info
  obtain rfl : z' = z := by rw [g1] at q1; cases q1; rw [g4] at q4; cases q4; rfl
  simp only [Builtin.zeroCells, Array.getElem?_map] at e
  have hzz := q6 (fun _ _ => none)
  cases hj : (Array.range (n * z'.cells.size))[j]? with
  | none => rw [hj] at e; cases e
  | some k =>
    rw [hj] at e
    simp only [Option.map_some, Option.some.injEq] at e
    subst e
    have hzpos : 0 < z'.cells.size := by rw [g5]; exact X.elem_pos ht hT
    have hmod := Nat.mod_lt k hzpos
    rw [getElem!_pos z'.cells _ hmod]
    have hlt : k % z'.cells.size < i.zero.length := by rw [← hzz.1]; exact hmod
    exact (hzz.2 _ _ _ (List.getElem?_eq_getElem hlt) (Array.getElem?_eq_getElem hmod)).1
theorem run_append_emp {H : Ghost} {w : World} (hs : Sim H L w) {t tx et ex : TypeId} {i : TI} (ht : X.elem t = some et) (hx : X.elem tx = some ex) (hT : X.ty et = some i) (a : Option Addr) {d : D} {v : Value} {es : List D}
    (hv : Enc H d v) (hd : d.src = some es) (hz : ∀ e ∈ es, e.cells.length = i.size) (hne : es ≠ []) (hlen : es.length ≤ maxLen) (hby : es.length * i.bytes ≤ 140737488355328) :
    ∃ (cap : Nat) (vs rest : Array Value), (Builtin.append_ #[t, tx] ty #[.slice a 0 0, v]).run X.P w = .ok (.slice (some ⟨w.heap.size, 0, none⟩) es.length cap) (w.drew.alloc (.cells (vs ++ rest) et)) ∧
      EncCs H (flat es) vs ∧ rest.size = cap * i.size - es.length * i.size ∧ es.length ≤ cap ∧ cap ≤ maxLen ∧ ∀ u ∈ rest.toList, u.oneCell' = true := by
  obtain ⟨ti, z, g1, g2, g3, g4, g5⟩ := toElemInfo hT
  obtain ⟨news, hsrc, hc⟩ := src_ok (X := X) hs hv hd hz (X.elem_ok hx)
  rw [← g2] at hsrc
  have hpos : 0 < es.length := List.length_pos_iff.2 hne
  have hsmall : es.length ≤ 9223372036854775807 := by simp only [maxLen] at hlen; omega
  have hrun := run_append_grow_src (P := X.P) w t tx ty et ti z (X.elem_ok ht) g1 g4 a 0 0 [] (firstCells_emp _ _ _ _) v es.length news hsrc (by omega) (by omega) (by rw [Nat.zero_add, nextslicecap_zero hpos, g3]; omega)
  simp only [Nat.zero_add, List.nil_append] at hrun
  refine ⟨_, news.toArray, _, hrun, hc, ?_, grownCap_ge _ _ _ _, grownCap_le_maxLen _ _ _ _ (by omega), zeroCells_one ht hT g1 g4 g5 _⟩
  rw [size_zeroCells, g5, Nat.sub_mul]
theorem append_op {a : Act} {s x : Operand} {t tx : TypeId} {v u : Value} (hs : a.eval s = u) (hx : a.eval x = v) (w : World) :
    (execOp a.eval ⟨dst, .call ⟨.builtin .append, #[s, x], #[t, tx]⟩, ty, pos, after, guard⟩).run X.P w = ((Builtin.append_ #[t, tx] ty #[u, v]).run X.P w).andThen fun r w' => .ok (.value r) w' := by
  simp only [execOp, resolve, invoke, builtin, Sem.run_bind, Sem.run_pure, Result.andThen_ok, List.map_toArray, List.map_cons, List.map_nil, hs, hx]
theorem AOp.appendNew {s x : Operand} {t tx et ex : TypeId} {i : TI} {d : D} {es : List D} (ht : X.elem t = some et) (htx : X.elem tx = some ex) (hT : X.ty et = some i) (hs0 : ρ s = .emp) (hx : ρ x = d) (hd : d.src = some es)
    (hz : ∀ e ∈ es, e.cells.length = i.size) (hne : es ≠ []) (hlen : es.length ≤ maxLen) (hby : es.length * i.bytes ≤ 140737488355328)
    (h : ∀ b cap, K (.own b cap es) ((b, .buf et i.size cap es) :: L)) : AOp X ⟨dst, .call ⟨.builtin .append, #[s, x], #[t, tx]⟩, ty, pos, after, guard⟩ ρ L K Kp := by
  intro H w a hs he next Qc hnx _
  have h1 := he s (by simp [Op.operands, Call.operands])
  have h2 := he x (by simp [Op.operands, Call.operands])
  rw [hs0] at h1
  rw [hx] at h2
  obtain ⟨ad, hv⟩ := h1.emp_inv
  obtain ⟨cap, vs, rest, hrun, hc, hr, hcap, hm, h1c⟩ := run_append_emp (ty := ty) hs ht htx hT ad h2 hd hz hne hlen hby
  obtain ⟨s', t', e'⟩ := hs.newBuf (NewW.drewAlloc w _) hc hr (flat_length hz) hcap hm h1c
  unfold Oper.wp
  rw [append_op hv rfl, hrun]
  exact hnx _ _ _ _ _ s' t' e' (h _ _)
theorem AOp.appendNone {s x : Operand} {t tx et ex : TypeId} {i : TI} {d : D} (ht : X.elem t = some et) (htx : X.elem tx = some ex) (hT : X.ty et = some i) (hs0 : ρ s = .emp) (hx : ρ x = d) (hd : d.src = some [])
    (h : K .emp L) : AOp X ⟨dst, .call ⟨.builtin .append, #[s, x], #[t, tx]⟩, ty, pos, after, guard⟩ ρ L K Kp := by
  intro H w a hs he next Qc hnx _
  have h1 := he s (by simp [Op.operands, Call.operands])
  have h2 := he x (by simp [Op.operands, Call.operands])
  rw [hs0] at h1
  rw [hx] at h2
  obtain ⟨ad, hv⟩ := h1.emp_inv
  obtain ⟨ti, z, g1, g2, g3, g4, g5⟩ := toElemInfo hT
  obtain ⟨news, hsrc, hc⟩ := src_ok (X := X) hs h2 hd (sz := ti.size) (fun e he => by cases he) (X.elem_ok htx)
  have hnews : news = [] := by have := hsrc.newsLen; simp at this; exact this
  have hcl := hsrc.cells
  simp only [List.length_nil] at hcl
  have hrun : (Builtin.append_ #[t, tx] ty #[.slice ad 0 0, a.eval x]).run X.P w = .ok (.slice ad 0 0) w := by
    rcases hsrc.kind with ⟨e', hk⟩ | hk
    · cases ad with
      | none => simp [Builtin.append_, run_underlying (X.elem_ok ht), run_underlying hk, Go.sizeOf, typeInfo, g1, hsrc.len, hcl]
      | some ad => simp [Builtin.append_, run_underlying (X.elem_ok ht), run_underlying hk, Go.sizeOf, typeInfo, g1, hsrc.len, hcl, hnews, storeCells]
    · rw [X.elem_ok htx] at hk; cases hk
  unfold Oper.wp
  rw [append_op hv rfl, hrun]
  exact hnx _ _ _ _ _ hs (Step.refl _ _ _) (.emp _) h
theorem AOp.appendNewM {s x : Operand} {t tx et ex : TypeId} {i : TI} {d : D} {es : List D} (ht : X.elem t = some et) (htx : X.elem tx = some ex) (hT : X.ty et = some i) (hs0 : ρ s = .emp) (hx : ρ x = d) (hd : d.src = some es)
    (hz : ∀ e ∈ es, e.cells.length = i.size) (hne : es ≠ []) (hlen : es.length ≤ maxLen) (hby : es.length * i.bytes ≤ 140737488355328)
    (h : ∀ b r, K (.sl b 0 es.length) ((b, .cells et (flat es ++ List.replicate r .any)) :: L)) : AOp X ⟨dst, .call ⟨.builtin .append, #[s, x], #[t, tx]⟩, ty, pos, after, guard⟩ ρ L K Kp := by
  intro H w a hs he next Qc hnx _
  have h1 := he s (by simp [Op.operands, Call.operands])
  have h2 := he x (by simp [Op.operands, Call.operands])
  rw [hs0] at h1
  rw [hx] at h2
  obtain ⟨ad, hv⟩ := h1.emp_inv
  obtain ⟨cap, vs, rest, hrun, hc, hr, hcap, hm, h1c⟩ := run_append_emp (ty := ty) hs ht htx hT ad h2 hd hz hne hlen hby
  have hrest : EncCs H (List.replicate rest.size .any) rest := by
    refine ⟨by simp, fun j d v e k => ⟨h1c v (List.mem_iff_getElem?.2 ⟨j, by rw [Array.getElem?_toList]; exact k⟩), ?_⟩⟩
    rw [List.getElem?_replicate] at e
    split at e
    · cases e; exact .any v
    · cases e
  obtain ⟨s', t'⟩ := hs.newObj (NewW.drewAlloc w (.cells (vs ++ rest) et)) (m := .cells et (flat es ++ List.replicate rest.size .any)) ⟨⟨_, (NewW.drewAlloc w _).new, encCs_append hc hrest⟩, fun o => hs.no_ghost o⟩
  unfold Oper.wp
  rw [append_op hv rfl, hrun]
  exact hnx _ _ _ _ _ s' t' (.sl _ 0 _ cap hcap) (h _ _)
theorem AOp.appendOwn {s x : Operand} {t tx et ex : TypeId} {i : TI} {d : D} {b cap : Nat} {olds es : List D} (k : Nat) (ht : X.elem t = some et) (htx : X.elem tx = some ex) (hT : X.ty et = some i) (hs0 : ρ s = .own b cap olds) (hx : ρ x = d) (hd : d.src = some es)
    (hk : L[k]? = some (b, .buf et i.size cap olds))
    (hz : ∀ e ∈ es, e.cells.length = i.size) (hlen : olds.length + es.length ≤ maxLen) (hby : (olds.length + es.length) * i.bytes ≤ 140737488355328)
    (h : ∀ b' cap', K (.own b' cap' (olds ++ es)) ((b', .buf et i.size cap' (olds ++ es)) :: L.eraseIdx k)) : AOp X ⟨dst, .call ⟨.builtin .append, #[s, x], #[t, tx]⟩, ty, pos, after, guard⟩ ρ L K Kp := by
  intro H w a hs he next Qc hnx _
  have h1 := he s (by simp [Op.operands, Call.operands])
  have h2 := he x (by simp [Op.operands, Call.operands])
  rw [hs0] at h1
  rw [hx] at h2
  obtain ⟨hv, hcap, hrow⟩ := h1.own_inv
  have hmem : (b, MObj.buf et i.size cap olds) ∈ L := List.mem_iff_getElem?.2 ⟨k, hk⟩
  obtain ⟨⟨arr, q1, q2, q3, q4, q5, q7⟩, q6⟩ := hs.obj _ _ hmem
  obtain ⟨ti, z, g1, g2, g3, g4, g5⟩ := toElemInfo hT
  obtain ⟨news, hsrc, hc⟩ := src_ok (X := X) hs h2 hd hz (X.elem_ok htx)
  have hnl : news.length = es.length * i.size := hsrc.newsLen
  rw [← g2] at hsrc
  have hpos := X.elem_pos ht hT
  have hfl : (flat (olds ++ es)).length = (olds ++ es).length * i.size := by rw [flat_append, List.length_append, q3, flat_length hz, List.length_append, Nat.add_mul]
  have hll : (olds ++ es).length = olds.length + es.length := List.length_append
  let f : Nat → Value := fun j => (H b j).getD undef
  have hf : ∀ j, j < (flat olds).length → H b j = some (f j) ∧ ∃ d, (flat olds)[j]? = some d ∧ EncC H d (f j) := by
    intro j hj
    obtain ⟨v, h1, h2⟩ := hrow j _ (List.getElem?_eq_getElem hj)
    rw [Nat.zero_add] at h1
    have : f j = v := by simp [f, h1]
    rw [this]
    exact ⟨h1, _, List.getElem?_eq_getElem hj, h2⟩
  have hgetf : ∀ (j : Nat) u, ((List.range (flat olds).length).map f)[j]? = some u → j < (flat olds).length ∧ u = f j := by
    intro j u e
    have hj : j < (flat olds).length := by have := (List.getElem?_eq_some_iff.1 e).1; simpa using this
    simp [hj] at e
    exact ⟨hj, e.symm⟩
  have holdC : EncCs H (flat olds) ((List.range (flat olds).length).map f).toArray := by
    refine ⟨by simp, fun j d v e k => ?_⟩
    obtain ⟨hj, rfl⟩ := hgetf j v (by simpa using k)
    obtain ⟨_, d', h1, h2⟩ := hf j hj
    rw [h1] at e; cases e
    exact h2
  have hsub := List.eraseIdx_sublist L k
  by_cases hroom : olds.length + es.length ≤ cap
  · -- there is room
    have hmul : (olds.length + es.length) * i.size ≤ cap * i.size := Nat.mul_le_mul_right _ hroom
    have hfit : olds.length * i.size + news.length ≤ arr.size := by rw [hnl, q2, ← Nat.add_mul]; exact hmul
    have hcell : ∀ j, j < news.length → (w.cell? ⟨b, 0 + olds.length * ti.size + j, none⟩).isSome = true := by
      intro j hj
      have : olds.length * i.size + j < arr.size := by omega
      simp [World.cell?, q1, g2, this]
    have hfro : ∀ j, j < news.length → w.frozen? ⟨b, 0 + olds.length * ti.size + j, none⟩ = false := by
      intro j hj
      simp [World.frozen?, q1]
    have hst := run_storeCells_at X.P b (olds.length * i.size) et news 0 arr w q1 (by simpa using hfit) hsrc.one
    simp only [Nat.add_zero] at hst
    have hrun : (Builtin.append_ #[t, tx] ty #[.slice (some ⟨b, 0, none⟩) olds.length cap, a.eval x]).run X.P w =
        .ok (.slice (some ⟨b, 0, none⟩) (olds.length + es.length) cap) (w.setRow b (arr.toList.take (olds.length * i.size) ++ news ++ arr.toList.drop (olds.length * i.size + news.length)).toArray) := by
      have hcl := hsrc.cells
      rw [g2] at hcl
      simp only [List.append_assoc] at hst ⊢
      rcases hsrc.kind with ⟨e', hk'⟩ | hk'
      · simp [Builtin.append_, run_underlying (X.elem_ok ht), run_underlying hk', Go.sizeOf, typeInfo, g1, hsrc.len, hroom, hcl, Addr.add_lit, g2, hst]
      · rw [X.elem_ok htx] at hk'; cases hk'
    generalize hw' : w.setRow b (arr.toList.take (olds.length * i.size) ++ news ++ arr.toList.drop (olds.length * i.size + news.length)).toArray = w' at hrun
    have hb' : w'.heap[b]? = some (.cells (arr.toList.take (olds.length * i.size) ++ news ++ arr.toList.drop (olds.length * i.size + news.length)).toArray et (0, 0)) := by
      rw [← hw']; exact setRow_heap w b arr _ et (0, 0) q1
    have hoth : ∀ c, c ≠ b → w'.heap[c]? = w.heap[c]? := fun c hc => by rw [← hw']; exact setRow_other' w b _ hc
    have hsize : w'.heap.size = w.heap.size := by rw [← hw']; simp [World.setRow]
    have hle : H.le (H.add b (olds.length * i.size) news) := Ghost.le_add (fun o ho _ => q6 o (by rw [q3]; exact ho))
    have hlt : b < w.heap.size := (hs.obj _ _ hmem).lt
    have hne : ∀ c x, (c, x) ∈ L.eraseIdx k → c ≠ b := by
      intro c x hc' e
      subst e
      have hn := (hs.perm (perm_eraseIdx L k _ hk)).nodup
      rw [List.map_cons, List.nodup_cons] at hn
      exact hn.1 (mem_dom hc')
    have htake : (arr.toList.take (olds.length * i.size)).length = olds.length * i.size := by simp; omega
    have hcellnew : ∀ j u, news[j]? = some u → w'.cell? ⟨b, olds.length * i.size + j, none⟩ = some u := by
      intro j u hj
      have hj' := (List.getElem?_eq_some_iff.1 hj).1
      simp only [World.cell?, hb', Option.isSome_none]
      simp only [Bool.false_eq_true, if_false, List.getElem?_toArray]
      rw [List.append_assoc, List.getElem?_append_right (by omega), htake, List.getElem?_append_left (by omega), show olds.length * i.size + j - olds.length * i.size = j by omega, hj]
    have hcellold : ∀ o, o < olds.length * i.size → w'.cell? ⟨b, o, none⟩ = w.cell? ⟨b, o, none⟩ := by
      intro o ho
      simp only [World.cell?, hb', q1, Option.isSome_none]
      simp only [Bool.false_eq_true, if_false, List.getElem?_toArray]
      rw [List.append_assoc, List.getElem?_append_left (by omega), List.getElem?_take_of_lt ho, Array.getElem?_toList]
    have hsim : Sim (H.add b (olds.length * i.size) news) ((b, .buf et i.size cap (olds ++ es)) :: L.eraseIdx k) w' := by
      refine ⟨Ghost.le_trans hs.gl hle, fun c o v e => ?_, fun c x hc' => ?_, ?_⟩
      · by_cases hcb : c = b
        · subst hcb
          unfold Ghost.add at e
          split at e
          · rename_i hcc
            have := hcellnew (o - olds.length * i.size) v e
            rwa [show olds.length * i.size + (o - olds.length * i.size) = o by omega] at this
          · have ho : o < olds.length * i.size := by
              rcases Nat.lt_or_ge o (olds.length * i.size) with h | h
              · exact h
              · rw [q6 o (by rw [q3]; exact h)] at e; cases e
            rw [hcellold o ho]
            exact hs.ok c o v e
        · rw [Ghost.add_other (.inl hcb)] at e
          rw [cell_of_heap (hoth c hcb)]
          exact hs.ok c o v e
      · rcases List.mem_cons.1 hc' with e | hc'
        · cases e
          refine ⟨⟨_, hb', ?_, hfl, by rw [hll]; exact hroom, q5, fun u hu => ?_⟩, fun o ho => ?_⟩
          · simp only [List.size_toArray, List.length_append, htake, List.length_drop, Array.length_toList]
            omega
          · simp only [List.mem_append] at hu
            rcases hu with (hu | hu) | hu
            · exact q7 u (List.mem_of_mem_take hu)
            · exact hsrc.one u hu
            · exact q7 u (List.mem_of_mem_drop hu)
          · rw [hfl, hll, Nat.add_mul] at ho
            rw [Ghost.add_other (.inr (.inr (by omega)))]
            exact q6 o (by rw [q3]; omega)
        · exact (hs.obj c x (hsub.subset hc')).keep hle (hoth c (hne c x hc')) (fun o h => by rw [Ghost.add_other (.inl (hne c x hc'))]; exact h)
      · have hn := (hs.perm (perm_eraseIdx L k _ hk)).nodup
        rw [List.map_cons] at hn
        exact hn
    have hstep : Step H L w (H.add b (olds.length * i.size) news) ((b, .buf et i.size cap (olds ++ es)) :: L.eraseIdx k) w' := by
      refine ⟨hle, by rw [← hw']; rfl, by rw [← hw']; rfl, by rw [← hw']; rfl, by omega, fun c hc' hd' => hoth c (fun e => hd' (by rw [e]; exact mem_dom hmem)), fun c hc' => .inl ?_, fun c o hc' hd' h => ?_⟩
      · simp only [dom, List.map_cons, List.mem_cons] at hc'
        rcases hc' with rfl | hc'
        · exact mem_dom hmem
        · exact (hsub.map Prod.fst).subset hc'
      · rw [Ghost.add_other (.inl (fun e => hd' (by rw [e]; exact mem_dom hmem)))]; exact h
    have henc : Enc (H.add b (olds.length * i.size) news) (.own b cap (olds ++ es)) (.slice (some ⟨b, 0, none⟩) (olds.length + es.length) cap) := by
      have hr : RowAt (H.add b (olds.length * i.size) news) b 0 (flat (olds ++ es)) := by
        rw [flat_append]
        refine (hrow.mono hle).append ?_
        rw [Nat.zero_add, q3]
        exact EncCs.rowAdd' hc hle
      have := Enc.own_mk (cap := cap) (by rw [hll]; exact hroom) hr
      rwa [hll] at this
    unfold Oper.wp
    rw [append_op hv rfl, hrun]
    exact hnx _ _ _ _ _ hsim hstep henc (h _ _)
  · -- a new row
    have hsmall : olds.length + es.length ≤ 9223372036854775807 := by simp only [maxLen] at hlen; omega
    have hfc : (Builtin.firstCells ti.size olds.length (.slice (some ⟨b, 0, none⟩) olds.length cap)).run X.P w.drew = .ok ((List.range (flat olds).length).map f).toArray w.drew := by
      refine run_firstCells_some (P := X.P) w.drew ti.size olds.length ⟨b, 0, none⟩ olds.length cap _ (by simp [q3, g2]) (fun j u e => ?_)
      obtain ⟨hj, rfl⟩ := hgetf j u e
      rw [Addr.add_lit, Nat.zero_add]
      exact hs.ok _ _ _ (hf j hj).1
    have hrun := run_append_grow_src (P := X.P) w t tx ty et ti z (X.elem_ok ht) g1 g4 (some ⟨b, 0, none⟩) olds.length cap _ hfc (a.eval x) es.length news hsrc (by omega) (by omega) (by rw [g3]; exact growslice_fits (by omega) hby)
    have hcs : EncCs H (flat (olds ++ es)) ((List.range (flat olds).length).map f ++ news).toArray := by
      rw [flat_append]
      have := encCs_append holdC hc
      rwa [List.append_toArray] at this
    have hcapge := grownCap_ge w (olds.length + es.length) cap et
    obtain ⟨s', t', e'⟩ := hs.newBuf (t := et) (sz := i.size) (cap := grownCap w (olds.length + es.length) cap et) (es := olds ++ es) (NewW.drewAlloc w _) hcs (rest := Builtin.zeroCells z.cells (grownCap w (olds.length + es.length) cap et - (olds.length + es.length)))
      (by rw [size_zeroCells, g5, Nat.sub_mul, hll]) hfl (by rw [hll]; exact hcapge) (grownCap_le_maxLen _ _ _ _ hlen) (zeroCells_one ht hT g1 g4 g5 _)
    unfold Oper.wp
    rw [append_op hv rfl, hrun]
    rw [hll] at e'
    exact hnx _ _ _ _ _ (s'.drop (List.Sublist.cons_cons _ hsub)) (t'.drop (List.Sublist.cons_cons _ hsub)) e' (h _ _)
end
end Sp

/- Calls; slices cut; the rest of the operations. -/
set_option linter.unusedVariables false
namespace Sp
open Go
inductive LeL : List D → List D → Prop
  | nil : LeL [] []
  | cons {c d : D} {cs ds : List D} (h : D.Le c d) (k : LeL cs ds) : LeL (c :: cs) (d :: ds)
theorem LeL.refl : ∀ (cs : List D), LeL cs cs
  | [] => .nil
  | c :: cs => .cons (.refl c) (LeL.refl cs)
theorem LeL.length {cs ds : List D} (hl : LeL cs ds) : cs.length = ds.length := by
  induction hl with
  | nil => rfl
  | cons _ _ ih => simp [ih]
theorem LeL.get {cs ds : List D} (hl : LeL cs ds) : ∀ (i : Nat) c d, cs[i]? = some c → ds[i]? = some d → D.Le c d := by
  induction hl with
  | nil => intro i c d h; simp at h
  | cons h _ ih =>
    intro i c d a b
    cases i with
    | zero => simp at a b; subst a; subst b; exact h
    | succ i => simp at a b; exact ih i c d a b
theorem EncL.leL {H : Ghost} {cs ds : List D} {vs : Array Value} (h : EncL H cs vs) (hl : LeL cs ds) : EncL H ds vs := h.le hl.length hl.get
section
variable {X : PT} {ρ : Operand → D} {L : Loc} {dst : Option Tmp} {ty : TypeId} {pos : String} {after : Array Edge} {guard : Option (Nat × Bool)} {K Kp : D → Loc → Prop}
theorem run_callFunc {P : Program} {f : FuncId} (h : Enters P f) (args : Array Value) (w : World) : (callFunc f args).run P w = .ok (.enter f args) w := by
  obtain ⟨fn, h1, h2, h3⟩ := h
  simp only [callFunc, Sem.run_bind, run_program, Result.andThen_ok, h1, h2, h3]
  rfl
theorem op_enters {o : Oper} {f : FuncId} {vs : Array Value} {a : Act} {L0 L1 : Loc} {as : List D} {R : AEnd → Loc → Prop} {H : Ghost} {w : World} (hc : ACalls X f as L0 R) (hp : L.Perm (L0 ++ L1))
    (hs : Sim H L w) (ha : EncL H as vs) (hrun : (execOp a.eval o).run X.P w = .ok (.enter f vs) w) {next : Act → World → Prop} {Qc : Exit → Act → World → Prop}
    (hr : ∀ d L', R (.ret d) L' → K d (L' ++ L1)) (hq : ∀ d L', R (.pan d) L' → Kp d (L' ++ L1))
    (hn : ∀ v H' L' w' d, Sim H' L' w' → Step H L w H' L' w' → Enc H' d v → K d L' → next (a.put o.dst v) w')
    (hm : ∀ v H' L' w' d, Sim H' L' w' → Step H L w H' L' w' → Enc H' d v → Kp d L' → Qc (.panic [{ v, recovered := false }]) a w') : o.wp X.P a w next Qc := by
  unfold Oper.wp
  rw [hrun]
  have hfr := (hc.frame L1).2 H w vs (hs.perm hp) ha
  refine hfr.mono ?_
  rintro e w' ⟨H', L', s, t, he⟩
  have t' : Step H L w H' L' w' := t.perm hp.symm (List.Perm.refl _)
  cases e with
  | returned v =>
    obtain ⟨d, h1, L0', rfl, h2⟩ := he
    exact hn v H' _ w' d s t' h1 (hr d L0' h2)
  | panicked ch =>
    obtain ⟨d, v, rfl, h1, L0', rfl, h2⟩ := he
    exact hm v H' _ w' d s t' h1 (hq d L0' h2)
  | outgrown => exact he.elim
theorem enc_args {H : Ghost} {a : Act} {xs : Array Operand} (h : ∀ x ∈ xs, Enc H (ρ x) (a.eval x)) : EncL H (xs.toList.map ρ) (xs.map a.eval) := by
  refine ⟨by simp, fun i d v e k => ?_⟩
  rw [List.getElem?_map, Array.getElem?_toList] at e
  rw [Array.getElem?_map] at k
  cases hx : xs[i]? with
  | none => rw [hx] at e; cases e
  | some x =>
    rw [hx] at e k; cases e; cases k
    exact h x (Array.mem_of_getElem? hx)
theorem AOp.call {f : FuncId} {xs : Array Operand} {tys : Array TypeId} {as : List D} {L0 L1 : Loc} {R : AEnd → Loc → Prop} (hc : ACalls X f as L0 R) (ha : LeL (xs.toList.map ρ) as) (hp : L.Perm (L0 ++ L1))
    (hr : ∀ d L', R (.ret d) L' → K d (L' ++ L1)) (hq : ∀ d L', R (.pan d) L' → Kp d (L' ++ L1)) : AOp X ⟨dst, .call ⟨.value (.func f), xs, tys⟩, ty, pos, after, guard⟩ ρ L K Kp := by
  intro H w a hs he next Qc hn hm
  have henc := (enc_args (ρ := ρ) (H := H) (a := a) (xs := xs) (fun x hx => he x (by simp [Op.operands, Call.operands, hx]))).leL ha
  refine op_enters (vs := xs.map a.eval) hc hp hs henc ?_ hr hq hn hm
  simp only [execOp, resolve, Act.eval, Deferred.ofValue, invoke, Sem.run_bind, Sem.run_pure, Result.andThen_ok, Array.empty_append, Array.append_empty]
  exact run_callFunc hc.1 _ w
theorem AOp.callV {g : Operand} {f : FuncId} {first cap : List D} {xs : Array Operand} {tys : Array TypeId} {as : List D} {L0 L1 : Loc} {R : AEnd → Loc → Prop} (hg : ρ g = .func (.func f) first cap) (hc : ACalls X f as L0 R)
    (ha : LeL (first ++ xs.toList.map ρ ++ cap) as) (hp : L.Perm (L0 ++ L1))
    (hr : ∀ d L', R (.ret d) L' → K d (L' ++ L1)) (hq : ∀ d L', R (.pan d) L' → Kp d (L' ++ L1)) : AOp X ⟨dst, .call ⟨.value g, xs, tys⟩, ty, pos, after, guard⟩ ρ L K Kp := by
  intro H w a hs he next Qc hn hm
  have h1 := he g (by simp [Op.operands, Call.operands])
  rw [hg] at h1
  obtain ⟨vs, ws, hv, h2, h3⟩ := h1.func_inv
  have h4 := enc_args (ρ := ρ) (H := H) (a := a) (xs := xs) (fun x hx => he x (by simp [Op.operands, Call.operands, hx]))
  have happ : ∀ {cs ds : List D} {us vs : Array Value}, EncL H cs us → EncL H ds vs → EncL H (cs ++ ds) (us ++ vs) := by
    intro cs ds us vs h k
    refine ⟨by simp [h.1, k.1], fun i d v e q => ?_⟩
    by_cases hi : i < cs.length
    · rw [List.getElem?_append_left hi] at e
      rw [Array.getElem?_append_left (by rw [h.1]; exact hi)] at q
      exact h.2 i d v e q
    · rw [List.getElem?_append_right (by omega)] at e
      rw [Array.getElem?_append_right (by rw [h.1]; omega), h.1] at q
      exact k.2 _ d v e q
  have henc := (happ (happ h2 h4) h3).leL ha
  refine op_enters (vs := vs ++ xs.map a.eval ++ ws) hc hp hs henc ?_ hr hq hn hm
  simp only [execOp, resolve, hv, Deferred.ofValue, invoke, Sem.run_bind, Sem.run_pure, Result.andThen_ok]
  exact run_callFunc hc.1 _ w
def AFn (X : PT) (f : FuncId) (as : List D) (d : D) : Prop := ACalls X f as [] (fun r _ => r = .ret d)
theorem AFn.op {o : Oper} {f : FuncId} {as : List D} {d : D} (hc : AFn X f as d) (h : K d L)
    (hop : ∀ {K Kp : D → Loc → Prop}, (∀ d' L', d' = d → K d' (L' ++ L)) → AOp X o ρ L K Kp) : AOp X o ρ L K Kp := by
  intro H w a hs he next Qc hn hm
  refine hop (K := fun d' L' => d' = d ∧ L.Sublist L') (Kp := Kp) (fun d' L' e => ⟨e, List.sublist_append_right _ _⟩) H w a hs he next Qc ?_ hm
  rintro v H' L' w' d' s t e ⟨rfl, hsub⟩
  exact hn v H' L w' d' (s.drop hsub) (t.drop hsub) e h
theorem Yk {f : FuncId} {xs : Array Operand} {tys : Array TypeId} {as : List D} {d : D} (hc : AFn X f as d) (ha : LeL (xs.toList.map ρ) as) (h : K d L) : AOp X ⟨dst, .call ⟨.value (.func f), xs, tys⟩, ty, pos, after, guard⟩ ρ L K Kp :=
  AFn.op hc h (fun hk => AOp.call (L0 := []) (L1 := L) hc ha (List.Perm.refl _) (fun d' L' e => hk d' L' (by cases e; rfl)) (fun d' L' e => by cases e))
theorem AOp.callVP {g : Operand} {f : FuncId} {first cap : List D} {xs : Array Operand} {tys : Array TypeId} {as : List D} {d : D} (hg : ρ g = .func (.func f) first cap) (hc : AFn X f as d) (ha : LeL (first ++ xs.toList.map ρ ++ cap) as) (h : K d L) :
    AOp X ⟨dst, .call ⟨.value g, xs, tys⟩, ty, pos, after, guard⟩ ρ L K Kp :=
  AFn.op hc h (fun hk => AOp.callV (L0 := []) (L1 := L) hg hc ha (List.Perm.refl _) (fun d' L' e => hk d' L' (by cases e; rfl)) (fun d' L' e => by cases e))
theorem AOp.panic {x : Operand} {t : TypeId} {d : D} (hx : ρ x = .iface t d) (h : Kp (.iface t d) L) : AOp X ⟨dst, .panic x, ty, pos, after, guard⟩ ρ L K Kp := by
  intro H w a hs he next Qc hn hm
  have h1 := he x (by simp [Op.operands])
  rw [hx] at h1
  obtain ⟨u, hv, _⟩ := h1.iface_inv
  unfold Oper.wp
  simp only [execOp, hv, Instr.panic, Sem.run_bind, run_goPanic, Result.andThen_halt]
  rw [hv] at h1
  exact hm _ H L w _ hs (Step.refl _ _ _) h1 h
theorem AVal.max {x y : Operand} {tys : Array TypeId} {k : IntKind} {a b : Int} (hx : ρ x = .int k a) (hy : ρ y = .int k b) : AVal X ⟨dst, .call ⟨.builtin .max, #[x, y], tys⟩, ty, pos, after, guard⟩ ρ L (.int k (Max.max a b)) := by
  intro H w e hs he
  have h1 := he x (by simp [Op.operands, Call.operands])
  have h2 := he y (by simp [Op.operands, Call.operands])
  rw [hx] at h1; rw [hy] at h2
  refine ⟨.int k (if b > a then b else a), ?_, ?_⟩
  · simp only [execOp, resolve, invoke, builtin, Sem.run_bind, Sem.run_pure, Result.andThen_ok, List.map_toArray, List.map_cons, List.map_nil, h1.int_inv, h2.int_inv]
    simp [Builtin.max_, Builtin.max2]
  · rw [show (if b > a then b else a) = Max.max a b by rw [Int.max_def]; split <;> split <;> omega]
    exact .int _ _
theorem AVal.min {x y : Operand} {tys : Array TypeId} {k : IntKind} {a b : Int} (hx : ρ x = .int k a) (hy : ρ y = .int k b) : AVal X ⟨dst, .call ⟨.builtin .min, #[x, y], tys⟩, ty, pos, after, guard⟩ ρ L (.int k (Min.min a b)) := by
  intro H w e hs he
  have h1 := he x (by simp [Op.operands, Call.operands])
  have h2 := he y (by simp [Op.operands, Call.operands])
  rw [hx] at h1; rw [hy] at h2
  refine ⟨.int k (if b < a then b else a), ?_, ?_⟩
  · simp only [execOp, resolve, invoke, builtin, Sem.run_bind, Sem.run_pure, Result.andThen_ok, List.map_toArray, List.map_cons, List.map_nil, h1.int_inv, h2.int_inv]
    simp [Builtin.min_, Builtin.min2]
  · rw [show (if b < a then b else a) = Min.min a b by rw [Int.min_def]; split <;> split <;> omega]
    exact .int _ _
def D.cut (lo hi : Nat) : D → Option D
  | .slc es => some (.slc ((es.take hi).drop lo))
  | .slP es => some (.slP ((es.take hi).drop lo))
  | .slL es => some (.slL ((es.take hi).drop lo))
  | .slT es => some (.slT ((es.take hi).drop lo))
  | .slC es => some (.slC ((es.take hi).drop lo))
  | _ => none
theorem D.cut_elems {lo hi : Nat} {d d' : D} {es : List D} (h : d.cut lo hi = some d') (he : d.elems = some es) : d'.elems = some ((es.take hi).drop lo) := by
  cases d <;> simp only [D.cut, Option.some.injEq] at h <;> first | (cases h; done) | (subst h; simp only [D.elems, Option.some.injEq] at he ⊢; subst he; simp [List.map_take, List.map_drop])
theorem flat_drop {es : List D} {sz : Nat} (hz : ∀ e ∈ es, e.cells.length = sz) (n : Nat) : flat (es.drop n) = (flat es).drop (n * sz) := by
  induction n generalizing es with
  | zero => simp
  | succ n ih =>
    cases es with
    | nil => simp [flat]
    | cons e r =>
      rw [List.drop_succ_cons, ih (fun e he => hz e (by simp [he]))]
      show _ = (e.cells ++ flat r).drop _
      have := hz e (by simp)
      have hle : e.cells.length ≤ (n + 1) * sz := by rw [Nat.add_mul]; omega
      rw [List.drop_append, List.drop_eq_nil_of_le hle, List.nil_append, this, show (n + 1) * sz - sz = n * sz by rw [Nat.add_mul]; omega]
theorem flat_take {es : List D} {sz : Nat} (hz : ∀ e ∈ es, e.cells.length = sz) (n : Nat) : flat (es.take n) = (flat es).take (n * sz) := by
  induction n generalizing es with
  | zero => simp [flat]
  | succ n ih =>
    cases es with
    | nil => simp [flat]
    | cons e r =>
      rw [List.take_succ_cons]
      show e.cells ++ flat (r.take n) = (e.cells ++ flat r).take _
      have := hz e (by simp)
      have hle : e.cells.length ≤ (n + 1) * sz := by rw [Nat.add_mul]; omega
      rw [ih (fun e he => hz e (by simp [he])), List.take_append, List.take_of_length_le hle, this, show (n + 1) * sz - sz = n * sz by rw [Nat.add_mul]; omega]
theorem Enc.cut {H : Ghost} {d d' : D} {es : List D} {lo hi sz : Nat} {a : Option Addr} {cap : Nat} (he : d.elems = some es) (hcut : d.cut lo hi = some d') (h : Enc H d (.slice a es.length cap)) (h1 : lo ≤ hi) (h2 : hi ≤ es.length)
    (hz : ∀ e ∈ es, e.cells.length = sz) : Enc H d' (sliced a lo hi cap sz) := by
  have he' := D.cut_elems hcut he
  obtain ⟨a', cap', e, hc, hr⟩ := h.data_inv he
  cases e
  have hl : ((es.take hi).drop lo).length = hi - lo := by simp; omega
  by_cases hnil : hi = lo
  · subst hnil
    have : (es.take hi).drop hi = [] := List.eq_nil_of_length_eq_zero (by omega)
    rw [this] at he'
    unfold sliced
    rw [Nat.sub_self]
    exact Enc.data_nil he' _ _
  · rcases hr with rfl | ⟨b, o, rfl, hr⟩
    · simp at h2; omega
    · have hrow : RowAt H b (o + lo * sz) (flat ((es.take hi).drop lo)) := by
        rw [flat_drop (fun e he => hz e (List.mem_of_mem_take he)), flat_take hz]
        exact (hr.take _).drop _
      unfold sliced
      rw [if_neg (by omega), Option.map_some, Addr.add_lit, ← hl]
      exact Enc.data_mk he' (by omega) hrow
theorem elem_kit {t e : Nat} (ht : X.elem t = some e) : X.P.underlying t = some (.slice (X.P.elem t)) ∧ X.P.elem t = e := by
  have := X.elem_ok ht
  have h : X.P.elem t = e := by simp [Program.elem, this]
  rw [h]
  exact ⟨this, rfl⟩
theorem AVal.sliceL {x y : Operand} {t et : TypeId} {i : TI} {d d' : D} {es : List D} {lo : Int} (hx : ρ x = d) (he : d.elems = some es) (ht : X.elem t = some et) (hT : X.ty et = some i) (hy : ρ y = .int .i64 lo) (h0 : 0 ≤ lo) (h1 : lo ≤ es.length)
    (hcut : d.cut lo.toNat es.length = some d') (hz : ∀ e ∈ es, e.cells.length = i.size) : AVal X ⟨dst, .slice t x (some y) none none, ty, pos, after, guard⟩ ρ L d' := by
  intro H w e hs hen
  have q1 := hen x (by simp [Op.operands])
  have q2 := hen y (by simp [Op.operands])
  rw [hx] at q1; rw [hy] at q2
  obtain ⟨a, cap, hv, hc, _⟩ := q1.data_inv he
  rw [hv] at q1
  obtain ⟨hu, hel⟩ := elem_kit ht
  refine ⟨_, ?_, Enc.cut he hcut q1 (by omega) (Nat.le_refl _) hz⟩
  simp only [execOp, hv, q2.int_inv, Option.map_some, Option.map_none, Sem.run_bind, run_sliceAt_slice _ _ _ _ _ _ hu, run_slice_l w t a es.length cap hu .i64 lo h0 h1, hel, (X.ty_ok hT).sizeOf w, Result.andThen_ok, Sem.run_pure]
theorem AVal.sliceH {x y : Operand} {t et : TypeId} {i : TI} {d d' : D} {es : List D} {hi : Int} (hx : ρ x = d) (he : d.elems = some es) (ht : X.elem t = some et) (hT : X.ty et = some i) (hy : ρ y = .int .i64 hi) (h0 : 0 ≤ hi) (h1 : hi ≤ es.length)
    (hcut : d.cut 0 hi.toNat = some d') (hz : ∀ e ∈ es, e.cells.length = i.size) : AVal X ⟨dst, .slice t x none (some y) none, ty, pos, after, guard⟩ ρ L d' := by
  intro H w e hs hen
  have q1 := hen x (by simp [Op.operands])
  have q2 := hen y (by simp [Op.operands])
  rw [hx] at q1; rw [hy] at q2
  obtain ⟨a, cap, hv, hc, _⟩ := q1.data_inv he
  rw [hv] at q1
  obtain ⟨hu, hel⟩ := elem_kit ht
  refine ⟨_, ?_, Enc.cut he hcut q1 (by omega) (by omega) hz⟩
  simp only [execOp, hv, q2.int_inv, Option.map_some, Option.map_none, Sem.run_bind, run_sliceAt_slice _ _ _ _ _ _ hu, run_slice_h w t a es.length cap hu .i64 hi h0 (by omega), hel, (X.ty_ok hT).sizeOf w, Result.andThen_ok, Sem.run_pure]
theorem AVal.sliceLH {x y z : Operand} {t et : TypeId} {i : TI} {d d' : D} {es : List D} {lo hi : Int} (hx : ρ x = d) (he : d.elems = some es) (ht : X.elem t = some et) (hT : X.ty et = some i) (hy : ρ y = .int .i64 lo) (hz' : ρ z = .int .i64 hi)
    (h0 : 0 ≤ lo) (h1 : lo ≤ hi) (h2 : hi ≤ es.length)
    (hcut : d.cut lo.toNat hi.toNat = some d') (hz : ∀ e ∈ es, e.cells.length = i.size) : AVal X ⟨dst, .slice t x (some y) (some z) none, ty, pos, after, guard⟩ ρ L d' := by
  intro H w e hs hen
  have q1 := hen x (by simp [Op.operands])
  have q2 := hen y (by simp [Op.operands])
  have q3 := hen z (by simp [Op.operands])
  rw [hx] at q1; rw [hy] at q2; rw [hz'] at q3
  obtain ⟨a, cap, hv, hc, _⟩ := q1.data_inv he
  rw [hv] at q1
  obtain ⟨hu, hel⟩ := elem_kit ht
  refine ⟨_, ?_, Enc.cut he hcut q1 (by omega) (by omega) hz⟩
  simp only [execOp, hv, q2.int_inv, q3.int_inv, Option.map_some, Option.map_none, Sem.run_bind, run_sliceAt_slice _ _ _ _ _ _ hu, run_slice_lh w t a es.length cap hu .i64 .i64 lo hi h0 h1 (by omega), hel, (X.ty_ok hT).sizeOf w, Result.andThen_ok, Sem.run_pure]
end
end Sp
