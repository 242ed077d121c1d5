/- Walks of the program's functions and what they compute: contracts of calls; no condition beyond those that each theorem names. -/
import Derived.Test.YtbnknhpebkcpmaaGreatDoorBa
import Derived.Test.YtbnknhpebkcpmaaGreatDoorRows
import Derived.Lib.LaidTab
/- What the arguments are, as data: read off the form's own reading. Written by a program of mine. -/
set_option linter.unusedVariables false
set_option maxRecDepth 100000
namespace Sp
open Go Go.Proofs Go.Proofs.YtbnknhpebkcpmaaGreatDoor.Rows
def HW (W : World) : Ghost := fun b o => W.cell? ⟨b, o, none⟩
theorem mapM_len {α β : Type} {f : α → Option β} : ∀ {l : List α} {r : List β}, l.mapM f = some r → r.length = l.length
  | [], r, h => by simp at h; subst h; rfl
  | x :: l, r, h => by
    simp only [List.mapM_cons, Option.bind_eq_bind, Option.bind_eq_some_iff, Option.pure_def, Option.some.injEq] at h
    obtain ⟨b, _, r', hr', rfl⟩ := h
    simp [mapM_len hr']
theorem list5 {α : Type} : ∀ {l : List α}, l.length = 5 → ∃ a b c d e, l = [a, b, c, d, e]
  | [a, b, c, d, e], _ => ⟨a, b, c, d, e, rfl⟩
theorem list12 {α : Type} : ∀ {l : List α}, l.length = 12 → ∃ a b c d e f g h i j k m, l = [a, b, c, d, e, f, g, h, i, j, k, m]
  | [a, b, c, d, e, f, g, h, i, j, k, m], _ => ⟨a, b, c, d, e, f, g, h, i, j, k, m, rfl⟩
theorem list4 {α : Type} : ∀ {l : List α}, l.length = 4 → ∃ a b c d, l = [a, b, c, d]
  | [a, b, c, d], _ => ⟨a, b, c, d, rfl⟩
theorem list2 {α : Type} : ∀ {l : List α}, l.length = 2 → ∃ a b, l = [a, b]
  | [a, b], _ => ⟨a, b, rfl⟩
theorem list1 {α : Type} : ∀ {l : List α}, l.length = 1 → ∃ a, l = [a]
  | [a], _ => ⟨a, rfl⟩
theorem exList {α : Type} {R : Nat → α → Prop} : ∀ (n : Nat), (∀ i, i < n → ∃ x, R i x) → ∃ xs : List α, xs.length = n ∧ ∀ (i : Nat) x, xs[i]? = some x → R i x
  | 0, _ => ⟨[], rfl, fun i x h => by simp at h⟩
  | n + 1, h => by
    obtain ⟨xs, hl, hx⟩ := exList n (fun i hi => h i (by omega))
    obtain ⟨x, hn⟩ := h n (by omega)
    refine ⟨xs ++ [x], by simp [hl], fun i y hy => ?_⟩
    rw [List.getElem?_append] at hy
    split at hy
    · exact hx i y hy
    · have : i = n := by
        have := (List.getElem?_eq_some_iff.1 hy).1
        simp at this; omega
      subst this
      simp [hl] at hy
      subst hy; exact hn
theorem encCs_cons {H : Ghost} {d : D} {ds : List D} {v : Value} {vs : List Value} (h : EncC H d v) (k : EncCs H ds vs.toArray) : EncCs H (d :: ds) (v :: vs).toArray := by
  refine ⟨by have := k.1; simp at this ⊢; exact this, fun i d' v' e q => ?_⟩
  cases i with
  | zero => simp at e q; subst e; subst q; exact h
  | succ i => simp at e q; exact k.2 i d' v' e (by simpa using q)
theorem encCs_nil {H : Ghost} : EncCs H [] ([] : List Value).toArray := ⟨rfl, fun i d v e => by simp at e⟩
section
variable {HH : Type} {enc : TypeId × Value → HH} {W : World}
theorem one_le (d : DataW HH) : 1 ≤ uptoBulk d := by
  cases d with
  | lit l => cases l <;> simp [uptoBulk]
  | nil => simp [uptoBulk]
  | ptr d => simp [uptoBulk]
  | slice elems spare => simp [uptoBulk]
  | agg parts => simp [uptoBulk]
  | iface t d => simp [uptoBulk]
  | map entries => simp [uptoBulk]
  | held h => simp [uptoBulk]
theorem part_le {d : DataW HH} {l : List (DataW HH)} (h : d ∈ l) : uptoBulk d ≤ uptoBulkAll l := by
  induction l with
  | nil => cases h
  | cons x r ih =>
    simp only [uptoBulkAll]
    cases List.mem_cons.1 h with
    | inl e => subst e; omega
    | inr e => have := ih e; omega
theorem length_le (l : List (DataW HH)) : l.length ≤ uptoBulkAll l := by
  induction l with
  | nil => simp [uptoBulkAll]
  | cons x r ih => have := one_le x; simp only [uptoBulkAll, List.length_cons]; omega
theorem trodI {P : Program} {t : TypeId} (ht : P.underlying t = some (.int .i64)) {fuel : Nat} {cs : List Value} {r : DataW HH × List MemPlace} (h : DataW.trod enc P W 0 (fun _ => true) true fuel t cs = some r) :
    ∃ z : Int, cs = [.int .i64 z] ∧ (-9223372036854775808 ≤ z ∧ z ≤ 9223372036854775807) ∧ r = (.lit (.int .i64 z), []) := by
  obtain ⟨n, rfl, rfl, hw⟩ := DataW.trod_int ht h
  refine ⟨n, rfl, ?_, rfl⟩
  simp only [Lit.wf, IntKind.min, IntKind.max, IntKind.bits, IntKind.signed, Bool.and_eq_true, decide_eq_true_eq] at hw
  simp at hw
  exact hw
theorem add_cell {a : Addr} {i : Nat} {v : Value} (h : W.cell? (a.add i) = some v) : W.cell? ⟨a.block, a.off + i, none⟩ = some v ∧ (i = 0 → a.spot = Option.none) := by
  obtain ⟨b, off, s⟩ := a
  cases s with
  | none =>
    refine ⟨?_, fun _ => rfl⟩
    unfold Addr.add at h
    split at h
    · rename_i hi; subst hi; simpa using h
    · exact h
  | some k =>
    unfold Addr.add at h
    split at h
    · exfalso
      simp only [World.cell?] at h
      split at h <;> simp at h
    · rename_i hi
      exact ⟨h, fun e => absurd e hi⟩
theorem cells_at {a : Addr} {n base : Nat} {l : List Value} (h : W.cells? base a n = some l) (hn : 0 < n) : a.spot = Option.none ∧ l.length = n ∧ ∀ (i : Nat) v, l[i]? = some v → W.cell? ⟨a.block, a.off + i, Option.none⟩ = some v := by
  unfold World.cells? at h
  split at h
  · have hl := mapM_len h
    simp at hl
    have hs : a.spot = Option.none := by
      obtain ⟨v, _, h0⟩ := Lib.mapM_at h 0 0 (by rw [List.getElem?_range hn])
      exact (add_cell h0).2 rfl
    refine ⟨hs, hl, fun i v hv => ?_⟩
    have hi : i < n := by have := (List.getElem?_eq_some_iff.1 hv).1; omega
    obtain ⟨v', h1, h2⟩ := Lib.mapM_at h i i (by rw [List.getElem?_range hi])
    rw [hv] at h1; cases h1
    exact (add_cell h2).1
  · cases h
theorem add_parts (a : Addr) (k : Nat) : (a.add k).block = a.block ∧ (a.add k).off = a.off + k ∧ (k = 0 → a.add k = a) := by
  unfold Addr.add
  split
  · rename_i h; subst h; exact ⟨rfl, rfl, fun _ => rfl⟩
  · rename_i h; exact ⟨rfl, rfl, fun e => absurd e h⟩
theorem rowAt_flat {α : Type} {b sz : Nat} {encX : α → D} {cellsX : α → List D} (hc : ∀ x, (encX x).cells = cellsX x) (hs : ∀ x, (cellsX x).length = sz) {H : Ghost} : ∀ (xs : List α) (off : Nat), (∀ (i : Nat) x, xs[i]? = some x → RowAt H b (off + i * sz) (cellsX x)) → RowAt H b off (flat (xs.map encX))
  | [], off, _ => fun i d e => by simp [flat] at e
  | x :: xs, off, h => by
    have h0 := h 0 x rfl
    have hr := rowAt_flat hc hs xs (off + sz) (fun i y hy => by have := h (i + 1) y (by simpa using hy); rw [Nat.add_mul, Nat.one_mul] at this; rw [show off + sz + i * sz = off + (i * sz + sz) by omega]; exact this)
    have e : flat ((x :: xs).map encX) = cellsX x ++ flat (xs.map encX) := by simp [flat, hc]
    rw [e]
    refine RowAt.append (by simpa using h0) ?_
    rw [hs]; exact hr
theorem trodSl {P : Program} {α : Type} {t e sz : Nat} (ht : P.underlying t = some (.slice e)) (hce : P.cellsOf e = sz) (h0 : 0 < sz) (encX : α → D) (cellsX : α → List D) (hc : ∀ x, (encX x).cells = cellsX x) (hs : ∀ x, (cellsX x).length = sz)
    (mk : List α → D) (hmk : ∀ xs, (mk xs).elems = some (xs.map encX)) (Q : α → DataW HH → Prop) (fuel : Nat)
    (ih : ∀ (cs : List Value) (d : DataW HH) (ps : List MemPlace), DataW.trod enc P W 0 (fun _ => true) true fuel e cs = some (d, ps) → ∃ x, EncCs (HW W) (cellsX x) cs.toArray ∧ Q x d) :
    ∀ (cs : List Value) (d : DataW HH) (ps : List MemPlace), DataW.trod enc P W 0 (fun _ => true) true (fuel + 1) t cs = some (d, ps) →
      ∃ v xs, cs = [v] ∧ Enc (HW W) (mk xs) v ∧ ((xs = [] ∧ d = .nil) ∨ ∃ es sp, d = .slice es sp ∧ xs.length = es.length ∧ ∀ (i : Nat) x q, xs[i]? = some x → es[i]? = some q → Q x q) := by
  intro cs d ps h
  rcases DataW.trod_slice ht h with ⟨rfl, hx⟩ | ⟨a, len, cap, elems, rst, n, hn, rfl, hx, hb, hl, hm, hlen, hel, hsp, hns⟩
  · cases hx
    exact ⟨_, [], rfl, Enc.data_nil (hmk []) Option.none 0, .inl ⟨rfl, rfl⟩⟩
  · cases hx
    obtain rfl : n = fuel := by omega
    obtain ⟨b, off, s⟩ := a
    rw [hce] at hel
    have each : ∀ i, i < len → ∃ x, ((i = 0 → s = Option.none) ∧ RowAt (HW W) b (off + i * sz) (cellsX x)) ∧ ∀ q, (elems.map (·.1))[i]? = some q → Q x q := fun i hi => by
      have hf := hel i hi
      rw [List.getElem?_eq_getElem (by omega : i < elems.length)] at hf
      obtain ⟨l, hl, htr⟩ := Option.bind_eq_some_iff.1 hf
      obtain ⟨x, hx, hq⟩ := ih l _ _ htr
      obtain ⟨hsn, hll, hcell⟩ := cells_at hl h0
      obtain ⟨a1, a2, a3⟩ := add_parts ⟨b, off, s⟩ (i * sz)
      rw [a1, a2] at hcell
      refine ⟨x, ⟨fun e => by subst e; rw [a3 (Nat.zero_mul _)] at hsn; exact hsn, fun j dd hj => ?_⟩, fun q hq' => ?_⟩
      · have hjl : j < l.length := by have := (List.getElem?_eq_some_iff.1 hj).1; rw [hs] at this; omega
        exact ⟨l[j], hcell j _ (List.getElem?_eq_getElem hjl), hx.2 j dd _ hj (by simp [List.getElem?_eq_getElem hjl])⟩
      · rw [List.getElem?_map, List.getElem?_eq_getElem (by omega : i < elems.length)] at hq'
        cases hq'; exact hq
    obtain ⟨xs, hxl, hxs⟩ := exList len each
    refine ⟨_, xs, rfl, ?_, .inr ⟨_, _, rfl, by simp [hxl, hlen], fun i x q hx hq => (hxs i x hx).2 q hq⟩⟩
    cases xs with
    | nil =>
      simp at hxl
      subst hxl
      exact Enc.data_nil (hmk []) _ _
    | cons x0 xr =>
      have hsn : s = Option.none := (hxs 0 x0 rfl).1.1 rfl
      subst hsn
      have hr := rowAt_flat hc hs (x0 :: xr) off (fun i x hx => (hxs i x hx).1.2)
      have := Enc.data_mk (hmk (x0 :: xr)) (b := b) (o := off) (cap := cap) (by rw [List.length_map, hxl]; exact hl) hr
      rw [List.length_map, hxl] at this
      exact this
def QT (t : Term) (d : DataW HH) : Prop := t.sz ≤ uptoBulk d ∧ ∀ B, uptoBulk d ≤ B → t.fit B
theorem trodP (fuel : Nat) (cs : List Value) (d : DataW HH) (ps : List MemPlace) (h : DataW.trod enc Tryz.prog W 0 (fun _ => true) true fuel 114 cs = some (d, ps)) :
    ∃ p : Part, EncCs (HW W) (cellsP p) cs.toArray ∧ True := by
  obtain ⟨xs, fuel', rfl, hx, hlen, hxl, hfs⟩ := DataW.trod_struct Tryz.underlying114 h
  cases hx
  obtain ⟨v1, v2, rfl⟩ := list2 (hlen.trans (by kernel_rfl))
  obtain ⟨x1, x2, rfl⟩ := list2 (hxl.trans (by rfl))
  have ci : Tryz.prog.cellsOf 3 = 1 := by kernel_rfl
  have h1 := hfs 0 _ rfl
  have h2 := hfs 1 _ rfl
  change DataW.trod enc Tryz.prog W 0 (fun _ => true) true fuel' 3 (List.take (Tryz.prog.cellsOf 3) (List.drop 0 _)) = some _ at h1
  change DataW.trod enc Tryz.prog W 0 (fun _ => true) true fuel' 3 (List.take (Tryz.prog.cellsOf 3) (List.drop 1 _)) = some _ at h2
  rw [ci] at h1
  rw [ci] at h2
  obtain ⟨z, e1, _, _⟩ := trodI Tryz.underlying3 h1
  obtain ⟨y, e2, _, _⟩ := trodI Tryz.underlying3 h2
  simp at e1 e2
  subst e1; subst e2
  exact ⟨⟨z, y⟩, encCs_cons ⟨rfl, .int _ _⟩ (encCs_cons ⟨rfl, .int _ _⟩ encCs_nil), trivial⟩
theorem trodL (fuel : Nat) (cs : List Value) (d : DataW HH) (ps : List MemPlace) (h : DataW.trod enc Tryz.prog W 0 (fun _ => true) true fuel 56 cs = some (d, ps)) :
    ∃ l : Level, EncCs (HW W) (cellsL l) cs.toArray ∧ l.length ≤ uptoBulk d := by
  obtain ⟨xs, fuel', rfl, hx, hlen, hxl, hfs⟩ := DataW.trod_struct Tryz.underlying56 h
  cases hx
  obtain ⟨v1, rfl⟩ := list1 (hlen.trans (by kernel_rfl))
  obtain ⟨⟨d1, p1⟩, rfl⟩ := list1 (hxl.trans (by rfl))
  have ci : Tryz.prog.cellsOf 54 = 1 := by kernel_rfl
  have h1 := hfs 0 _ rfl
  change DataW.trod enc Tryz.prog W 0 (fun _ => true) true fuel' 54 (List.take (Tryz.prog.cellsOf 54) (List.drop 0 _)) = some _ at h1
  rw [ci] at h1
  cases fuel' with
  | zero => simp [DataW.trod] at h1
  | succ fuel =>
    obtain ⟨v, ps', e1, he, hq⟩ := trodSl (P := Tryz.prog) (sz := 2) Tryz.underlying54 (by kernel_rfl) (by omega) encP cellsP (fun _ => rfl) (fun _ => rfl) D.slP (fun _ => rfl) (fun _ _ => True) fuel (trodP fuel) _ _ _ h1
    simp at e1
    subst e1
    refine ⟨ps', encCs_cons ⟨Enc.one he rfl, he⟩ encCs_nil, ?_⟩
    rcases hq with ⟨rfl, _⟩ | ⟨es, sp, e2, hl, _⟩
    · simp
    · have := length_le es
      simp only [List.map_cons, List.map_nil, uptoBulk, uptoBulkAll, e2]
      omega
theorem QT_mk {k n a : Int} {ls : List Level} {ks : List Term} {dl dk : DataW HH} (hn : -9223372036854775808 ≤ n ∧ n ≤ 9223372036854775807) (ha : a ≤ 9223372036854775807)
    (hl : (ls = [] ∧ dl = .nil) ∨ ∃ es sp, dl = .slice es sp ∧ ls.length = es.length ∧ ∀ (i : Nat) x q, ls[i]? = some x → es[i]? = some q → x.length ≤ uptoBulk q)
    (hk : (ks = [] ∧ dk = .nil) ∨ ∃ es sp, dk = .slice es sp ∧ ks.length = es.length ∧ ∀ (i : Nat) x q, ks[i]? = some x → es[i]? = some q → QT x q) {d : DataW HH} (hd : uptoBulk dl + uptoBulk dk + 1 ≤ uptoBulk d) : QT (.mk k n a ls ks) d := by
  have L1 : ls.length ≤ uptoBulk dl ∧ ∀ l ∈ ls, l.length ≤ uptoBulk dl := by
    rcases hl with ⟨rfl, _⟩ | ⟨es, sp, rfl, e, hq⟩
    · exact ⟨by simp, fun l h => by cases h⟩
    · have := length_le es
      refine ⟨by simp only [uptoBulk]; omega, fun l h => ?_⟩
      obtain ⟨i, hi⟩ := List.mem_iff_getElem?.1 h
      have hie : i < es.length := by have := (List.getElem?_eq_some_iff.1 hi).1; omega
      have q := hq i l es[i] hi (List.getElem?_eq_getElem hie)
      have hp := part_le (List.getElem_mem hie)
      simp only [uptoBulk]; omega
  have K1 : ks.length ≤ uptoBulk dk ∧ Term.szs ks ≤ uptoBulk dk ∧ ∀ B, uptoBulk dk ≤ B → ∀ x ∈ ks, x.fit B := by
    rcases hk with ⟨rfl, _⟩ | ⟨es, sp, rfl, e, hq⟩
    · exact ⟨by simp, by simp [Term.szs], fun B _ x h => by cases h⟩
    · have hle := length_le es
      refine ⟨by simp only [uptoBulk]; omega, ?_, fun B hB x h => ?_⟩
      · have : ∀ (ks : List Term) (es : List (DataW HH)), ks.length = es.length → (∀ (i : Nat) x q, ks[i]? = some x → es[i]? = some q → QT x q) → Term.szs ks ≤ uptoBulkAll es := by
          intro ks
          induction ks with
          | nil => intro es _ _; simp [Term.szs]
          | cons x ks ih =>
            intro es he hq
            cases es with
            | nil => simp at he
            | cons q es =>
              have h1 := (hq 0 x q rfl rfl).1
              have h2 := ih es (by simpa using he) (fun i x q a b => hq (i + 1) x q (by simpa using a) (by simpa using b))
              simp only [Term.szs, uptoBulkAll]; omega
        have := this ks es e hq
        simp only [uptoBulk]; omega
      · obtain ⟨i, hi⟩ := List.mem_iff_getElem?.1 h
        have hie : i < es.length := by have := (List.getElem?_eq_some_iff.1 hi).1; omega
        have q := hq i x es[i] hi (List.getElem?_eq_getElem hie)
        have hp := part_le (List.getElem_mem hie)
        exact q.2 B (by simp only [uptoBulk] at hB; omega)
  refine ⟨by simp only [Term.sz]; omega, fun B hB => ?_⟩
  refine Term.fit_iff.2 ⟨?_, fun l h => ?_, ?_, fun x h => ?_, hn, ha⟩
  · show ls.length ≤ B; omega
  · have := L1.2 l h; omega
  · show ks.length ≤ B; omega
  · exact K1.2.2 B (by omega) x h
theorem trodT : ∀ (fuel : Nat) (cs : List Value) (d : DataW HH) (ps : List MemPlace), DataW.trod enc Tryz.prog W 0 (fun _ => true) true fuel 27 cs = some (d, ps) →
    ∃ t : Term, EncCs (HW W) (cellsT t) cs.toArray ∧ QT t d := by
  intro fuel
  induction fuel using Nat.strongRecOn with
  | _ fuel ih =>
    intro cs d ps h
    rcases fuel with _ | fuel
    · simp [DataW.trod] at h
    obtain ⟨xs, fuel', hfu, hx, hlen, hxl, hfs⟩ := DataW.trod_struct Tryz.underlying27 h
    cases hx
    obtain rfl : fuel' = fuel := by omega
    obtain ⟨v1, v2, v3, v4, v5, rfl⟩ := list5 (hlen.trans (by kernel_rfl))
    obtain ⟨⟨d1, p1⟩, ⟨d2, p2⟩, ⟨d3, p3⟩, ⟨d4, p4⟩, ⟨d5, p5⟩, rfl⟩ := list5 (hxl.trans (by rfl))
    have ci : Tryz.prog.cellsOf 3 = 1 := by kernel_rfl
    have ck : Tryz.prog.cellsOf 23 = 1 := by kernel_rfl
    have cl : Tryz.prog.cellsOf 24 = 1 := by kernel_rfl
    have ct : Tryz.prog.cellsOf 25 = 1 := by kernel_rfl
    have h1 := hfs 0 _ rfl
    have h2 := hfs 1 _ rfl
    have h3 := hfs 2 _ rfl
    have h4 := hfs 3 _ rfl
    have h5 := hfs 4 _ rfl
    change DataW.trod enc Tryz.prog W 0 (fun _ => true) true fuel' 23 (List.take (Tryz.prog.cellsOf 23) (List.drop 0 _)) = some _ at h1
    change DataW.trod enc Tryz.prog W 0 (fun _ => true) true fuel' 3 (List.take (Tryz.prog.cellsOf 3) (List.drop 1 _)) = some _ at h2
    change DataW.trod enc Tryz.prog W 0 (fun _ => true) true fuel' 3 (List.take (Tryz.prog.cellsOf 3) (List.drop 2 _)) = some _ at h3
    change DataW.trod enc Tryz.prog W 0 (fun _ => true) true fuel' 24 (List.take (Tryz.prog.cellsOf 24) (List.drop 3 _)) = some _ at h4
    change DataW.trod enc Tryz.prog W 0 (fun _ => true) true fuel' 25 (List.take (Tryz.prog.cellsOf 25) (List.drop 4 _)) = some _ at h5
    rw [ck] at h1
    rw [ci] at h2
    rw [ci] at h3
    rw [cl] at h4
    rw [ct] at h5
    obtain ⟨z1, e1, _, q1⟩ := trodI Tryz.underlying23 h1
    obtain ⟨z2, e2, r2, q2⟩ := trodI Tryz.underlying3 h2
    obtain ⟨z3, e3, r3, q3⟩ := trodI Tryz.underlying3 h3
    rcases fuel' with _ | fuel
    · simp [DataW.trod] at h4
    obtain ⟨v4', ls, e4, he4, hq4⟩ := trodSl (P := Tryz.prog) (sz := 1) Tryz.underlying24 (by kernel_rfl) (by omega) encL cellsL (fun _ => rfl) (fun _ => rfl) D.slL (fun _ => rfl) (fun l d => l.length ≤ uptoBulk d) fuel (trodL fuel) _ _ _ h4
    obtain ⟨v5', ks, e5, he5, hq5⟩ := trodSl (P := Tryz.prog) (sz := 5) Tryz.underlying25 (by kernel_rfl) (by omega) encT cellsT (fun _ => rfl) (fun _ => rfl) D.slT (fun _ => rfl) QT fuel (ih fuel (by omega)) _ _ _ h5
    simp at e1 e2 e3 e4 e5
    subst e1; subst e2; subst e3; subst e4; subst e5
    refine ⟨.mk z1 z2 z3 ls ks, encCs_cons ⟨rfl, .int _ _⟩ (encCs_cons ⟨rfl, .int _ _⟩ (encCs_cons ⟨rfl, .int _ _⟩ (encCs_cons ⟨Enc.one he4 rfl, he4⟩ (encCs_cons ⟨Enc.one he5 rfl, he5⟩ encCs_nil)))), ?_⟩
    exact QT_mk r2 r3.2 hq4 hq5 (by simp only [List.map_cons, List.map_nil, uptoBulk, uptoBulkAll]; omega)
def QC (c : Core) (d : DataW HH) : Prop := QT c.typ d ∧ QT c.body d
theorem QT.up {t : Term} {d d' : DataW HH} (h : QT t d) (hl : uptoBulk d ≤ uptoBulk d') : QT t d' := ⟨Nat.le_trans h.1 hl, fun B hB => h.2 B (Nat.le_trans hl hB)⟩
theorem trodC (fuel : Nat) (cs : List Value) (d : DataW HH) (ps : List MemPlace) (h : DataW.trod enc Tryz.prog W 0 (fun _ => true) true fuel 53 cs = some (d, ps)) :
    ∃ c : Core, EncCs (HW W) (cellsC c) cs.toArray ∧ QC c d := by
  obtain ⟨xs, fuel', rfl, hx, hlen, hxl, hfs⟩ := DataW.trod_struct Tryz.underlying53 h
  cases hx
  obtain ⟨v1, v2, v3, v4, v5, v6, v7, v8, v9, v10, v11, v12, rfl⟩ := list12 (hlen.trans (by kernel_rfl))
  obtain ⟨⟨d1, p1⟩, ⟨d2, p2⟩, ⟨d3, p3⟩, ⟨d4, p4⟩, rfl⟩ := list4 (hxl.trans (by rfl))
  have ci : Tryz.prog.cellsOf 3 = 1 := by kernel_rfl
  have ct : Tryz.prog.cellsOf 27 = 5 := by kernel_rfl
  have cb : Tryz.prog.cellsOf 4 = 1 := by kernel_rfl
  have h1 := hfs 0 _ rfl
  have h2 := hfs 1 _ rfl
  have h3 := hfs 2 _ rfl
  have h4 := hfs 3 _ rfl
  change DataW.trod enc Tryz.prog W 0 (fun _ => true) true fuel' 3 (List.take (Tryz.prog.cellsOf 3) (List.drop 0 _)) = some _ at h1
  change DataW.trod enc Tryz.prog W 0 (fun _ => true) true fuel' 27 (List.take (Tryz.prog.cellsOf 27) (List.drop 1 _)) = some _ at h2
  change DataW.trod enc Tryz.prog W 0 (fun _ => true) true fuel' 4 (List.take (Tryz.prog.cellsOf 4) (List.drop 6 _)) = some _ at h3
  change DataW.trod enc Tryz.prog W 0 (fun _ => true) true fuel' 27 (List.take (Tryz.prog.cellsOf 27) (List.drop 7 _)) = some _ at h4
  rw [ci] at h1
  rw [ct] at h2
  rw [cb] at h3
  rw [ct] at h4
  obtain ⟨z, e1, _, _⟩ := trodI Tryz.underlying3 h1
  obtain ⟨b, e3, _⟩ := DataW.trod_bool Tryz.underlying4 h3
  obtain ⟨ta, ha, qa⟩ := trodT _ _ _ _ h2
  obtain ⟨tb, hb, qb⟩ := trodT _ _ _ _ h4
  simp at e1 e3
  subst e1; subst e3
  refine ⟨⟨z, ta, b, tb⟩, ?_, ?_⟩
  · have A1 : EncCs (HW W) [D.int .i64 z] [Value.int .i64 z].toArray := encCs_cons ⟨rfl, .int _ _⟩ encCs_nil
    have A2 : EncCs (HW W) [D.bool b] [Value.bool b].toArray := encCs_cons ⟨rfl, .bool _⟩ encCs_nil
    have := encCs_append (encCs_append (encCs_append A1 ha) A2) hb
    simpa [cellsC, cellsT] using this
  · refine ⟨qa.up ?_, qb.up ?_⟩ <;> simp only [List.map_cons, List.map_nil, uptoBulk, uptoBulkAll] <;> omega
theorem trodCs {r : Reach} {b0 : Nat} {v : Value} {d : DataW HH} {ps : List MemPlace} (hval : Value.okWide Tryz.prog W r b0 22 v) (h : DataW.Trod enc Tryz.prog W 0 (fun _ => true) true 22 v d ps) :
    ∃ xs : List Core, Enc (HW W) (.slC xs) v ∧ xs.length ≤ uptoBulk d ∧ ∀ c ∈ xs, QC c d := by
  obtain ⟨p, len, cap, rfl⟩ := WideShapes.okWide_slice Tryz.underlying22 hval
  obtain ⟨fuel, h⟩ := h
  cases fuel with
  | zero => simp [DataW.trod] at h
  | succ fuel =>
    obtain ⟨u, xs, e, he, hq⟩ := trodSl (P := Tryz.prog) (sz := 12) Tryz.underlying22 (by kernel_rfl) (by omega) encC cellsC (fun _ => rfl) (fun _ => rfl) D.slC (fun _ => rfl) QC fuel (trodC fuel) _ _ _ h
    simp [Value.cells] at e
    subst e
    refine ⟨xs, he, ?_⟩
    rcases hq with ⟨rfl, rfl⟩ | ⟨es, sp, rfl, hl, hq⟩
    · exact ⟨by simp, fun c hc => by cases hc⟩
    · have hle := length_le es
      refine ⟨by simp only [uptoBulk]; omega, fun c hc => ?_⟩
      obtain ⟨i, hi⟩ := List.mem_iff_getElem?.1 hc
      have hie : i < es.length := by have := (List.getElem?_eq_some_iff.1 hi).1; omega
      have q := hq i c es[i] hi (List.getElem?_eq_getElem hie)
      have hp := part_le (List.getElem_mem hie)
      exact ⟨q.1.up (by simp only [uptoBulk]; omega), q.2.up (by simp only [uptoBulk]; omega)⟩
end
end Sp

/- The table of kinds, as the row lists it. Written by a program of mine. -/
set_option linter.unusedVariables false
set_option maxRecDepth 100000
namespace Sp
open Go Go.Proofs Go.Proofs.YtbnknhpebkcpmaaGreatDoor.Rows
abbrev KR := Bool × Bool × Int × Int × Int
def krV (r : KR) : List Value := [.bool r.1, .bool r.2.1, .int .i64 r.2.2.1, .int .i64 r.2.2.2.1, .int .i64 r.2.2.2.2]
def krD {H : Type} (r : KR) : DataW H := .agg [.lit (.bool r.1), .lit (.bool r.2.1), .lit (.int .i64 r.2.2.1), .lit (.int .i64 r.2.2.2.1), .lit (.int .i64 r.2.2.2.2)]
theorem kindCells_eq : kindCells = kindRows.flatMap krV := by kernel_rfl
theorem laid_eq {H : Type} : laid_spandrel_term_kinds (H := H) = .agg (kindRows.map krD) := by kernel_rfl
section
variable {HH : Type} {enc : TypeId × Value → HH} {W : World}
theorem trodKR {sp : Nat → Bool} {held : Bool} {base fuel : Nat} {cs : List Value} {r : KR} {p : List MemPlace} (h : DataW.trod enc Tryz.prog W base sp held fuel 168 cs = some (krD r, p)) : cs = krV r := by
  obtain ⟨xs, fuel', rfl, hx, hlen, hxl, hfs⟩ := DataW.trod_struct Tryz.underlying168 h
  obtain ⟨v1, v2, v3, v4, v5, rfl⟩ := list5 (hlen.trans (by kernel_rfl))
  obtain ⟨⟨d1, p1⟩, ⟨d2, p2⟩, ⟨d3, p3⟩, ⟨d4, p4⟩, ⟨d5, p5⟩, rfl⟩ := list5 (hxl.trans (by rfl))
  have ci : Tryz.prog.cellsOf 3 = 1 := by kernel_rfl
  have cb : Tryz.prog.cellsOf 4 = 1 := by kernel_rfl
  have h1 := hfs 0 _ rfl
  have h2 := hfs 1 _ rfl
  have h3 := hfs 2 _ rfl
  have h4 := hfs 3 _ rfl
  have h5 := hfs 4 _ rfl
  change DataW.trod enc Tryz.prog W base sp held fuel' 4 (List.take (Tryz.prog.cellsOf 4) (List.drop 0 _)) = some _ at h1
  change DataW.trod enc Tryz.prog W base sp held fuel' 4 (List.take (Tryz.prog.cellsOf 4) (List.drop 1 _)) = some _ at h2
  change DataW.trod enc Tryz.prog W base sp held fuel' 3 (List.take (Tryz.prog.cellsOf 3) (List.drop 2 _)) = some _ at h3
  change DataW.trod enc Tryz.prog W base sp held fuel' 3 (List.take (Tryz.prog.cellsOf 3) (List.drop 3 _)) = some _ at h4
  change DataW.trod enc Tryz.prog W base sp held fuel' 3 (List.take (Tryz.prog.cellsOf 3) (List.drop 4 _)) = some _ at h5
  rw [cb] at h1
  rw [cb] at h2
  rw [ci] at h3
  rw [ci] at h4
  rw [ci] at h5
  obtain ⟨b1, e1, q1⟩ := DataW.trod_bool Tryz.underlying4 h1
  obtain ⟨b2, e2, q2⟩ := DataW.trod_bool Tryz.underlying4 h2
  obtain ⟨z3, e3, q3, _⟩ := DataW.trod_int Tryz.underlying3 h3
  obtain ⟨z4, e4, q4, _⟩ := DataW.trod_int Tryz.underlying3 h4
  obtain ⟨z5, e5, q5, _⟩ := DataW.trod_int Tryz.underlying3 h5
  cases q1; cases q2; cases q3; cases q4; cases q5
  simp at e1 e2 e3 e4 e5
  subst e1; subst e2; subst e3; subst e4; subst e5
  obtain ⟨r1, r2, r3, r4, r5⟩ := r
  simp [krD] at hx
  obtain ⟨⟨rfl, rfl, rfl, rfl, rfl⟩, _⟩ := hx
  rfl
theorem chunks (f : KR → List Value) (hf : ∀ r, (f r).length = 5) : ∀ (rows : List KR) (cs : List Value), cs.length = rows.length * 5 → (∀ (i : Nat) r, rows[i]? = some r → (cs.drop (i * 5)).take 5 = f r) → cs = rows.flatMap f
  | [], cs, hl, _ => by simpa using hl
  | r :: rows, cs, hl, h => by
    have h0 := h 0 r rfl
    have ih := chunks f hf rows (cs.drop 5) (by simp at hl ⊢; omega) (fun i x hx => by have := h (i + 1) x (by simpa using hx); rw [List.drop_drop, show 5 + i * 5 = (i + 1) * 5 by omega]; exact this)
    rw [List.flatMap_cons, ← ih, ← h0]
    simp
theorem kinds_cells {sp : Nat → Bool} {held : Bool} {base fuel : Nat} {cs : List Value} {p : List MemPlace} (h : DataW.trod enc Tryz.prog W base sp held fuel 169 cs = some (laid_spandrel_term_kinds, p)) : cs = kindCells := by
  cases fuel with
  | zero => simp [DataW.trod] at h
  | succ fuel =>
    have hce : Tryz.prog.cellsOf 168 = 5 := by kernel_rfl
    have hct : Tryz.prog.cellsOf 169 = 125 := by kernel_rfl
    simp only [DataW.trod, Tryz.underlying169, hce, hct] at h
    split at h
    · rename_i hl
      obtain ⟨xs, hm, hx⟩ := Option.map_eq_some_iff.1 h
      rw [laid_eq] at hx
      have hxs : xs.map (·.1) = kindRows.map krD := by
        have := congrArg Prod.fst hx
        simpa using this
      rw [kindCells_eq]
      refine chunks krV (fun _ => rfl) kindRows cs (hl.trans (by decide)) (fun i r hr => ?_)
      have hi : i < 25 := by have := (List.getElem?_eq_some_iff.1 hr).1; exact this
      obtain ⟨b, hb, hf⟩ := Lib.mapM_at hm i i (by rw [List.getElem?_range hi])
      have h2 : (xs.map (·.1))[i]? = some b.1 := by rw [List.getElem?_map, hb]; rfl
      rw [hxs, List.getElem?_map, hr] at h2
      have e2 : krD r = b.1 := Option.some.inj h2
      obtain ⟨bd, bp⟩ := b
      exact trodKR (r := r) (p := bp) (by rw [hf]; exact congrArg some (Prod.ext e2.symm rfl))
    · cases h
end
theorem gTab : Tryz.prog.globalNamed "spandrel/term.kinds" = some 0 := by kernel_rfl
theorem gTabType : (Tryz.prog.globals[0]?).map (·.type) = some 169 := by kernel_rfl
theorem g0_le {W : World} (h : laidMetH Tryz.prog [("spandrel/term.kinds", laid_spandrel_term_kinds)] W) : G0.le (HW W) := by
  have h' : laidMet Tryz.prog [("spandrel/term.kinds", laid_spandrel_term_kinds)] W := h
  obtain ⟨ps, ⟨g', t', cs, fuel, p, q, hg', ht', hvar, hd, _, _⟩, _⟩ := h'
  obtain rfl := Option.some.inj (gTab.symm.trans hg')
  obtain rfl := Option.some.inj (gTabType.symm.trans ht')
  have hk := kinds_cells hd
  intro b o v e
  unfold G0 at e
  split at e
  · rename_i hb
    subst hb
    have hv := World.var?_cell gTab hvar o
    show W.cell? ⟨0, o, none⟩ = some v
    rw [hv]
    have : cs.toList[o]? = some v := by rw [hk]; exact e
    simpa using this
  · cases e
end Sp
