/- Walks of the program's functions and what they compute: contracts of calls; no condition beyond those that each theorem names. -/
import Derived.Test.YtbnknhpebkcpmaaGreatDoorBb
import Derived.Test.YtbnknhpebkcpmaaGreatDoorKb
import Derived.Test.YtbnknhpebkcpmaaGreatDoorShelf
/- slices.Sorted over a map's keys, at this program. Written by a program of mine. -/
set_option linter.unusedVariables false
set_option maxRecDepth 100000
namespace Sp
open Go Go.Proofs Go.RowKit Go.Maps Go.Sort Go.Shelf Go.WideElems
theorem sortsA (m : Nat) : AnyZI.SortsIn Tryz.prog Tryz.sortedA_ren Fence.wide m :=
  ⟨fun blk off cap ss W hH hblk hsz => callsIn_wide.2 (AnyM.slices_Sort_int Tryz.sortA blk off cap ss W hH hblk hsz),
   fun p cap W => callsIn_wide.2 (AnyM.slices_Sort_int_none Tryz.sortA p cap W)⟩
def RZ (_ : Value) : Option (DataW Unit × List MemPlace) := some (.nil, [])
def rowD (rows : Rows) : List (Lit × DataW Unit) := rows.map fun e => (Lit.int .i64 e.1, DataW.nil)
def D0 (rows : Rows) : DataW Unit := .map ((rowD rows).foldr DataW.insert [])
theorem insert_perm (x : Lit × DataW Unit) : ∀ (l : List (Lit × DataW Unit)), (DataW.insert x l).Perm (x :: l)
  | [] => List.Perm.refl _
  | y :: r => by
    rw [DataW.insert]
    split
    · exact List.Perm.refl _
    · exact (List.Perm.cons y (insert_perm x r)).trans (List.Perm.swap x y r)
theorem foldr_perm : ∀ (l : List (Lit × DataW Unit)), (l.foldr DataW.insert []).Perm l
  | [] => List.Perm.refl _
  | x :: r => (insert_perm x _).trans (List.Perm.cons x (foldr_perm r))
theorem D0_size (rows : Rows) : Maps.size (D0 rows) = rows.length := by
  rw [D0, Maps.size_eq, (foldr_perm _).length_eq, rowD, List.length_map]
theorem D0_keys (rows : Rows) : (intKeys (D0 rows)).Perm (rows.map (·.1)) := by
  have h := (foldr_perm (rowD rows)).map (fun (p : Lit × DataW Unit) => Go.intOf p.1)
  have e : (rowD rows).map (fun (p : Lit × DataW Unit) => Go.intOf p.1) = rows.map (·.1) := by
    rw [rowD, List.map_map]; rfl
  rw [e] at h
  exact h
theorem owns {H : Ghost} {L : Loc} {w : World} (hs : Sim H L w) {k mb : Nat} {rows : Rows} (hk : L[k]? = some (mb, .map (encRow rows))) (hr : RowsOk rows) : w.ownsMap Tryz.prog 3 RZ mb rows.length (D0 rows) := by
  obtain ⟨ms, hb, hsz, hms, _⟩ := map_facts hs hk
  rw [encRow_len] at hb hsz
  have hlen := hr.len
  have ent : ∀ (i : Nat) m, ms[i]? = some m → ∃ r, rows[i]? = some r ∧ m.key = .int .i64 r.1 ∧ m.born = i := fun i m h => by
    have hi : i < rows.length := by have := (Array.getElem?_eq_some_iff.1 h).1; omega
    have he : (encRow rows)[i]? = some (rows[i].1, .int .i64 rows[i].2) := by simp [encRow, List.getElem?_map, List.getElem?_eq_getElem hi]
    have := hms i _ m he h
    exact ⟨rows[i], List.getElem?_eq_getElem hi, this.1, this.2.1⟩
  have wf : ∀ r ∈ rows, (Lit.int .i64 r.1).wf = true := fun r h => by
    have := hr.2 r h
    simp only [Lit.wf, IntKind.min, IntKind.max, IntKind.bits, IntKind.signed, Bool.and_eq_true, decide_eq_true_eq]
    simp
    omega
  have reads : ∀ (i : Nat) m, ms[i]? = some m → ∃ r, rows[i]? = some r ∧ WideElems.rd Tryz.prog 3 RZ m = some (Lit.int .i64 r.1, DataW.nil) := fun i m h => by
    obtain ⟨r, h1, h2, h3⟩ := ent i m h
    refine ⟨r, h1, ?_⟩
    have hkey : keyOf Tryz.prog 3 m.key = some (.int .i64 r.1) := by
      rw [h2]
      simp [keyOf, Tryz.underlying3, mapKey, wf r (List.mem_of_getElem? h1)]
    unfold WideElems.rd
    rw [hkey]; rfl
  refine ⟨ms, rows.length, hb, ⟨by simp only [maxLen]; omega, ?_, fun x hx => ?_⟩, by omega, ?_⟩
  · have hborn : ms.toList.map (·.born) = List.range rows.length := by
      apply List.ext_getElem?
      intro i
      rw [List.getElem?_map]
      cases h : ms.toList[i]? with
      | none =>
        have h1 : rows.length ≤ i := by have := List.getElem?_eq_none_iff.1 h; simp at this; omega
        rw [List.getElem?_eq_none (by simpa using h1)]; rfl
      | some m =>
        obtain ⟨r, h1, _, h3⟩ := ent i m (by simpa using h)
        have hi := (List.getElem?_eq_some_iff.1 h1).1
        rw [List.getElem?_range hi]
        simp only [Option.map_some, h3]
    have hkeys : ms.toList.map (·.key) = (rows.map (·.1)).map (Value.int .i64) := by
      apply List.ext_getElem?
      intro i
      rw [List.getElem?_map, List.getElem?_map, List.getElem?_map]
      cases h : ms.toList[i]? with
      | none =>
        have h1 : rows.length ≤ i := by have := List.getElem?_eq_none_iff.1 h; simp at this; omega
        rw [List.getElem?_eq_none h1]; rfl
      | some m =>
        obtain ⟨r, h1, h2, _⟩ := ent i m (by simpa using h)
        rw [h1]
        simp only [Option.map_some, h2]
    refine ⟨fun x hx => ?_, by rw [hborn]; exact List.nodup_range, ?_⟩
    · have : x.born ∈ ms.toList.map (·.born) := List.mem_map.2 ⟨x, hx, rfl⟩
      rw [hborn] at this
      exact List.mem_range.1 this
    · rw [hkeys]
      exact List.pairwise_map.2 (hr.1.imp (fun hne e => hne (by cases e; rfl)))
  · obtain ⟨i, hi⟩ := List.mem_iff_getElem?.1 hx
    obtain ⟨r, _, h⟩ := reads i x (by simpa using hi)
    exact ⟨_, h⟩
  · have : ms.toList.map (rg Tryz.prog 3 RZ) = rowD rows := by
      apply List.ext_getElem?
      intro i
      rw [List.getElem?_map, rowD, List.getElem?_map]
      cases h : ms.toList[i]? with
      | none =>
        have h1 : rows.length ≤ i := by have := List.getElem?_eq_none_iff.1 h; simp at this; omega
        rw [List.getElem?_eq_none h1]; rfl
      | some m =>
        obtain ⟨r, h1, h2⟩ := reads i m (by simpa using h)
        rw [h1]
        simp only [Option.map_some, rg_of h2]
    rw [this]; rfl
set_option maxHeartbeats 1000000 in
theorem sortedOk : SortedOk := by
  intro mb bk rows hr
  have hlen := hr.len
  refine ⟨⟨_, Tryz.func199, rfl, rfl⟩, fun H w vs hs ha => ?_⟩
  obtain ⟨hsz, hv⟩ := ha
  obtain ⟨v0, rfl⟩ : ∃ v0, vs = #[v0] := by
    rcases vs with ⟨l⟩
    cases l with
    | nil => simp at hsz
    | cons v r => cases r with
      | nil => exact ⟨v, rfl⟩
      | cons => simp at hsz
  obtain ⟨us, ws, rfl, hu, hw⟩ := (hv 0 _ _ rfl rfl).func_inv
  obtain rfl : us = #[] := Array.eq_empty_of_size_eq_zero hu.1
  obtain ⟨p0, rfl⟩ : ∃ p0, ws = #[p0] := by
    have hwz := hw.1
    rcases ws with ⟨l⟩
    cases l with
    | nil => simp at hwz
    | cons v r => cases r with
      | nil => exact ⟨v, rfl⟩
      | cons => simp at hwz
  obtain rfl := (hw.2 0 _ _ rfl rfl).ptr_inv
  have hown := owns hs (k := 1) rfl hr
  have hobj := (hs.obj bk (.cells 176 [.map mb]) (by simp)).1
  obtain ⟨arr, hb, hc⟩ := hobj
  have hcell : w.cell? ⟨bk, 0, none⟩ = some (.map (some mb)) := by
    have h1 : arr.size = 1 := hc.1
    have h2 := (hc.2 0 (.map mb) arr[0] rfl (Array.getElem?_eq_getElem (by omega))).2.map_inv
    simp only [World.cell?, hb, Option.isSome_none]
    simp [Array.getElem?_eq_getElem (show 0 < arr.size by omega), h2]
  have hbk : bk < w.heap.size := (Array.getElem?_eq_some_iff.1 hb).1
  have hseq : SeqGives Fence.wide 2 Tryz.prog 216 #[.pointer (some ⟨bk, 0, none⟩)] encZ (fun ss => ss.Perm (intKeys (D0 rows))) (Maps.size (D0 rows)) w :=
    AnyZI.keys_gives (ρ := Tryz.keysA_ren) { Tryz.keysA with } Fence.wide _ trivial rfl (by omega) bk mb rows.length (D0 rows) _ hbk hcell hown
  have cS := AnyZI.sorted_in Tryz.sortedA Fence.wide 5 trivial trivial trivial trivial rfl (by omega) (sortsA _) (enters_of Tryz.func215 (by kernel_rfl) rfl) 216 #[.pointer (some ⟨bk, 0, none⟩)] trivial (enters_of Tryz.func216 (by kernel_rfl) rfl) _ _ (by rw [D0_size]; simp only [maxLen]; omega) (by rw [D0_size]; omega) w hseq
  change CallsIn Fence.wide 5 Tryz.prog 199 #[.func (.func 216) #[] #[.pointer (some ⟨bk, 0, none⟩)]] w _ at cS
  refine (callsIn_wide.1 cS).mono ?_
  rintro e w' ⟨v, ss, rfl, hS, hrow, hnil, hbel⟩
  have hks : ss.mergeSort (fun x y => decide (x ≤ y)) = keysM rows := mergeSort_of_perm_i (hS.trans (D0_keys rows))
  have hlen2 : ss.length = (keysM rows).length := by rw [← hks]; simp
  rw [hks] at hrow
  rcases hrow.2 with ⟨rfl, hz⟩ | ⟨g, cap, cur, rfl, hbase, hg, r1, r2, r3, r4⟩
  · obtain ⟨s', t'⟩ := hs.below hbel
    have hk0 : keysM rows = [] := List.eq_nil_of_length_eq_zero (by omega)
    exact ⟨H, _, s', t', _, Enc.data_nil (by rw [hk0]; rfl) none 0, rfl, rfl⟩
  · have hl : ((keysM rows).map encZ).length = ss.length := by rw [List.length_map, hlen2]
    obtain ⟨s', t'⟩ := hs.belowRow hbel hbase hg (vs := (keysM rows).map encZ) (by rw [hl, ← r4, Nat.mul_one])
    have hno : ∀ o, H g o = none := fun o => by
      cases e : H g o with
      | none => rfl
      | some v => have := hs.lt_ghost e; omega
    refine ⟨_, _, s', t', _, ?_, rfl, rfl⟩
    rw [hlen2]
    exact enc_ints (by omega) hno
end Sp
