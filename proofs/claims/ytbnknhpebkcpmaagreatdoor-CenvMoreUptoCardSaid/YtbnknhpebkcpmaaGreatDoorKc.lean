/- The plain functions that the program computes, and facts about them; no condition. -/
import Derived.Test.YtbnknhpebkcpmaaGreatDoorKb
/- The plain functions that the program computes: sizes, lifting, putting. -/
set_option linter.unusedVariables false
namespace Sp
open Go
abbrev w64 (z : Int) : Int := IntKind.i64.wrap z
theorem w64_range (a : Int) : -9223372036854775808 ≤ w64 a ∧ w64 a ≤ 9223372036854775807 := by
  simp only [w64, IntKind.wrap, IntKind.bits, IntKind.signed, Bool.true_and]
  split <;> simp_all <;> omega
theorem w64_id {a : Int} (h1 : -9223372036854775808 ≤ a) (h2 : a ≤ 9223372036854775807) : w64 a = a := wrap_i64 h1 h2
def T0 : Term := .mk 0 0 0 [] []
def kid (t : Term) (k : Int) : Term := if k < 0 ∨ (t.kids.length : Int) ≤ k then T0 else t.kids.getD k.toNat default
mutual
def Term.sz : Term → Nat
  | .mk _ _ _ _ ks => 1 + Term.szs ks
def Term.szs : List Term → Nat
  | [] => 0
  | t :: ts => t.sz + Term.szs ts
end
mutual
def Term.fit (B : Nat) : Term → Prop
  | .mk _ n a ls ks => ls.length ≤ B ∧ (∀ l ∈ ls, l.length ≤ B) ∧ ks.length ≤ B ∧ Term.fits B ks ∧ (-9223372036854775808 ≤ n ∧ n ≤ 9223372036854775807) ∧ a ≤ 9223372036854775807
def Term.fits (B : Nat) : List Term → Prop
  | [] => True
  | t :: ts => t.fit B ∧ Term.fits B ts
end
theorem Term.fits_iff {B : Nat} : ∀ {ts : List Term}, Term.fits B ts ↔ ∀ t ∈ ts, t.fit B
  | [] => by simp [Term.fits]
  | t :: ts => by simp [Term.fits, Term.fits_iff (ts := ts)]
theorem Term.fit_iff {B : Nat} {t : Term} : t.fit B ↔ t.levels.length ≤ B ∧ (∀ l ∈ t.levels, l.length ≤ B) ∧ t.kids.length ≤ B ∧ (∀ k ∈ t.kids, k.fit B) ∧ (-9223372036854775808 ≤ t.num ∧ t.num ≤ 9223372036854775807) ∧ t.at_ ≤ 9223372036854775807 := by
  cases t with
  | mk k n a ls ks => simp [Term.fit, Term.fits_iff, Term.levels, Term.kids, Term.num, Term.at_]
theorem Term.fit.kid {B : Nat} {t : Term} (h : t.fit B) {k : Term} (hk : k ∈ t.kids) : k.fit B := (Term.fit_iff.1 h).2.2.2.1 k hk
theorem Term.fit.nr {B : Nat} {t : Term} (h : t.fit B) : -9223372036854775808 ≤ t.num ∧ t.num ≤ 9223372036854775807 := (Term.fit_iff.1 h).2.2.2.2.1
theorem Term.fit.atr {B : Nat} {t : Term} (h : t.fit B) : t.at_ ≤ 9223372036854775807 := (Term.fit_iff.1 h).2.2.2.2.2
theorem Term.fit.renum {B : Nat} {t : Term} (h : t.fit B) {n : Int} (hn : -9223372036854775808 ≤ n ∧ n ≤ 9223372036854775807) {k : Int} : (Term.mk k n t.at_ t.levels t.kids).fit B :=
  Term.fit_iff.2 ⟨(Term.fit_iff.1 h).1, (Term.fit_iff.1 h).2.1, (Term.fit_iff.1 h).2.2.1, (Term.fit_iff.1 h).2.2.2.1, hn, (Term.fit_iff.1 h).2.2.2.2.2⟩
theorem Term.fit.len {B : Nat} {t : Term} (h : t.fit B) : t.kids.length ≤ B := (Term.fit_iff.1 h).2.2.1
theorem Term.fit.llen {B : Nat} {t : Term} (h : t.fit B) : t.levels.length ≤ B := (Term.fit_iff.1 h).1
theorem Term.fit.plen {B : Nat} {t : Term} (h : t.fit B) {l : Level} (hl : l ∈ t.levels) : l.length ≤ B := (Term.fit_iff.1 h).2.1 l hl
theorem Term.sz_kid : ∀ {ts : List Term} {k : Term}, k ∈ ts → k.sz ≤ Term.szs ts
  | [], k, h => by cases h
  | t :: ts, k, h => by
    rcases List.mem_cons.1 h with rfl | h
    · simp [Term.szs]
    · have := Term.sz_kid h; simp [Term.szs]; omega
theorem Term.sz_eq (t : Term) : t.sz = 1 + Term.szs t.kids := by cases t; rfl
theorem Term.sz_lt {t k : Term} (h : k ∈ t.kids) : k.sz < t.sz := by
  have := Term.sz_kid h; rw [Term.sz_eq t]; omega
theorem Term.sz_pos (t : Term) : 1 ≤ t.sz := by rw [Term.sz_eq]; omega
theorem getD_mem {α : Type} [Inhabited α] {l : List α} {i : Nat} (h : i < l.length) : l.getD i default ∈ l := by
  rw [List.getD_eq_getElem?_getD, List.getElem?_eq_getElem h]; exact List.getElem_mem h
theorem take_succ_getD {α : Type} [Inhabited α] {l : List α} {i : Nat} (h : i < l.length) : l.take (i + 1) = l.take i ++ [l.getD i default] := by
  rw [List.take_add_one, List.getD_eq_getElem?_getD, List.getElem?_eq_getElem h]; rfl
theorem Term.szs_append : ∀ (a b : List Term), Term.szs (a ++ b) = Term.szs a + Term.szs b
  | [], b => by simp [Term.szs]
  | t :: a, b => by simp [Term.szs, Term.szs_append a b]; omega
theorem Term.szs_take_succ {ts : List Term} {i : Nat} (h : i < ts.length) : Term.szs (ts.take (i + 1)) = Term.szs (ts.take i) + (ts.getD i default).sz := by
  rw [take_succ_getD h, Term.szs_append]; simp [Term.szs]
theorem w64_add (a b : Int) : w64 (w64 a + w64 b) = w64 (a + b) := by
  simp only [w64, IntKind.wrap, IntKind.bits, IntKind.signed, Bool.true_and]
  split <;> split <;> split <;> split <;> simp_all <;> omega
def binds (k i : Int) : Bool := decide (0 < k) && decide (k < 25) && decide (0 ≤ i) && decide (bound k = i)
mutual
def Term.beq : Term → Term → Bool
  | .mk k n a ls ks, .mk k' n' a' ls' ks' => decide (k = k') && decide (n = n') && decide (a = a') && decide (ls = ls') && Term.beqs ks ks'
def Term.beqs : List Term → List Term → Bool
  | [], [] => true
  | t :: ts, u :: us => t.beq u && Term.beqs ts us
  | _, _ => false
end
mutual
theorem Term.beq_iff : ∀ (t u : Term), t.beq u = true ↔ t = u
  | .mk k n a ls ks, .mk k' n' a' ls' ks' => by
    simp [Term.beq, Term.beqs_iff ks ks', and_assoc]
theorem Term.beqs_iff : ∀ (t u : List Term), Term.beqs t u = true ↔ t = u
  | [], [] => by simp [Term.beqs]
  | [], _ :: _ => by simp [Term.beqs]
  | _ :: _, [] => by simp [Term.beqs]
  | t :: ts, u :: us => by simp [Term.beqs, Term.beq_iff t u, Term.beqs_iff ts us]
end
instance : DecidableEq Term := fun a b => decidable_of_iff (a.beq b = true) (Term.beq_iff a b)
theorem Term.ext' {t u : Term} (h1 : t.kind = u.kind) (h2 : t.num = u.num) (h3 : t.at_ = u.at_) (h4 : t.levels = u.levels) (h5 : t.kids = u.kids) : t = u := by
  cases t; cases u; simp_all [Term.kind, Term.num, Term.at_, Term.levels, Term.kids]
theorem Term.eta (t : Term) : Term.mk t.kind t.num t.at_ t.levels t.kids = t := by cases t; rfl
section
variable (g : Int → Term → Term) (dn : Int → Term → Bool)
mutual
def walkM (b : Int) : Term → Term
  | .mk k n a ls ks => bif dn b (.mk k n a ls ks) then g b (.mk k n a ls ks) else
      .mk (g b (.mk k n a ls ks)).kind (g b (.mk k n a ls ks)).num (g b (.mk k n a ls ks)).at_ (g b (.mk k n a ls ks)).levels (walkMs b k 0 ks)
def walkMs (b k : Int) (i : Nat) : List Term → List Term
  | [] => []
  | t :: ts => walkM (bif binds k i then b + 1 else b) t :: walkMs b k (i + 1) ts
end
end
theorem walkM_eq (g : Int → Term → Term) (dn : Int → Term → Bool) (b : Int) (t : Term) :
    walkM g dn b t = bif dn b t then g b t else .mk (g b t).kind (g b t).num (g b t).at_ (g b t).levels (walkMs g dn b t.kind 0 t.kids) := by
  cases t; rw [walkM]; rfl
theorem walkMs_append (g : Int → Term → Term) (dn : Int → Term → Bool) (b k : Int) : ∀ (l m : List Term) (i : Nat), walkMs g dn b k i (l ++ m) = walkMs g dn b k i l ++ walkMs g dn b k (i + l.length) m
  | [], m, i => by simp [walkMs]
  | t :: l, m, i => by simp [walkMs, walkMs_append g dn b k l m (i + 1)]; congr 1; omega
theorem walkMs_length (g : Int → Term → Term) (dn : Int → Term → Bool) (b k : Int) : ∀ (l : List Term) (i : Nat), (walkMs g dn b k i l).length = l.length
  | [], i => rfl
  | t :: l, i => by simp [walkMs, walkMs_length g dn b k l (i + 1)]
theorem walkMs_take_succ (g : Int → Term → Term) (dn : Int → Term → Bool) (b k : Int) {ts : List Term} {i : Nat} (h : i < ts.length) :
    walkMs g dn b k 0 (ts.take (i + 1)) = walkMs g dn b k 0 (ts.take i) ++ [walkM g dn (bif binds k i then b + 1 else b) (ts.getD i default)] := by
  rw [take_succ_getD h, walkMs_append]
  simp [walkMs, List.length_take, Nat.min_eq_left (Nat.le_of_lt h)]
def liftG (n from_ b : Int) (t : Term) : Term := if t.kind = 1 ∧ b ≤ t.num ∧ from_ ≤ t.num - b then .mk t.kind (w64 (t.num + n)) t.at_ t.levels t.kids else t
def no (_ : Int) (_ : Term) : Bool := false
def lift (t : Term) (n from_ : Int) : Term := walkM (liftG n from_) no 0 t
def putHit (by_ : List Term) (b : Int) (t : Term) : Bool := decide (t.kind = 1) && decide (b ≤ t.num) && decide (t.num - b < by_.length)
def putG (by_ : List Term) (b : Int) (t : Term) : Term :=
  if putHit by_ b t then lift (by_.getD (by_.length - 1 - (t.num - b)).toNat default) b 0
  else if t.kind = 1 ∧ b ≤ t.num then .mk t.kind (t.num - by_.length) t.at_ t.levels t.kids else t
def put (t : Term) (by_ : List Term) : Term := walkM (putG by_) (putHit by_) 0 t
end Sp

/- The plain functions of the kit: counting, depth, sameness. -/
set_option linter.unusedVariables false
namespace Sp
open Go
theorem drop_getD {α : Type} [Inhabited α] {l : List α} {i : Nat} (h : i < l.length) : l.drop i = l.getD i default :: l.drop (i + 1) := by
  rw [List.drop_eq_getElem_cons h, List.getD_eq_getElem?_getD, List.getElem?_eq_getElem h]; rfl
def levelOfM (l : Level) (q : Int) : Int := min (w64 (1 + l.length)) (w64 (q + 1))
def levelsGo (q : Int) : Int → List Level → Int
  | n, [] => n
  | n, l :: ls => if n ≤ q then levelsGo q (w64 (n + levelOfM l q)) ls else n
theorem levelsGo_stop {q n : Int} (h : ¬ n ≤ q) (ls : List Level) : levelsGo q n ls = n := by cases ls <;> simp [levelsGo, h]
mutual
def termOfM (q : Int) : Term → Int
  | .mk _ _ _ ls ks => w64 (w64 (1 + levelsGo q 0 ls) + termsGo q 0 ks)
def termsGo (q : Int) (n : Int) : List Term → Int
  | [] => n
  | t :: ts => if n ≤ q then termsGo q (w64 (n + termOfM (w64 (q - n)) t)) ts else n
end
theorem termsGo_stop {q n : Int} (h : ¬ n ≤ q) (ls : List Term) : termsGo q n ls = n := by cases ls <;> simp [termsGo, h]
theorem termOfM_eq (q : Int) (t : Term) : termOfM q t = w64 (w64 (1 + levelsGo q 0 t.levels) + termsGo q 0 t.kids) := by cases t; rw [termOfM]; rfl
def coresGo (q : Int) : Int → List Core → Int
  | n, [] => n
  | n, c :: cs => if n ≤ q then coresGo q (w64 (w64 (w64 (n + 1) + termOfM q c.typ) + termOfM q c.body)) cs else n
theorem coresGo_stop {q n : Int} (h : ¬ n ≤ q) (ls : List Core) : coresGo q n ls = n := by cases ls <;> simp [coresGo, h]
mutual
def deepM (d : Int) : Term → Int
  | .mk _ _ _ _ ks => w64 (deepsGo d 0 ks + 1)
def deepsGo (d : Int) (n : Int) : List Term → Int
  | [] => n
  | t :: ts => if 0 < d then deepsGo d (max n (deepM (w64 (d - 1)) t)) ts else n
end
theorem deepsGo_stop {d n : Int} (h : ¬ 0 < d) (ls : List Term) : deepsGo d n ls = n := by cases ls <;> simp [deepsGo, h]
theorem deepM_eq (d : Int) (t : Term) : deepM d t = w64 (deepsGo d 0 t.kids + 1) := by cases t; rw [deepM]; rfl
theorem take_eq_succ {α : Type} [Inhabited α] {a b : List α} {i : Nat} (hl : a.length = b.length) (h : i < a.length) (ht : a.take i = b.take i) (he : a.getD i default = b.getD i default) : a.take (i + 1) = b.take (i + 1) := by
  rw [take_succ_getD h, take_succ_getD (by omega), ht, he]
theorem eq_of_take {α : Type} {a b : List α} {i : Nat} (hl : a.length = b.length) (h : a.length ≤ i) (ht : a.take i = b.take i) : a = b := by
  rw [List.take_of_length_le h, List.take_of_length_le (by omega)] at ht; exact ht
theorem ne_of_getD {α : Type} [Inhabited α] {a b : List α} {i : Nat} (he : a.getD i default ≠ b.getD i default) : a ≠ b := fun e => he (by rw [e])
end Sp

/- The plain functions of head: spots, sizes, steps. -/
set_option linter.unusedVariables false
namespace Sp
open Go
def spotM (t : Term) : Int × Int × Bool :=
  if t.kind = 6 then (0, 2, true) else if t.kind = 14 ∨ t.kind = 15 then (0, 1, true) else if t.kind = 18 then (4, 5, true) else if t.kind = 21 then (5, 6, true)
  else if t.kind = 24 then (w64 (t.at_ + 1), w64 (t.at_ + 2), decide (0 ≤ t.at_) && decide ((t.kids.length : Int) - 2 = t.at_)) else (0, 0, false)
def withKids (t x : Term) (at_ : Int) (n : Nat) : List Term := (List.range n).map (fun (k : Nat) => if (k : Int) = at_ then x else kid t k)
def withM (t x : Term) (at_ many : Int) : Term := .mk t.kind t.num t.at_ t.levels (withKids t x at_ many.toNat)
theorem withKids_succ (t x : Term) (at_ : Int) (n : Nat) : withKids t x at_ (n + 1) = withKids t x at_ n ++ [if (n : Int) = at_ then x else kid t n] := by
  simp [withKids, List.range_succ]
mutual
def sizedM (many : Int) (below : Int) : Term → Int
  | .mk k n _ _ ks => if k = 1 ∧ n = below then many else 1 + sizedsM many below k 0 ks
def sizedsM (many : Int) (below k : Int) (i : Nat) : List Term → Int
  | [] => 0
  | t :: ts => sizedM many (bif binds k i then below + 1 else below) t + sizedsM many below k (i + 1) ts
end
theorem sizedM_eq (many below : Int) (t : Term) : sizedM many below t = if t.kind = 1 ∧ t.num = below then many else 1 + sizedsM many below t.kind 0 t.kids := by
  cases t; rw [sizedM]; rfl
theorem sizedsM_append (many below k : Int) : ∀ (a b : List Term) (i : Nat), sizedsM many below k i (a ++ b) = sizedsM many below k i a + sizedsM many below k (i + a.length) b
  | [], b, i => by simp [sizedsM]
  | t :: a, b, i => by simp [sizedsM, sizedsM_append many below k a b (i + 1), Nat.add_assoc, Nat.add_comm 1]; omega
theorem sizedsM_take_succ (many below k : Int) {ts : List Term} {i : Nat} (h : i < ts.length) :
    sizedsM many below k 0 (ts.take (i + 1)) = sizedsM many below k 0 (ts.take i) + sizedM many (bif binds k i then below + 1 else below) (ts.getD i default) := by
  rw [take_succ_getD h, sizedsM_append]
  simp [sizedsM, List.length_take, Nat.min_eq_left (Nat.le_of_lt h)]
def sizeM (t a : Term) : Int := sizedM a.sz 0 t
mutual
theorem sizedM_nonneg {many : Int} (hm : 0 ≤ many) : ∀ (t : Term) (below : Int), 0 ≤ sizedM many below t
  | .mk k n _ _ ks, below => by
    rw [sizedM]
    split
    · exact hm
    · have := sizedsM_nonneg hm ks below k 0; omega
theorem sizedsM_nonneg {many : Int} (hm : 0 ≤ many) : ∀ (ts : List Term) (below k : Int) (i : Nat), 0 ≤ sizedsM many below k i ts
  | [], below, k, i => by simp [sizedsM]
  | t :: ts, below, k, i => by
    rw [sizedsM]
    have := sizedM_nonneg hm t (bif binds k i then below + 1 else below)
    have := sizedsM_nonneg hm ts below k (i + 1)
    omega
end
theorem sizeM_nonneg (t a : Term) : 0 ≤ sizeM t a := sizedM_nonneg (by omega) t 0
theorem T0_fit {B : Nat} : T0.fit B := by simp [T0, Term.fit, Term.fits]
theorem kid_fit {B : Nat} {t : Term} (h : t.fit B) (k : Int) : (kid t k).fit B := by
  unfold kid
  split
  · exact T0_fit
  · exact h.kid (getD_mem (by omega))
theorem kid_sz (t : Term) (k : Int) : (kid t k).sz ≤ t.sz := by
  unfold kid
  split
  · exact Term.sz_pos t
  · exact Nat.le_of_lt (Term.sz_lt (getD_mem (by omega)))
mutual
theorem sizedM_le {many : Int} (hm : 1 ≤ many) : ∀ (t : Term) (below : Int), sizedM many below t ≤ many * t.sz
  | .mk k n a ls ks, below => by
    rw [sizedM]
    have h0 : (1 : Int) ≤ (Term.sz (.mk k n a ls ks) : Int) := by have := Term.sz_pos (.mk k n a ls ks); omega
    split
    · have := Int.mul_le_mul_of_nonneg_left h0 (by omega : (0 : Int) ≤ many)
      omega
    · have h1 := sizedsM_le hm ks below k 0
      rw [Term.sz]
      push_cast
      rw [Int.mul_add]
      omega
theorem sizedsM_le {many : Int} (hm : 1 ≤ many) : ∀ (ts : List Term) (below k : Int) (i : Nat), sizedsM many below k i ts ≤ many * Term.szs ts
  | [], below, k, i => by simp [sizedsM, Term.szs]
  | t :: ts, below, k, i => by
    rw [sizedsM, Term.szs]
    have h1 := sizedM_le hm t (bif binds k i then below + 1 else below)
    have h2 := sizedsM_le hm ts below k (i + 1)
    push_cast
    rw [Int.mul_add]
    omega
end
theorem sizeM_le (t a : Term) : sizeM t a ≤ a.sz * t.sz := sizedM_le (by have := Term.sz_pos a; omega) t 0
theorem sizeM_small {t a : Term} (h1 : t.sz ≤ 268435456) (h2 : a.sz ≤ 268435456) : sizeM t a ≤ 72057594037927936 := by
  have h := sizeM_le t a
  have h3 : (a.sz : Int) * t.sz ≤ 268435456 * 268435456 := Int.mul_le_mul (by omega) (by omega) (by omega) (by omega)
  omega
def upM (t : Term) (k from_ : Int) : Term := lift (kid t k) 1 from_
def treeArgs (t s : Term) : List Term := [kid s 0, kid s 1, kid s 1, kid t 3, kid t 3, kid t 0, kid t 1, kid t 2]
def treeCost (t s : Term) : Int := 7 + (Term.szs (treeArgs t s) : Int) + sizeM (kid t 1) (kid s 0)
theorem treeArgs_sz (t s : Term) (h1 : t.sz ≤ 268435456) (h2 : s.sz ≤ 268435456) : Term.szs (treeArgs t s) ≤ 2147483648 := by
  have a0 := kid_sz s 0; have a1 := kid_sz s 1; have a2 := kid_sz t 3; have a3 := kid_sz t 0; have a4 := kid_sz t 1; have a5 := kid_sz t 2
  simp only [treeArgs, Term.szs]; omega
def treeM (t s : Term) : Term :=
  let rest : Term := .mk 18 0 0 [] [upM t 0 0, upM t 1 1, upM t 2 0, upM t 3 0, .mk 6 0 0 [] [lift (kid s 1) 1 0, .mk 1 0 0 [] []]]
  let h : Term := .mk 5 0 0 [] [put (kid t 1) [kid s 0], rest]
  .mk 6 0 0 [] [.mk 6 0 0 [] [.mk 6 0 0 [] [kid t 3, kid s 0], kid s 1], h]
def workC (left : Int) (cs : List Core) (once dn : Bool) (mb : Nat) : List D := [.int .i64 left, .slC cs, .bool once, .bool dn, .map mb]
end Sp

/- The plain functions of levels. -/
set_option linter.unusedVariables false
namespace Sp
open Go
abbrev Rows := List (Int × Int)
def encRow (rows : Rows) : List (Int × D) := rows.map fun e => (e.1, D.int .i64 e.2)
def rpos (rows : Rows) (z : Int) : Option Nat := rows.findIdx? (fun e => decide (e.1 = z))
def rget (rows : Rows) (z : Int) : Int := match rpos rows z with | some j => ((rows[j]?).map (·.2)).getD 0 | none => 0
def rset (rows : Rows) (z p : Int) : Rows := match rpos rows z with | some j => rows.set j (z, p) | none => rows ++ [(z, p)]
theorem mpos_enc (rows : Rows) (z : Int) : mpos (encRow rows) z = rpos rows z := by
  unfold mpos encRow rpos
  rw [List.findIdx?_map]; rfl
theorem mget_enc (rows : Rows) (z : Int) : (mget (encRow rows) z).getD (.int .i64 0) = .int .i64 (rget rows z) := by
  unfold mget rget
  rw [mpos_enc]
  cases hp : rpos rows z with
  | none => rfl
  | some j =>
    simp only [encRow, List.getElem?_map]
    cases rows[j]? <;> rfl
theorem mset_enc (rows : Rows) (z p : Int) : mset (encRow rows) z (.int .i64 p) = encRow (rset rows z p) := by
  unfold mset rset
  rw [mpos_enc]
  cases hp : rpos rows z with
  | none => simp [encRow]
  | some j => simp [encRow, List.map_set]
theorem encRow_get {rows : Rows} {j : Nat} {e : Int × D} (h : (encRow rows)[j]? = some e) : ∃ r, rows[j]? = some r ∧ e = (r.1, .int .i64 r.2) := by
  unfold encRow at h
  rw [List.getElem?_map] at h
  cases hr : rows[j]? with
  | none => rw [hr] at h; cases h
  | some r => rw [hr] at h; cases h; exact ⟨r, rfl, rfl⟩
theorem encRow_len (rows : Rows) : (encRow rows).length = rows.length := by simp [encRow]
def badPart (p : Part) : Prop := p.v < 0 ∨ p.p < 0 ∨ 1048576 < p.v ∨ 1048576 < p.p
instance (p : Part) : Decidable (badPart p) := by unfold badPart; infer_instance
def rowPut : Rows → List Part → Option Rows
  | rows, [] => some rows
  | rows, p :: ps => if badPart p then none else rowPut (rset rows p.v (max (rget rows p.v) p.p)) ps
def hiddenM (rows : Rows) (n : Int) : Bool := rows.any fun e => decide (0 < e.1) && decide (n ≤ e.2)
theorem nodup_lt_length : ∀ {n : Nat} {l : List Nat}, l.Nodup → (∀ i ∈ l, i < n) → l.length ≤ n
  | 0, l, _, hl => by
    cases l with
    | nil => simp
    | cons a l => exact absurd (hl a (by simp)) (Nat.not_lt_zero _)
  | n + 1, l, h, hl => by
    have ih := nodup_lt_length (n := n) (l := l.erase n) (h.erase n) (fun i hi => by
      have h1 := hl i (List.mem_of_mem_erase hi)
      have h2 : i ≠ n := fun e => by subst e; exact (List.Nodup.mem_erase_iff h).1 hi |>.1 rfl
      omega)
    have := List.length_erase (a := n) (l := l)
    rw [this] at ih
    split at ih <;> omega
theorem hidden_of {rows : Rows} {n : Int} {j : Nat} {r : Int × Int} (hr : rows[j]? = some r) (h1 : 0 < r.1) (h2 : n ≤ r.2) : hiddenM rows n = true :=
  List.any_eq_true.2 ⟨r, List.mem_of_getElem? hr, by simp [h1, h2]⟩
theorem not_hidden {rows : Rows} {n : Int} (h : ∀ (j : Nat) r, rows[j]? = some r → ¬ (0 < r.1 ∧ n ≤ r.2)) : hiddenM rows n = false := by
  rw [hiddenM, List.any_eq_false]
  intro r hr hc
  obtain ⟨j, hj⟩ := List.mem_iff_getElem?.1 hr
  exact h j r hj (by simpa using hc)
theorem rowPut_append : ∀ (a b : List Part) (rows : Rows), rowPut rows (a ++ b) = (rowPut rows a).bind (fun r => rowPut r b)
  | [], b, rows => rfl
  | p :: a, b, rows => by
    rw [List.cons_append, rowPut, rowPut]
    split
    · rfl
    · exact rowPut_append a b _
theorem rowPut_step {r r2 : Rows} {a : Part} {rest : List Part} (h : rowPut r [a] = some r2) : rowPut r (a :: rest) = rowPut r2 rest := by
  have := rowPut_append [a] rest r
  rw [List.singleton_append, h] at this; exact this
theorem rowPut_stop {r : Rows} {a : Part} {rest : List Part} (h : rowPut r [a] = none) : rowPut r (a :: rest) = none := by
  have := rowPut_append [a] rest r
  rw [List.singleton_append, h] at this; exact this
def RowsOk (rows : Rows) : Prop := (rows.map (·.1)).Nodup ∧ ∀ e ∈ rows, 0 ≤ e.1 ∧ e.1 ≤ 1048576
theorem RowsOk.len {rows : Rows} (h : RowsOk rows) : rows.length ≤ 1048577 := by
  have h1 : ((rows.map (·.1)).map Int.toNat).Nodup := by
    rw [List.Nodup, List.pairwise_map]
    refine List.Pairwise.imp_of_mem ?_ h.1
    intro a b ha hb hne e
    obtain ⟨x, hx, rfl⟩ := List.mem_map.1 ha
    obtain ⟨y, hy, rfl⟩ := List.mem_map.1 hb
    have := h.2 x hx; have := h.2 y hy
    exact hne (by omega)
  have := nodup_lt_length (n := 1048577) h1 (fun i hi => by
    obtain ⟨z, hz, rfl⟩ := List.mem_map.1 hi
    obtain ⟨x, hx, rfl⟩ := List.mem_map.1 hz
    have := h.2 x hx; omega)
  simpa using this
theorem rset_keys (rows : Rows) (z p : Int) : (rset rows z p).map (·.1) = if z ∈ rows.map (·.1) then rows.map (·.1) else rows.map (·.1) ++ [z] := by
  unfold rset
  cases hp : rpos rows z with
  | none =>
    have hn : z ∉ rows.map (·.1) := by
      intro hm
      obtain ⟨e, he, rfl⟩ := List.mem_map.1 hm
      have := List.findIdx?_eq_none_iff.1 hp e he
      simp at this
    simp [hn]
  | some j =>
    obtain ⟨hj, hjz, _⟩ := List.findIdx?_eq_some_iff_getElem.1 hp
    have hjz : rows[j].1 = z := by simpa using hjz
    have hm : z ∈ rows.map (·.1) := List.mem_map.2 ⟨rows[j], List.getElem_mem hj, hjz⟩
    rw [if_pos hm, List.map_set]
    exact set_same (by rw [List.getElem?_map, List.getElem?_eq_getElem hj]; simp [hjz])
theorem RowsOk.set {rows : Rows} (h : RowsOk rows) {z p : Int} (hz : 0 ≤ z ∧ z ≤ 1048576) : RowsOk (rset rows z p) := by
  have hk := rset_keys rows z p
  constructor
  · rw [hk]
    split
    · exact h.1
    · rename_i hn
      refine List.nodup_append.2 ⟨h.1, by simp, fun a ha b hb => by rw [List.mem_singleton.1 hb]; exact fun e => hn (e ▸ ha)⟩
  · intro e he
    have : e.1 ∈ (rset rows z p).map (·.1) := List.mem_map.2 ⟨e, he, rfl⟩
    rw [hk] at this
    split at this
    · obtain ⟨x, hx, hxe⟩ := List.mem_map.1 this; rw [← hxe]; exact h.2 x hx
    · rcases List.mem_append.1 this with h1 | h1
      · obtain ⟨x, hx, hxe⟩ := List.mem_map.1 h1; rw [← hxe]; exact h.2 x hx
      · rw [List.mem_singleton.1 h1]; exact hz
theorem RowsOk.put : ∀ {ps : List Part} {rows rows' : Rows}, RowsOk rows → rowPut rows ps = some rows' → RowsOk rows'
  | [], rows, rows', h, e => by simp [rowPut] at e; subst e; exact h
  | p :: ps, rows, rows', h, e => by
    rw [rowPut] at e
    split at e
    · cases e
    · rename_i hb
      unfold badPart at hb
      exact RowsOk.put (h.set (by omega)) e
theorem RowsOk.nil : RowsOk [] := ⟨List.nodup_nil, fun e h => by cases h⟩
def keysM (rows : Rows) : List Int := (rows.map (·.1)).mergeSort (fun x y => decide (x ≤ y))
def partOf (rows : Rows) (v : Int) : Option Part := if 0 < v ∨ (0 < rget rows v ∧ hiddenM rows (rget rows v) = false) then some ⟨v, rget rows v⟩ else none
def levelM (rows : Rows) : Level := (keysM rows).filterMap (partOf rows)
theorem keysM_len (rows : Rows) : (keysM rows).length = rows.length := by simp [keysM]
theorem parts_take_succ {rows : Rows} {i : Nat} (h : i < (keysM rows).length) :
    ((keysM rows).take (i + 1)).filterMap (partOf rows) = ((keysM rows).take i).filterMap (partOf rows) ++ (partOf rows ((keysM rows).getD i default)).toList := by
  rw [take_succ_getD h, List.filterMap_append]
  simp only [List.filterMap_cons, List.filterMap_nil]
  cases partOf rows ((keysM rows).getD i default) <;> rfl
theorem parts_len (rows : Rows) (i : Nat) : (((keysM rows).take i).filterMap (partOf rows)).length ≤ i := Nat.le_trans (List.length_filterMap_le _ _) (by simp; omega)
def ofRows : Option Rows → Level | some r => levelM r | none => []
def normM (l : Level) : Level := ofRows (rowPut [] l)
theorem levelM_len (rows : Rows) : (levelM rows).length ≤ rows.length := by
  have := List.length_filterMap_le (partOf rows) (keysM rows)
  rw [keysM_len] at this; exact this
theorem normM_len (l : Level) : (normM l).length ≤ 1048577 := by
  unfold normM ofRows
  cases h : rowPut [] l with
  | none => simp
  | some r => exact Nat.le_trans (levelM_len r) (RowsOk.nil.put h).len
def xOf (by_ : List Level) (p : Part) : List Part := if 0 < p.v ∧ p.v ≤ (by_.length : Int) then normM (by_.getD (p.v - 1).toNat default) else []
def xOf1 (by_ : List Level) (p : Part) : List Part := if xOf by_ p = [] then [(⟨0, 0⟩ : Part)] else xOf by_ p
def shiftP (p q : Part) : Part := ⟨q.v, w64 (q.p + p.p)⟩
def putParts (l : Level) (by_ : List Level) : List Part := (normM l).flatMap fun p => (xOf1 by_ p).map (shiftP p)
def levelPutM (l : Level) (by_ : List Level) : Level := ofRows (rowPut [] (putParts l by_))
def levelsG (by_ : List Level) (_ : Int) (t : Term) : Term := .mk t.kind t.num t.at_ (t.levels.map (fun l => levelPutM l by_)) t.kids
def levelsM (t : Term) (by_ : List Level) : Term := walkM (levelsG by_) no 0 t
def C0 : Core := ⟨0, T0, false, T0⟩
def coreAtM (cs : List Core) (num : Int) (ls : List Level) : Core × Bool := if 0 ≤ num ∧ num < cs.length ∧ (cs.getD num.toNat default).levels = ls.length then (cs.getD num.toNat default, true) else (C0, false)
def bodyM (cs : List Core) (num : Int) (ls : List Level) : Term × Bool := if (coreAtM cs num ls).2 = true ∧ (coreAtM cs num ls).1.has = true then (levelsM (coreAtM cs num ls).1.body ls, true) else (T0, false)
theorem coreAt_mem (cs : List Core) (num : Int) (ls : List Level) {B S : Nat} (h : ∀ c ∈ cs, c.body.fit B ∧ c.body.sz ≤ S + 1) : (coreAtM cs num ls).1.body.fit B ∧ (coreAtM cs num ls).1.body.sz ≤ S + 1 := by
  unfold coreAtM
  split
  · exact h _ (getD_mem (by omega))
  · exact ⟨T0_fit, by simp [C0, T0, Term.sz, Term.szs]⟩
theorem leC0 : D.Le (.agg [.int .i64 0, .int .i64 0, .int .i64 0, .int .i64 0, .emp, .emp, .bool false, .int .i64 0, .int .i64 0, .int .i64 0, .emp, .emp]) (encC C0) :=
  aggLe (.cons (.refl _) (.cons (.refl _) (.cons (.refl _) (.cons (.refl _) (.cons (.emp _ rfl) (.cons (.emp _ rfl) (.cons (.refl _) (.cons (.refl _) (.cons (.refl _) (.cons (.refl _) (.cons (.emp _ rfl) (.cons (.emp _ rfl) .nil))))))))))))
section
variable {X : PT} {ρ : Operand → D} {L L' : Loc} {dst : Option Tmp} {ty : TypeId} {pos : String} {after : Array Edge} {guard : Option (Nat × Bool)} {K Kp : D → Loc → Prop}
theorem AVal.lookupRow {x y : Operand} {b : Nat} {z : Int} {rows : Rows} {t e : TypeId} (k : Nat) (hx : ρ x = .map b) (hk : L[k]? = some (b, .map (encRow rows))) (hy : ρ y = .int .i64 z) (ht : mapB X.P t e = true) (hz : zeroB X.P e (.int .i64 0) = true) :
    AVal X ⟨dst, .lookup t x y false, ty, pos, after, guard⟩ ρ L (.int .i64 (rget rows z)) := by
  rw [← mget_enc]; exact AVal.lookupN k hx hk hy ht hz
theorem AOp.updateRow {x y v : Operand} {b : Nat} {z p : Int} {rows : Rows} {t e : TypeId} (k : Nat) (hx : ρ x = .map b) (hk : L[k]? = some (b, .map (encRow rows))) (hy : ρ y = .int .i64 z) (ht : mapB X.P t e = true) (hv : ρ v = .int .i64 p)
    (hs' : NmL (L.set k (b, .map (encRow (rset rows z p)))) L') (h : K .any L') : AOp X ⟨dst, .mapUpdate t x y v, ty, pos, after, guard⟩ ρ L K Kp :=
  AOp.mapUpdateN (d := .int .i64 p) k hx hk hy ht (by rw [hv]; exact .int _ _) (mset_enc rows z p) hs' h
end
end Sp

/- The plain functions of head: a term's own step, the first step, the way to the head. -/
set_option linter.unusedVariables false
set_option linter.unusedSimpArgs false
namespace Sp
open Go
def spotOf (k a l : Int) : Int × Int × Bool :=
  if k = 6 then (0, 2, true) else if k = 14 ∨ k = 15 then (0, 1, true) else if k = 18 then (4, 5, true) else if k = 21 then (5, 6, true)
  else if k = 24 then (w64 (a + 1), w64 (a + 2), decide (0 ≤ a) && decide (l - 2 = a)) else (0, 0, false)
theorem spotM_of (t : Term) : spotM t = spotOf t.kind t.at_ t.kids.length := rfl
theorem spotOf_range {k a : Int} {n : Nat} (h : (spotOf k a n).2.2 = true) (hl : n ≤ 4611686018427387904) :
    0 ≤ (spotOf k a n).1 ∧ (spotOf k a n).1 < (spotOf k a n).2.1 ∧
      (k ≠ 24 ∧ (spotOf k a n).2.1 ≤ 6 ∨ k = 24 ∧ (spotOf k a n).2.1 = n ∧ a = (n : Int) - 2 ∧ (spotOf k a n).1 = a + 1) := by
  unfold spotOf at h ⊢
  by_cases e1 : k = 6
  · simp [e1]
  by_cases e2 : k = 14 ∨ k = 15
  · simp only [e1, e2, if_true, if_false]; refine ⟨by omega, by omega, .inl ⟨by omega, by omega⟩⟩
  by_cases e3 : k = 18
  · simp [e3]
  by_cases e4 : k = 21
  · simp [e4]
  by_cases e5 : k = 24
  · simp only [e1, e2, e3, e4, e5, if_true, if_false, Bool.and_eq_true, decide_eq_true_eq] at h ⊢
    simp at h ⊢
    rw [w64_id (by omega) (by omega), w64_id (by omega) (by omega)]
    omega
  · simp only [e1, e2, e3, e4, e5, if_false] at h
    cases h
theorem spotOf_with {k a : Int} {n : Nat} (h : (spotOf k a n).2.2 = true) (hl : n ≤ 4611686018427387904) : spotOf k a ((spotOf k a n).2.1.toNat : Nat) = spotOf k a n := by
  obtain ⟨h0, h1, h2⟩ := spotOf_range h hl
  by_cases e5 : k = 24
  · rcases h2 with h2 | h2
    · exact absurd e5 h2.1
    · rw [h2.2.1, Int.toNat_natCast]
  · unfold spotOf
    simp only [e5, if_false]
theorem spot_range {t : Term} (h : (spotM t).2.2 = true) (hl : t.kids.length ≤ 4611686018427387904) :
    0 ≤ (spotM t).1 ∧ (spotM t).1 < (spotM t).2.1 ∧ (t.kind ≠ 24 ∧ (spotM t).2.1 ≤ 6 ∨ t.kind = 24 ∧ (spotM t).2.1 = t.kids.length ∧ t.at_ = (t.kids.length : Int) - 2 ∧ (spotM t).1 = t.at_ + 1) :=
  spotOf_range h hl
theorem spot_many {t : Term} (h : (spotM t).2.2 = true) {B : Nat} (hl : t.kids.length ≤ B) (hB : 6 ≤ B) (hB2 : B ≤ 4611686018427387904) : (spotM t).2.1 ≤ B := by
  obtain ⟨_, _, h2⟩ := spot_range h (by omega)
  omega
theorem with_kids_len (t x : Term) (a m : Int) : (withM t x a m).kids.length = m.toNat := by simp [withM, Term.kids, withKids]
theorem spot_with {t : Term} (x : Term) (h : (spotM t).2.2 = true) (hl : t.kids.length ≤ 4611686018427387904) :
    spotM (withM t x (spotM t).1 (spotM t).2.1) = spotM t := by
  have := spotOf_with h hl
  rw [spotM_of (withM t x _ _), with_kids_len]
  exact this
theorem withKids_get (t x : Term) (a : Int) (n k : Nat) (h : k < n) : (withKids t x a n)[k]? = some (if (k : Int) = a then x else kid t k) := by
  simp [withKids, List.getElem?_map, List.getElem?_range h]
theorem kid_with {t x : Term} {a m : Int} (k : Int) (h0 : 0 ≤ k) (h1 : k < m) : kid (withM t x a m) k = if k = a then x else kid t k := by
  unfold kid
  rw [with_kids_len, if_neg (by omega)]
  show (withKids t x a m.toNat).getD k.toNat default = _
  rw [List.getD_eq_getElem?_getD, withKids_get t x a _ _ (by omega)]
  simp only [Option.getD_some]
  rw [show ((k.toNat : Nat) : Int) = k by omega]
  rfl
theorem with_with {t x y : Term} {a m : Int} : withM (withM t x a m) y a m = withM t y a m := by
  unfold withM
  simp only [Term.kind, Term.num, Term.at_, Term.levels]
  congr 1
  apply List.ext_getElem?
  intro k
  by_cases h : k < m.toNat
  · rw [withKids_get _ _ _ _ _ h, withKids_get _ _ _ _ _ h]
    congr 1
    split
    · rfl
    · rename_i hk
      have := kid_with (t := t) (x := x) (a := a) (m := m) (k : Int) (by omega) (by omega)
      exact this.trans (if_neg hk)
  · rw [List.getElem?_eq_none (by simp [withKids]; omega), List.getElem?_eq_none (by simp [withKids]; omega)]
def place (t : Term) : Term := bif (spotM t).2.2 then kid t (spotM t).1 else T0
def ownStep (cs : List Core) (t : Term) : Option (Term × Int) :=
  if t.kind = 6 then (if (place t).kind = 5 then some (put (kid (place t) 1) [kid t 1], sizeM (kid (place t) 1) (kid t 1)) else none)
  else if t.kind = 14 ∨ t.kind = 15 then (if (place t).kind = 13 then some (kid (place t) (if t.kind = 15 then 1 else 0), ((kid (place t) (if t.kind = 15 then 1 else 0)).sz : Int)) else none)
  else if t.kind = 7 then some (put (kid t 2) [kid t 1], sizeM (kid t 2) (kid t 1))
  else if t.kind = 3 then (if (bodyM cs t.num t.levels).2 = true then some ((bodyM cs t.num t.levels).1, ((bodyM cs t.num t.levels).1.sz : Int)) else none)
  else if t.kind = 18 then (if (place t).kind = 17 then some (treeM t (place t), treeCost t (place t)) else none)
  else if t.kind = 21 then (if (place t).kind = 20 then some (kid t 3, ((kid t 3).sz : Int)) else none)
  else if t.kind = 24 then (if (spotM t).2.2 = true ∧ ((place t).kind = 23 ∧ 0 ≤ (place t).num ∧ (place t).num < t.at_) then some (kid t ((place t).num + 1), ((kid t ((place t).num + 1)).sz : Int)) else none)
  else none
def spz (t : Term) : Nat := if (spotM t).2.2 = true then t.sz else 0
theorem spot_T0 : (spotM T0).2.2 = false := by simp [spotM, T0, Term.kind]
theorem kid_lt {t : Term} {k : Int} (h : ¬ (k < 0 ∨ (t.kids.length : Int) ≤ k)) : (kid t k).sz < t.sz := by
  unfold kid; rw [if_neg h]; exact Term.sz_lt (getD_mem (by omega))
theorem spz_kid {t : Term} (h : (spotM t).2.2 = true) : spz (kid t (spotM t).1) < spz t := by
  have hp := Term.sz_pos t
  rw [spz, spz, if_pos h]
  split
  · rename_i h2
    by_cases hk : (spotM t).1 < 0 ∨ (t.kids.length : Int) ≤ (spotM t).1
    · rw [kid, if_pos hk, spot_T0] at h2; cases h2
    · exact kid_lt hk
  · omega
def pad (t : Term) : Term :=
  if h : (spotM t).2.2 = true then withM t (pad (kid t (spotM t).1)) (spotM t).1 (spotM t).2.1 else t
termination_by spz t
decreasing_by exact spz_kid h
def stepOnce (cs : List Core) (t : Term) : Option (Term × Int) :=
  if h : (spotM t).2.2 = true then
    match stepOnce cs (kid t (spotM t).1) with
    | some (k, c) => some (withM t k (spotM t).1 (spotM t).2.1, c)
    | none => ownStep cs (withM t (pad (kid t (spotM t).1)) (spotM t).1 (spotM t).2.1)
  else ownStep cs t
termination_by spz t
decreasing_by exact spz_kid h
def multi (cs : List Core) (t : Term) (F : Int) (dn : Bool) : Bool × Term × Int × Bool :=
  match stepOnce cs t with
  | none => (true, pad t, F, dn)
  | some (u, c) => if h : 1 ≤ c ∧ c ≤ F then multi cs u (F - c) true else (false, T0, F, dn)
termination_by F.toNat
decreasing_by omega
theorem pad_T {t : Term} (h : (spotM t).2.2 = true) : pad t = withM t (pad (kid t (spotM t).1)) (spotM t).1 (spotM t).2.1 := by rw [pad, dif_pos h]
theorem pad_F {t : Term} (h : (spotM t).2.2 = false) : pad t = t := by rw [pad, dif_neg (by simp [h])]
theorem once_F {cs : List Core} {t : Term} (h : (spotM t).2.2 = false) : stepOnce cs t = ownStep cs t := by rw [stepOnce, dif_neg (by simp [h])]
theorem once_some {cs : List Core} {t k : Term} {c : Int} (h : (spotM t).2.2 = true) (hk : stepOnce cs (kid t (spotM t).1) = some (k, c)) :
    stepOnce cs t = some (withM t k (spotM t).1 (spotM t).2.1, c) := by rw [stepOnce, dif_pos h, hk]
theorem once_none {cs : List Core} {t : Term} (h : (spotM t).2.2 = true) (hk : stepOnce cs (kid t (spotM t).1) = none) :
    stepOnce cs t = ownStep cs (pad t) := by rw [stepOnce, dif_pos h, hk, pad_T h]
theorem multi_none {cs : List Core} {t : Term} {F : Int} {dn : Bool} (h : stepOnce cs t = none) : multi cs t F dn = (true, pad t, F, dn) := by rw [multi, h]
theorem multi_some {cs : List Core} {t u : Term} {F c : Int} {dn : Bool} (h : stepOnce cs t = some (u, c)) (h1 : 1 ≤ c ∧ c ≤ F) : multi cs t F dn = multi cs u (F - c) true := by rw [multi, h]; simp only [dif_pos h1]
theorem multi_gone {cs : List Core} {t u : Term} {F c : Int} {dn : Bool} (h : stepOnce cs t = some (u, c)) (h1 : ¬ (1 ≤ c ∧ c ≤ F)) : multi cs t F dn = (false, T0, F, dn) := by rw [multi, h]; simp only [dif_neg h1]
def rest (cs : List Core) (t : Term) (F : Int) (dn : Bool) : Bool × Term × Int × Bool :=
  match ownStep cs t with
  | none => (true, t, F, dn)
  | some (u, c) => if 1 ≤ c ∧ c ≤ F then multi cs u (F - c) true else (false, T0, F, dn)
theorem multi_F {cs : List Core} {t : Term} {F : Int} {dn : Bool} (h : (spotM t).2.2 = false) : multi cs t F dn = rest cs t F dn := by
  rw [multi, once_F h, rest]
  cases ownStep cs t with
  | none => simp only [pad_F h]
  | some p => obtain ⟨u, c⟩ := p; simp only [dite_eq_ite]
def after (cs : List Core) (t : Term) (r : Bool × Term × Int × Bool) : Bool × Term × Int × Bool :=
  bif r.1 then rest cs (withM t r.2.1 (spotM t).1 (spotM t).2.1) r.2.2.1 r.2.2.2 else (false, T0, r.2.2.1, r.2.2.2)
theorem multi_T {cs : List Core} : ∀ (n : Nat) {t : Term} {F : Int} {dn : Bool}, F.toNat = n → (spotM t).2.2 = true → t.kids.length ≤ 4611686018427387904 →
    multi cs t F dn = after cs t (multi cs (kid t (spotM t).1) F dn) := by
  intro n
  induction n using Nat.strongRecOn with
  | _ n ih =>
    intro t F dn hF h hl
    cases hk : stepOnce cs (kid t (spotM t).1) with
    | none =>
      rw [multi_none hk, multi, once_none h hk]
      simp only [after, cond_true, ← pad_T h, rest]
      cases ownStep cs (pad t) with
      | none => rfl
      | some p => obtain ⟨u, c⟩ := p; simp only [dite_eq_ite]
    | some p =>
      obtain ⟨k, c⟩ := p
      have ho := once_some h hk
      by_cases hc : 1 ≤ c ∧ c ≤ F
      · rw [multi_some ho hc, multi_some hk hc]
        have hs := spot_with k h hl
        obtain ⟨r0, r1, _⟩ := spot_range h hl
        have hkk : kid (withM t k (spotM t).1 (spotM t).2.1) (spotM t).1 = k := by rw [kid_with _ r0 r1, if_pos rfl]
        have hl2 : (withM t k (spotM t).1 (spotM t).2.1).kids.length ≤ 4611686018427387904 := by
          rw [with_kids_len]
          have := spot_many h hl (by omega) (by omega)
          omega
        have := ih (F - c).toNat (by omega) (t := withM t k (spotM t).1 (spotM t).2.1) (F := F - c) (dn := true) rfl (by rw [hs]; exact h) hl2
        rw [this]
        simp only [hs, hkk, after, with_with]
      · rw [multi_gone ho hc, multi_gone hk hc]; rfl
end Sp

/- How great the terms are on the way to the head. -/
set_option linter.unusedVariables false
set_option linter.unusedSimpArgs false
namespace Sp
open Go
mutual
theorem walkM_sz_no (g : Int → Term → Term) : ∀ (t : Term) (b : Int), (walkM g no b t).sz = t.sz
  | .mk k n a ls ks, b => by
    rw [walkM]
    simp only [no, cond_false, Term.sz, walkMs_sz_no g ks b k 0]
theorem walkMs_sz_no (g : Int → Term → Term) : ∀ (ts : List Term) (b k : Int) (i : Nat), Term.szs (walkMs g no b k i ts) = Term.szs ts
  | [], b, k, i => by simp [walkMs]
  | t :: ts, b, k, i => by rw [walkMs, Term.szs, Term.szs, walkM_sz_no g t, walkMs_sz_no g ts b k (i + 1)]
end
theorem lift_sz (t : Term) (n f : Int) : (lift t n f).sz = t.sz := walkM_sz_no _ t 0
theorem levelsM_sz (t : Term) (by_ : List Level) : (levelsM t by_).sz = t.sz := walkM_sz_no _ t 0
theorem putHit1 (a : Term) (b : Int) (t : Term) : putHit [a] b t = true ↔ t.kind = 1 ∧ t.num = b := by
  simp only [putHit, Bool.and_eq_true, decide_eq_true_eq, List.length_cons, List.length_nil]
  omega
theorem putG_hit {a : Term} {b : Int} {t : Term} (h : putHit [a] b t = true) : putG [a] b t = lift a b 0 := by
  have hh := (putHit1 a b t).1 h
  unfold putG
  rw [if_pos h]
  simp only [List.length_cons, List.length_nil]
  rw [show (((0 + 1 : Nat) : Int) - 1 - (t.num - b)).toNat = 0 by omega]
  rfl
theorem putG_num {a : Term} {b : Int} {t : Term} (h : putHit [a] b t = false) : putG [a] b t = if t.kind = 1 ∧ b ≤ t.num then .mk t.kind (t.num - 1) t.at_ t.levels t.kids else t := by
  unfold putG; rw [h, if_neg (by simp)]; rfl
mutual
theorem walkPut_sz (a : Term) : ∀ (t : Term) (b : Int), ((walkM (putG [a]) (putHit [a]) b t).sz : Int) = sizedM a.sz b t
  | .mk k n at_ ls ks, b => by
    rw [walkM, sizedM]
    cases h : putHit [a] b (.mk k n at_ ls ks) with
    | true =>
      have hh := (putHit1 _ _ _).1 h
      have hh' : k = 1 ∧ n = b := hh
      rw [cond_true, putG_hit h, lift_sz, if_pos hh']
    | false =>
      have hh : ¬ (k = 1 ∧ n = b) := fun e => by rw [(putHit1 a b (.mk k n at_ ls ks)).2 e] at h; cases h
      rw [cond_false, if_neg hh]
      simp only [Term.sz]
      have := walkPuts_sz a ks b k 0
      omega
theorem walkPuts_sz (a : Term) : ∀ (ts : List Term) (b k : Int) (i : Nat), (Term.szs (walkMs (putG [a]) (putHit [a]) b k i ts) : Int) = sizedsM a.sz b k i ts
  | [], b, k, i => by simp [walkMs, sizedsM, Term.szs]
  | t :: ts, b, k, i => by
    rw [walkMs, sizedsM, Term.szs]
    have h1 := walkPut_sz a t (bif binds k i then b + 1 else b)
    have h2 := walkPuts_sz a ts b k (i + 1)
    push_cast
    omega
end
theorem put_sz (t a : Term) : ((put t [a]).sz : Int) = sizeM t a := walkPut_sz a t 0
theorem sizeM_pos (t a : Term) : 1 ≤ sizeM t a := by
  rw [← put_sz]; have := Term.sz_pos (put t [a]); omega
mutual
theorem walkM_fit {B : Nat} {g : Int → Term → Term} {dn : Int → Term → Bool} (hg : ∀ b t, 0 ≤ b → t.fit B → (g b t).fit B) : ∀ (t : Term) (b : Int), 0 ≤ b → t.fit B → (walkM g dn b t).fit B
  | .mk k n a ls ks, b, hb, h => by
    rw [walkM]
    have h1 := hg b _ hb h
    cases dn b (.mk k n a ls ks) with
    | true => exact h1
    | false =>
      rw [cond_false]
      have hf := Term.fit_iff.1 h
      simp only [Term.fit]
      refine ⟨h1.llen, fun l hl => h1.plen hl, ?_, Term.fits_iff.2 (walkMs_fit hg ks b k 0 hb (fun t ht => hf.2.2.2.1 t ht)), h1.nr, h1.atr⟩
      rw [walkMs_length]; exact hf.2.2.1
theorem walkMs_fit {B : Nat} {g : Int → Term → Term} {dn : Int → Term → Bool} (hg : ∀ b t, 0 ≤ b → t.fit B → (g b t).fit B) : ∀ (ts : List Term) (b k : Int) (i : Nat), 0 ≤ b → (∀ t ∈ ts, t.fit B) → ∀ u ∈ walkMs g dn b k i ts, u.fit B
  | [], b, k, i, hb, h, u, hu => by simp [walkMs] at hu
  | t :: ts, b, k, i, hb, h, u, hu => by
    rw [walkMs] at hu
    rcases List.mem_cons.1 hu with rfl | hu
    · exact walkM_fit hg t _ (by cases binds k i <;> simp only [cond_true, cond_false] <;> omega) (h t (by simp))
    · exact walkMs_fit hg ts b k (i + 1) hb (fun t ht => h t (by simp [ht])) u hu
end
theorem lift_fit {B : Nat} {t : Term} (h : t.fit B) (n f : Int) : (lift t n f).fit B :=
  walkM_fit (fun b u hb hu => by unfold liftG; split; exact hu.renum (w64_range _); exact hu) t 0 (by omega) h
theorem put_fit {B : Nat} {t a : Term} (h : t.fit B) (ha : a.fit B) : (put t [a]).fit B :=
  walkM_fit (fun b u hb hu => by
    cases hh : putHit [a] b u with
    | true => rw [putG_hit hh]; exact lift_fit ha _ _
    | false =>
      rw [putG_num hh]
      have := hu.nr
      split
      · exact hu.renum (by omega)
      · exact hu) t 0 (by omega) h
theorem levelPutM_len (l : Level) (by_ : List Level) : (levelPutM l by_).length ≤ 1048577 := by
  unfold levelPutM ofRows
  cases h : rowPut [] (putParts l by_) with
  | none => simp
  | some r => exact Nat.le_trans (levelM_len r) (RowsOk.nil.put h).len
theorem levelsM_fit {B : Nat} (hB : 1048577 ≤ B) {t : Term} (h : t.fit B) (by_ : List Level) : (levelsM t by_).fit B :=
  walkM_fit (fun b u hb hu => by
    have hf := Term.fit_iff.1 hu
    refine Term.fit_iff.2 ⟨?_, ?_, hf.2.2.1, hf.2.2.2.1, hf.2.2.2.2⟩
    · show (u.levels.map _).length ≤ B
      rw [List.length_map]; exact hf.1
    · intro l hl
      obtain ⟨x, _, rfl⟩ := List.mem_map.1 (show l ∈ u.levels.map (fun l => levelPutM l by_) from hl)
      exact Nat.le_trans (levelPutM_len _ _) hB) t 0 (by omega) h
theorem mk_fit {B : Nat} {k n a : Int} {ks : List Term} (hl : ks.length ≤ B) (hk : ∀ t ∈ ks, t.fit B) (hn : -9223372036854775808 ≤ n ∧ n ≤ 9223372036854775807) (ha : a ≤ 9223372036854775807 := by omega) : (Term.mk k n a [] ks).fit B :=
  Term.fit_iff.2 ⟨Nat.zero_le _, (fun l hl => by cases hl), hl, hk, hn, ha⟩
theorem with_fit {B : Nat} {t x : Term} (h : t.fit B) (hx : x.fit B) (a m : Int) (hm : m ≤ B) : (withM t x a m).fit B := by
  refine Term.fit_iff.2 ⟨h.llen, fun l hl => h.plen hl, ?_, ?_, h.nr, h.atr⟩
  · rw [with_kids_len]; omega
  · intro k hk
    obtain ⟨i, _, rfl⟩ := List.mem_map.1 (show k ∈ withKids t x a m.toNat from hk)
    split
    · exact hx
    · exact kid_fit h _
theorem tree_fit {B : Nat} (hB : 8 ≤ B) {t s : Term} (h : t.fit B) (hs : s.fit B) : (treeM t s).fit B := by
  have z : (-9223372036854775808 : Int) ≤ 0 ∧ (0 : Int) ≤ 9223372036854775807 := by omega
  have c2 : ∀ (k : Int) (a b : Term), a.fit B → b.fit B → (Term.mk k 0 0 [] [a, b]).fit B := fun k a b ha hb =>
    mk_fit (by simp; omega) (fun t ht => by simp at ht; rcases ht with rfl | rfl <;> assumption) z
  unfold treeM
  have hv : (Term.mk 1 0 0 [] []).fit B := mk_fit (by simp) (fun t ht => by cases ht) z
  refine c2 6 _ _ (c2 6 _ _ (c2 6 _ _ (kid_fit h _) (kid_fit hs _)) (kid_fit hs _)) (c2 5 _ _ (put_fit (kid_fit h _) (kid_fit hs _)) (mk_fit (by simp; omega) (fun u hu => ?_) z))
  simp only [List.mem_cons, List.not_mem_nil, or_false] at hu
  rcases hu with rfl | rfl | rfl | rfl | rfl
  · exact lift_fit (kid_fit h _) _ _
  · exact lift_fit (kid_fit h _) _ _
  · exact lift_fit (kid_fit h _) _ _
  · exact lift_fit (kid_fit h _) _ _
  · exact c2 6 _ _ (lift_fit (kid_fit hs _) _ _) hv
theorem tree_sz (t s : Term) : ((treeM t s).sz : Int) = treeCost t s := by
  unfold treeM treeCost treeArgs upM
  simp only [Term.sz, Term.szs, lift_sz]
  have := put_sz (kid t 1) (kid s 0)
  omega
theorem place_fit {B : Nat} {t : Term} (h : t.fit B) : (place t).fit B := by
  unfold place; cases (spotM t).2.2 <;> simp only [cond_true, cond_false]
  · exact T0_fit
  · exact kid_fit h _
theorem place_sz (t : Term) : (place t).sz ≤ t.sz := by
  unfold place; cases (spotM t).2.2 <;> simp only [cond_true, cond_false]
  · exact Term.sz_pos t
  · exact kid_sz _ _
def CoresOk (cs : List Core) : Prop := ∀ c ∈ cs, c.body.fit 1099511627776 ∧ c.body.sz ≤ 268435456
theorem body_ok {cs : List Core} (h : CoresOk cs) (n : Int) (ls : List Level) : (bodyM cs n ls).1.fit 1099511627776 ∧ (bodyM cs n ls).1.sz ≤ 268435456 := by
  unfold bodyM
  split
  · have := coreAt_mem (S := 268435455) cs n ls h
    exact ⟨levelsM_fit (by omega) this.1 _, by rw [levelsM_sz]; exact this.2⟩
  · exact ⟨T0_fit, by simp [T0, Term.sz, Term.szs]⟩
theorem own_ok {cs : List Core} (hc : CoresOk cs) {t u : Term} {c : Int} (ht : t.fit 1099511627776) (hs : t.sz ≤ 268435456) (h : ownStep cs t = some (u, c)) :
    1 ≤ c ∧ (u.sz : Int) = c ∧ u.fit 1099511627776 ∧ c ≤ 72057596190000000 := by
  have hp := place_fit ht
  have hps := place_sz t
  have kz : ∀ k, (kid t k).sz ≤ 268435456 := fun k => Nat.le_trans (kid_sz t k) hs
  have pz : ∀ k, (kid (place t) k).sz ≤ 268435456 := fun k => Nat.le_trans (kid_sz _ k) (by omega)
  have one : ∀ x : Term, 1 ≤ (x.sz : Int) := fun x => by have := Term.sz_pos x; omega
  unfold ownStep at h
  split at h
  · split at h
    · cases h
      exact ⟨sizeM_pos _ _, put_sz _ _, put_fit (kid_fit hp _) (kid_fit ht _), by have := sizeM_small (pz 1) (kz 1); omega⟩
    · cases h
  split at h
  · split at h
    · cases h
      exact ⟨one _, rfl, kid_fit hp _, by have := pz (if t.kind = 15 then 1 else 0); omega⟩
    · cases h
  split at h
  · cases h
    exact ⟨sizeM_pos _ _, put_sz _ _, put_fit (kid_fit ht _) (kid_fit ht _), by have := sizeM_small (kz 2) (kz 1); omega⟩
  split at h
  · split at h
    · cases h
      have := body_ok hc t.num t.levels
      exact ⟨one _, rfl, this.1, by omega⟩
    · cases h
  split at h
  · split at h
    · cases h
      have h1 := treeArgs_sz t (place t) hs (by omega)
      have h2 := sizeM_small (kz 1) (pz 0)
      have h3 := sizeM_nonneg (kid t 1) (kid (place t) 0)
      refine ⟨by unfold treeCost; omega, tree_sz _ _, tree_fit (by omega) ht hp, by unfold treeCost; omega⟩
    · cases h
  split at h
  · split at h
    · cases h
      exact ⟨one _, rfl, kid_fit ht _, by have := kz 3; omega⟩
    · cases h
  split at h
  · split at h
    · cases h
      exact ⟨one _, rfl, kid_fit ht _, by have := kz ((place t).num + 1); omega⟩
    · cases h
  · cases h
theorem withKids_swap (t x y : Term) (a : Int) (h0 : 0 ≤ a) : ∀ (n : Nat), Term.szs (withKids t x a n) + (if a < n then y.sz else 0) = Term.szs (withKids t y a n) + (if a < n then x.sz else 0)
  | 0 => by
    rw [if_neg (by omega), if_neg (by omega)]; simp [withKids]
  | n + 1 => by
    have ih := withKids_swap t x y a h0 n
    rw [withKids_succ, withKids_succ, Term.szs_append, Term.szs_append]
    simp only [Term.szs]
    by_cases e : (n : Int) = a
    · rw [if_pos e, if_pos e, if_pos (by omega), if_pos (by omega)]
      rw [if_neg (by omega), if_neg (by omega)] at ih
      omega
    · rw [if_neg e, if_neg e]
      by_cases e2 : a < (n : Int)
      · rw [if_pos e2, if_pos e2] at ih
        rw [if_pos (by omega), if_pos (by omega)]
        omega
      · rw [if_neg e2, if_neg e2] at ih
        rw [if_neg (by omega), if_neg (by omega)]
        omega
theorem with_swap (t x y : Term) {a m : Int} (h0 : 0 ≤ a) (h1 : a < m) : (withM t x a m).sz + y.sz = (withM t y a m).sz + x.sz := by
  have := withKids_swap t x y a h0 m.toNat
  rw [if_pos (by omega), if_pos (by omega)] at this
  rw [Term.sz_eq (withM t x a m), Term.sz_eq (withM t y a m)]
  show 1 + Term.szs (withKids t x a m.toNat) + y.sz = 1 + Term.szs (withKids t y a m.toNat) + x.sz
  omega
theorem withKids_own (t : Term) (a : Int) : ∀ (n : Nat), Term.szs (withKids t (kid t a) a n) ≤ Term.szs (t.kids.take n) + (n - t.kids.length)
  | 0 => by simp [withKids, Term.szs]
  | n + 1 => by
    have ih := withKids_own t a n
    rw [withKids_succ, Term.szs_append]
    have e : (if (n : Int) = a then kid t a else kid t n) = kid t n := by
      split
      · rename_i h; rw [h]
      · rfl
    rw [e]
    simp only [Term.szs]
    by_cases hn : n < t.kids.length
    · rw [Term.szs_take_succ hn]
      have : kid t n = t.kids.getD n default := by unfold kid; rw [if_neg (by omega)]; rfl
      rw [this]; omega
    · have : kid t n = T0 := by unfold kid; rw [if_pos (by omega)]
      rw [this, List.take_of_length_le (by omega)]
      rw [List.take_of_length_le (by omega)] at ih
      simp [T0, Term.sz, Term.szs]; omega
theorem szs_take_le : ∀ (ts : List Term) (n : Nat), Term.szs (ts.take n) ≤ Term.szs ts
  | [], n => by simp
  | t :: ts, 0 => by simp [Term.szs]
  | t :: ts, n + 1 => by simp [Term.szs]; exact szs_take_le ts n
theorem with_own {t : Term} (h : (spotM t).2.2 = true) (hl : t.kids.length ≤ 4611686018427387904) : (withM t (kid t (spotM t).1) (spotM t).1 (spotM t).2.1).sz ≤ t.sz + 6 := by
  have h1 := withKids_own t (spotM t).1 (spotM t).2.1.toNat
  have h2 := szs_take_le t.kids (spotM t).2.1.toNat
  obtain ⟨r0, r1, r2⟩ := spot_range h hl
  rw [Term.sz_eq, Term.sz_eq t]
  show 1 + Term.szs (withKids t _ _ _) ≤ _
  omega
def psz (t : Term) : Nat := (pad t).sz
theorem psz_F {t : Term} (h : (spotM t).2.2 = false) : psz t = t.sz := by rw [psz, pad_F h]
theorem psz_T0 : psz T0 = 1 := by rw [psz_F spot_T0]; simp [T0, Term.sz, Term.szs]
theorem psz_kid {t : Term} (h : (spotM t).2.2 = true) (hl : t.kids.length ≤ 4611686018427387904) : psz (kid t (spotM t).1) < psz t := by
  obtain ⟨r0, r1, r2⟩ := spot_range h hl
  rw [psz, psz, pad_T h, Term.sz_eq (withM _ _ _ _)]
  have hm : pad (kid t (spotM t).1) ∈ (withM t (pad (kid t (spotM t).1)) (spotM t).1 (spotM t).2.1).kids := by
    refine List.mem_iff_getElem?.2 ⟨(spotM t).1.toNat, ?_⟩
    show (withKids _ _ _ _)[_]? = _
    rw [withKids_get _ _ _ _ _ (by omega), if_pos (by omega)]
  have := Term.sz_kid hm
  omega
theorem psz_le : ∀ (m : Nat) (t : Term), spz t = m → t.fit 1099511627776 → psz t ≤ 7 * t.sz := by
  intro m
  induction m using Nat.strongRecOn with
  | _ m ih =>
    intro t hm hf
    cases h : (spotM t).2.2 with
    | false => rw [psz_F h]; omega
    | true =>
      have hl := hf.len
      have hl' : t.kids.length ≤ 4611686018427387904 := by omega
      obtain ⟨r0, r1, r2⟩ := spot_range h hl'
      have h1 := with_own h hl'
      have h2 := with_swap t (kid t (spotM t).1) (pad (kid t (spotM t).1)) r0 r1
      have hp := Term.sz_pos t
      by_cases hk : (spotM t).1 < 0 ∨ (t.kids.length : Int) ≤ (spotM t).1
      · have e : kid t (spotM t).1 = T0 := by unfold kid; rw [if_pos hk]
        have e2 := psz_T0
        rw [psz, pad_T h]
        rw [e] at h1 h2 ⊢
        have e3 : T0.sz = 1 := by simp [T0, Term.sz, Term.szs]
        rw [psz] at e2
        omega
      · have h3 := kid_lt hk
        have h4 := ih _ (by rw [← hm]; exact spz_kid h) (kid t (spotM t).1) rfl (kid_fit hf _)
        rw [psz] at h4
        rw [psz, pad_T h]
        omega
theorem pad_fit : ∀ (m : Nat) (t : Term), spz t = m → t.fit 1099511627776 → (pad t).fit 1099511627776 := by
  intro m
  induction m using Nat.strongRecOn with
  | _ m ih =>
    intro t hm hf
    cases h : (spotM t).2.2 with
    | false => rw [pad_F h]; exact hf
    | true =>
      rw [pad_T h]
      have := spot_many h hf.len (by omega) (by omega)
      exact with_fit hf (ih _ (by rw [← hm]; exact spz_kid h) _ rfl (kid_fit hf _)) _ _ (by omega)
theorem psz_with {t k : Term} (h : (spotM t).2.2 = true) (hl : t.kids.length ≤ 4611686018427387904) :
    psz (withM t k (spotM t).1 (spotM t).2.1) + psz (kid t (spotM t).1) = psz t + psz k := by
  obtain ⟨r0, r1, r2⟩ := spot_range h hl
  have hs := spot_with k h hl
  have h1 : (spotM (withM t k (spotM t).1 (spotM t).2.1)).2.2 = true := by rw [hs]; exact h
  rw [psz, pad_T h1, hs, kid_with _ r0 r1, if_pos rfl, with_with, psz, psz, psz, pad_T h]
  exact with_swap _ _ _ r0 r1
theorem once_ok {cs : List Core} (hc : CoresOk cs) : ∀ (m : Nat) (t : Term), spz t = m → t.fit 1099511627776 → psz t ≤ 268435456 → ∀ u c, stepOnce cs t = some (u, c) →
    1 ≤ c ∧ c ≤ 72057596190000000 ∧ u.fit 1099511627776 ∧ (psz u : Int) ≤ psz t + 7 * c := by
  intro m
  induction m using Nat.strongRecOn with
  | _ m ih =>
    intro t hm hf hz u c ho
    cases h : (spotM t).2.2 with
    | false =>
      rw [once_F h] at ho
      rw [psz_F h] at hz
      have := own_ok hc hf hz ho
      have h7 := psz_le _ u rfl this.2.2.1
      exact ⟨this.1, this.2.2.2, this.2.2.1, by omega⟩
    | true =>
      have hl := hf.len
      have hl' : t.kids.length ≤ 4611686018427387904 := by omega
      cases hk : stepOnce cs (kid t (spotM t).1) with
      | some p =>
        obtain ⟨k, d⟩ := p
        rw [once_some h hk] at ho
        cases ho
        have hpk := psz_kid h hl'
        have := ih _ (by rw [← hm]; exact spz_kid h) _ rfl (kid_fit hf _) (by omega) k c hk
        have hw := psz_with (k := k) h hl'
        have hmany := spot_many h hl (by omega) (by omega)
        exact ⟨this.1, this.2.1, with_fit hf this.2.2.1 _ _ (by omega), by omega⟩
      | none =>
        rw [once_none h hk] at ho
        have := own_ok hc (pad_fit _ t rfl hf) hz ho
        have h7 := psz_le _ u rfl this.2.2.1
        exact ⟨this.1, this.2.2.2, this.2.2.1, by omega⟩
end Sp

/- The way to the head, as the walk of head meets it. -/
set_option linter.unusedVariables false
set_option linter.unusedSimpArgs false
namespace Sp
open Go
def stepU (cs : List Core) (t : Term) : Term := match ownStep cs t with | some (u, _) => u | none => t
def stepC (cs : List Core) (t : Term) : Int := match ownStep cs t with | some (_, c) => c | none => 0
def onceT (cs : List Core) (t : Term) : Term := match stepOnce cs t with | some (u, _) => u | none => pad t
def onceC (cs : List Core) (t : Term) : Int := match stepOnce cs t with | some (_, c) => c | none => 0
theorem step_no {cs : List Core} {t : Term} (h : (ownStep cs t).isSome = false) : stepU cs t = t ∧ stepC cs t = 0 := by
  unfold stepU stepC
  cases e : ownStep cs t with
  | none => exact ⟨rfl, rfl⟩
  | some p => rw [e] at h; cases h
theorem step_yes {cs : List Core} {t : Term} (h : (ownStep cs t).isSome = true) : ownStep cs t = some (stepU cs t, stepC cs t) := by
  unfold stepU stepC
  cases e : ownStep cs t with
  | none => rw [e] at h; cases h
  | some p => obtain ⟨u, c⟩ := p; rfl
theorem rest_gone {cs : List Core} {t : Term} {F : Int} {dn : Bool} (hF : 0 ≤ F) (h : ¬ stepC cs t ≤ F) : rest cs t F dn = (false, T0, F, dn) := by
  cases hi : (ownStep cs t).isSome with
  | false => rw [(step_no hi).2] at h; exact absurd hF h
  | true => rw [rest, step_yes hi]; simp only; rw [if_neg (by omega)]
theorem rest_none {cs : List Core} {t : Term} {F : Int} {dn : Bool} (h : (ownStep cs t).isSome = false) : rest cs t F dn = (true, t, F, dn) := by
  rw [rest]
  cases e : ownStep cs t with
  | none => rfl
  | some p => rw [e] at h; cases h
theorem rest_some {cs : List Core} {t : Term} {F : Int} {dn : Bool} (h : (ownStep cs t).isSome = true) (h1 : 1 ≤ stepC cs t) (h2 : stepC cs t ≤ F) : rest cs t F dn = multi cs (stepU cs t) (F - stepC cs t) true := by
  rw [rest, step_yes h]; simp only; rw [if_pos ⟨h1, h2⟩]
theorem multi_ok {cs : List Core} (hc : CoresOk cs) : ∀ (n : Nat) (t : Term) (F : Int) (dn : Bool), F.toNat = n → t.fit 1099511627776 → 0 ≤ F → (psz t : Int) + 7 * F ≤ 268435456 →
    0 ≤ (multi cs t F dn).2.2.1 ∧ (multi cs t F dn).2.2.1 ≤ F ∧ ((multi cs t F dn).1 = true → (multi cs t F dn).2.1.fit 1099511627776 ∧ ((multi cs t F dn).2.1.sz : Int) + 7 * (multi cs t F dn).2.2.1 ≤ psz t + 7 * F) := by
  intro n
  induction n using Nat.strongRecOn with
  | _ n ih =>
    intro t F dn hn hf h0 hz
    cases h : stepOnce cs t with
    | none =>
      rw [multi_none h]
      exact ⟨h0, Int.le_refl _, fun _ => ⟨pad_fit _ t rfl hf, Int.le_refl _⟩⟩
    | some p =>
      obtain ⟨u, c⟩ := p
      have ho := once_ok hc _ t rfl hf (by omega) u c h
      by_cases hcF : 1 ≤ c ∧ c ≤ F
      · rw [multi_some h hcF]
        have := ih (F - c).toNat (by omega) u (F - c) true rfl ho.2.2.1 (by omega) (by omega)
        exact ⟨this.1, by omega, fun e => ⟨(this.2.2 e).1, by have := (this.2.2 e).2; omega⟩⟩
      · rw [multi_gone h hcF]
        exact ⟨h0, Int.le_refl _, fun e => by cases e⟩
theorem behind_ok {cs : List Core} (hc : CoresOk cs) {u : Term} {F : Int} {d : Bool} (hf : u.fit 1099511627776) (hF : 0 ≤ F) (hz : (psz u : Int) + 7 * F ≤ 268435456) (h : (spotM u).2.2 = true) :
    0 ≤ (multi cs (kid u (spotM u).1) F d).2.2.1 ∧ (multi cs (kid u (spotM u).1) F d).2.2.1 ≤ F ∧ ((multi cs (kid u (spotM u).1) F d).1 = true →
      (withM u (multi cs (kid u (spotM u).1) F d).2.1 (spotM u).1 (spotM u).2.1).fit 1099511627776 ∧
      ((withM u (multi cs (kid u (spotM u).1) F d).2.1 (spotM u).1 (spotM u).2.1).sz : Int) + 7 * (multi cs (kid u (spotM u).1) F d).2.2.1 ≤ 268435456 ∧
      multi cs u F d = rest cs (withM u (multi cs (kid u (spotM u).1) F d).2.1 (spotM u).1 (spotM u).2.1) (multi cs (kid u (spotM u).1) F d).2.2.1 (multi cs (kid u (spotM u).1) F d).2.2.2) := by
  have hl := hf.len
  have hl' : u.kids.length ≤ 4611686018427387904 := by omega
  have hpk := psz_kid h hl'
  have hm := multi_ok hc _ (kid u (spotM u).1) F d rfl (kid_fit hf _) hF (by omega)
  refine ⟨hm.1, hm.2.1, fun e => ?_⟩
  obtain ⟨hfit, hsz⟩ := hm.2.2 e
  have hmany := spot_many h hl (by omega) (by omega)
  obtain ⟨r0, r1, _⟩ := spot_range h hl'
  refine ⟨with_fit hf hfit _ _ (by omega), ?_, ?_⟩
  · have h1 := with_swap u (multi cs (kid u (spotM u).1) F d).2.1 (pad (kid u (spotM u).1)) r0 r1
    rw [← pad_T h] at h1
    have e1 : psz u = (pad u).sz := rfl
    have e2 : psz (kid u (spotM u).1) = (pad (kid u (spotM u).1)).sz := rfl
    omega
  · rw [multi_T _ rfl h hl', after, e, cond_true]
end Sp

/- What Whnf and Step answer. -/
set_option linter.unusedVariables false
set_option linter.unusedSimpArgs false
namespace Sp
open Go
mutual
theorem lift00' {B : Nat} (f : Int) : ∀ (t : Term) (b : Int), t.fit B → walkM (liftG 0 f) no b t = t
  | .mk k n a ls ks, b, h => by
    rw [walkM]
    have hg : liftG 0 f b (.mk k n a ls ks) = .mk k n a ls ks := by
      unfold liftG
      split
      · have := h.nr
        simp only [Term.num] at this
        simp only [Term.kind, Term.num, Term.at_, Term.levels, Term.kids, Int.add_zero]
        rw [w64_id this.1 this.2]
      · rfl
    rw [hg]
    simp only [no, cond_false, Term.kind, Term.num, Term.at_, Term.levels]
    rw [lift00s f ks b k 0 (fun t ht => (Term.fit_iff.1 h).2.2.2.1 t ht)]
theorem lift00s {B : Nat} (f : Int) : ∀ (ts : List Term) (b k : Int) (i : Nat), (∀ t ∈ ts, t.fit B) → walkMs (liftG 0 f) no b k i ts = ts
  | [], b, k, i, h => by simp [walkMs]
  | t :: ts, b, k, i, h => by
    rw [walkMs, lift00' f t _ (h t (by simp)), lift00s f ts b k (i + 1) (fun u hu => h u (by simp [hu]))]
end
theorem lift00 {B : Nat} {t : Term} (h : t.fit B) : lift t 0 0 = t := lift00' 0 t 0 h
def whnfM (cs : List Core) (t : Term) (fuel : Int) : Term × Int × Int :=
  if fuel < 0 ∨ 1073741824 < fuel then (T0, 0, 2) else if (multi cs t fuel false).1 = true then ((multi cs t fuel false).2.1, (multi cs t fuel false).2.2.1, 0) else (T0, 0, 5)
def stepM (cs : List Core) (t : Term) : Term × Int × Bool := match stepOnce cs t with | some (u, c) => (u, c, true) | none => (t, 0, false)
theorem whnfM_arg {cs : List Core} {t : Term} {fuel : Int} (h : fuel < 0 ∨ 1073741824 < fuel) : whnfM cs t fuel = (T0, 0, 2) := if_pos h
theorem whnfM_ok {cs : List Core} {t : Term} {fuel : Int} (h : ¬ (fuel < 0 ∨ 1073741824 < fuel)) (h2 : (multi cs t fuel false).1 = true) : whnfM cs t fuel = ((multi cs t fuel false).2.1, (multi cs t fuel false).2.2.1, 0) := by rw [whnfM, if_neg h, if_pos h2]
theorem whnfM_gone {cs : List Core} {t : Term} {fuel : Int} (h : ¬ (fuel < 0 ∨ 1073741824 < fuel)) (h2 : ¬ (multi cs t fuel false).1 = true) : whnfM cs t fuel = (T0, 0, 5) := by rw [whnfM, if_neg h, if_neg h2]
end Sp

/- The stage's law, over what Whnf and Step answer. -/
set_option linter.unusedVariables false
set_option linter.unusedSimpArgs false
set_option maxRecDepth 20000
namespace Sp
open Go
abbrev tv (n : Int) : Term := .mk 1 n 0 [] []
abbrev tE : Term := .mk 23 1 2 [] []
abbrev tL : Term := .mk 5 0 0 [] [.mk 22 2 0 [] [], tv 0]
abbrev tA : Term := .mk 6 0 0 [] [tL, tE]
abbrev tP : Term := .mk 13 0 0 [] [tv 1, tv 2]
abbrev tB : Term := .mk 24 0 2 [] [.mk 22 1 0 [] [], tv 1, tP, tA]
abbrev tB2 : Term := .mk 24 0 2 [] [.mk 22 1 0 [] [], tv 1, tP, tE]
theorem multi_dn {cs : List Core} : ∀ (n : Nat) (t : Term) (F : Int) (d d' : Bool), F.toNat = n → (multi cs t F d).1 = (multi cs t F d').1 ∧ (multi cs t F d).2.1 = (multi cs t F d').2.1 ∧ (multi cs t F d).2.2.1 = (multi cs t F d').2.2.1 := by
  intro n t F d d' _
  cases h : stepOnce cs t with
  | none => rw [multi_none h, multi_none h]; exact ⟨rfl, rfl, rfl⟩
  | some p =>
    obtain ⟨u, c⟩ := p
    by_cases hc : 1 ≤ c ∧ c ≤ F
    · rw [multi_some h hc, multi_some h hc]; exact ⟨rfl, rfl, rfl⟩
    · rw [multi_gone h hc, multi_gone h hc]; exact ⟨rfl, rfl, rfl⟩
theorem whnf_step {cs : List Core} {t u : Term} {c F : Int} (h : stepOnce cs t = some (u, c)) (hc : 1 ≤ c) (h0 : 0 ≤ F) (h1 : F ≤ 1073741824) : whnfM cs t F = if c ≤ F then whnfM cs u (F - c) else (T0, 0, 5) := by
  by_cases hF : c ≤ F
  · rw [if_pos hF]
    have hm := multi_some (dn := false) h ⟨hc, hF⟩
    have hd := multi_dn (cs := cs) _ u (F - c) true false rfl
    have n1 : ¬ (F < 0 ∨ 1073741824 < F) := by omega
    have n2 : ¬ (F - c < 0 ∨ 1073741824 < F - c) := by omega
    unfold whnfM
    rw [if_neg n1, if_neg n2, hm, hd.1, hd.2.1, hd.2.2]
  · rw [if_neg hF, whnfM_gone (by omega)]
    rw [multi_gone h (by omega)]; simp
theorem whnf_none {cs : List Core} {t : Term} {F : Int} (h : stepOnce cs t = none) (h0 : 0 ≤ F) (h1 : F ≤ 1073741824) : whnfM cs t F = (pad t, F, 0) := by
  rw [whnfM_ok (by omega) (by rw [multi_none h]), multi_none h]
def Reached (cs : List Core) (t u : Term) (cost : Int) : Prop := ∀ F, 0 ≤ F → F ≤ 1073741824 → whnfM cs t F = if cost ≤ F then whnfM cs u (F - cost) else (T0, 0, 5)
theorem Reached.start (cs : List Core) (t : Term) : Reached cs t t 0 := fun F h0 h1 => by rw [if_pos h0, Int.sub_zero]
theorem Reached.step {cs : List Core} {t u v : Term} {cost c : Int} (h : Reached cs t u cost) (h0 : 0 ≤ cost) (hs : stepOnce cs u = some (v, c)) (hc : 1 ≤ c) : Reached cs t v (cost + c) := fun F f0 f1 => by
  rw [h F f0 f1]
  by_cases hF : cost ≤ F
  · rw [if_pos hF, whnf_step hs hc (by omega) (by omega)]
    by_cases hF2 : c ≤ F - cost
    · rw [if_pos hF2, if_pos (by omega)]; congr 1; omega
    · rw [if_neg hF2, if_neg (by omega)]
  · rw [if_neg hF, if_neg (by omega)]
theorem Reached.done {cs : List Core} {t u : Term} {cost F : Int} (h : Reached cs t u cost) (hs : stepOnce cs u = none) (h0 : 0 ≤ cost) (f0 : cost ≤ F) (f1 : F ≤ 1073741824) : whnfM cs t F = (pad u, F - cost, 0) := by
  rw [h F (by omega) f1, if_pos f0, whnf_none hs (by omega) (by omega)]
theorem pad_none {cs : List Core} : ∀ (m : Nat) (t : Term), spz t = m → t.fit 1099511627776 → stepOnce cs t = none → stepOnce cs (pad t) = none ∧ pad (pad t) = pad t := by
  intro m
  induction m using Nat.strongRecOn with
  | _ m ih =>
    intro t hm hf h
    cases hs : (spotM t).2.2 with
    | false => rw [pad_F hs]; exact ⟨h, pad_F hs⟩
    | true =>
      have hl := hf.len
      have hl' : t.kids.length ≤ 4611686018427387904 := by omega
      obtain ⟨r0, r1, _⟩ := spot_range hs hl'
      have hk : stepOnce cs (kid t (spotM t).1) = none := by
        cases hk : stepOnce cs (kid t (spotM t).1) with
        | none => rfl
        | some p => obtain ⟨k, c⟩ := p; rw [once_some hs hk] at h; cases h
      have hi := ih _ (by rw [← hm]; exact spz_kid hs) _ rfl (kid_fit hf _) hk
      have hsp : spotM (pad t) = spotM t := by rw [pad_T hs]; exact spot_with _ hs hl'
      have hkp : kid (pad t) (spotM t).1 = pad (kid t (spotM t).1) := by rw [pad_T hs, kid_with _ r0 r1, if_pos rfl]
      have hpp : pad (pad t) = pad t := by
        have e : (spotM (pad t)).2.2 = true := by rw [hsp]; exact hs
        rw [pad_T e, hsp, hkp, hi.2]
        conv => lhs; rw [pad_T hs]
        rw [with_with, ← pad_T hs]
      refine ⟨?_, hpp⟩
      have e : (spotM (pad t)).2.2 = true := by rw [hsp]; exact hs
      have hk2 : stepOnce cs (kid (pad t) (spotM (pad t)).1) = none := by rw [hsp, hkp]; exact hi.1
      rw [once_none e hk2, hpp, ← once_none hs hk]
      exact h
end Sp

/- A measure of terms that holds all the way down; what Whnf gives, weighed. -/
set_option linter.unusedVariables false
set_option linter.unusedSimpArgs false
namespace Sp
open Go
def lack (k a : Int) (l : Nat) : Nat := if (spotOf k a l).2.2 = true then (spotOf k a l).2.1.toNat - l else 0
mutual
def fsz : Term → Nat
  | .mk k n a ls ks => 1 + lack k a ks.length + fszs ks
def fszs : List Term → Nat
  | [] => 0
  | t :: ts => fsz t + fszs ts
end
theorem fsz_eq (t : Term) : fsz t = 1 + lack t.kind t.at_ t.kids.length + fszs t.kids := by cases t; rw [fsz]; rfl
theorem fsz_pos (t : Term) : 1 ≤ fsz t := by rw [fsz_eq]; omega
theorem fszs_append : ∀ (a b : List Term), fszs (a ++ b) = fszs a + fszs b
  | [], b => by simp [fszs]
  | t :: a, b => by simp [fszs, fszs_append a b]; omega
theorem fsz_mem : ∀ {ts : List Term} {k : Term}, k ∈ ts → fsz k ≤ fszs ts
  | [], k, h => by cases h
  | t :: ts, k, h => by
    rcases List.mem_cons.1 h with rfl | h
    · simp [fszs]
    · have := fsz_mem h; simp [fszs]; omega
theorem fsz_T0 : fsz T0 = 1 := by
  rw [fsz_eq]; simp [T0, Term.kids, fszs, lack, Term.kind, Term.at_, spotOf]
theorem fsz_kid (t : Term) (k : Int) : fsz (kid t k) ≤ fsz t := by
  unfold kid
  split
  · rw [fsz_T0]; exact fsz_pos t
  · have := fsz_mem (getD_mem (l := t.kids) (i := k.toNat) (by omega))
    rw [fsz_eq t]; omega
theorem fsz_kid' {t k : Term} (h : k ∈ t.kids) : fsz k < fsz t := by
  have := fsz_mem h
  rw [fsz_eq t]; omega
theorem lack_le (k a : Int) (l : Nat) (hl : l ≤ 4611686018427387904) : lack k a l ≤ 6 := by
  unfold lack
  split
  · rename_i h
    obtain ⟨_, _, h2⟩ := spotOf_range h hl
    omega
  · omega
mutual
theorem sz_le_fsz : ∀ (t : Term), t.sz ≤ fsz t
  | .mk k n a ls ks => by rw [Term.sz, fsz]; have := szs_le_fszs ks; omega
theorem szs_le_fszs : ∀ (ts : List Term), Term.szs ts ≤ fszs ts
  | [] => by simp [Term.szs]
  | t :: ts => by rw [Term.szs, fszs]; have := sz_le_fsz t; have := szs_le_fszs ts; omega
end
mutual
theorem fsz_le : ∀ (t : Term), t.fit 1099511627776 → fsz t ≤ 7 * t.sz
  | .mk k n a ls ks, h => by
    rw [fsz, Term.sz]
    have h1 := h.len
    have := lack_le k a ks.length (by simp only [Term.kids] at h1; omega)
    have := fszs_le ks (fun t ht => (Term.fit_iff.1 h).2.2.2.1 t ht)
    omega
theorem fszs_le : ∀ (ts : List Term), (∀ t ∈ ts, t.fit 1099511627776) → fszs ts ≤ 7 * Term.szs ts
  | [], _ => by simp [fszs]
  | t :: ts, h => by
    rw [fszs, Term.szs]
    have := fsz_le t (h t (by simp))
    have := fszs_le ts (fun u hu => h u (by simp [hu]))
    omega
end
mutual
theorem walkM_fsz_no (n f : Int) : ∀ (t : Term) (b : Int), fsz (walkM (liftG n f) no b t) = fsz t
  | .mk k m a ls ks, b => by
    rw [walkM]
    simp only [no, cond_false]
    have e : (liftG n f b (.mk k m a ls ks)).kind = k ∧ (liftG n f b (.mk k m a ls ks)).at_ = a := by
      unfold liftG; split <;> exact ⟨rfl, rfl⟩
    rw [fsz, fsz, e.1, e.2, walkMs_length, walkMs_fsz_no n f ks b k 0]
theorem walkMs_fsz_no (n f : Int) : ∀ (ts : List Term) (b k : Int) (i : Nat), fszs (walkMs (liftG n f) no b k i ts) = fszs ts
  | [], b, k, i => by simp [walkMs]
  | t :: ts, b, k, i => by rw [walkMs, fszs, fszs, walkM_fsz_no n f t, walkMs_fsz_no n f ts b k (i + 1)]
end
theorem lift_fsz (t : Term) (n f : Int) : fsz (lift t n f) = fsz t := walkM_fsz_no n f t 0
theorem fszs_swap (t x y : Term) (a : Int) (h0 : 0 ≤ a) : ∀ (n : Nat), fszs (withKids t x a n) + (if a < n then fsz y else 0) = fszs (withKids t y a n) + (if a < n then fsz x else 0)
  | 0 => by
    rw [if_neg (by omega), if_neg (by omega)]; simp [withKids]
  | n + 1 => by
    have ih := fszs_swap t x y a h0 n
    rw [withKids_succ, withKids_succ, fszs_append, fszs_append]
    simp only [fszs]
    by_cases e : (n : Int) = a
    · rw [if_pos e, if_pos e, if_pos (by omega), if_pos (by omega)]
      rw [if_neg (by omega), if_neg (by omega)] at ih
      omega
    · rw [if_neg e, if_neg e]
      by_cases e2 : a < (n : Int)
      · rw [if_pos e2, if_pos e2] at ih
        rw [if_pos (by omega), if_pos (by omega)]
        omega
      · rw [if_neg e2, if_neg e2] at ih
        rw [if_neg (by omega), if_neg (by omega)]
        omega
theorem fszs_own (t : Term) (a : Int) : ∀ (n : Nat), fszs (withKids t (kid t a) a n) ≤ fszs (t.kids.take n) + (n - t.kids.length)
  | 0 => by simp [withKids, fszs]
  | n + 1 => by
    have ih := fszs_own t a n
    rw [withKids_succ, fszs_append]
    have e : (if (n : Int) = a then kid t a else kid t n) = kid t n := by
      split
      · rename_i h; rw [h]
      · rfl
    rw [e]
    simp only [fszs]
    by_cases hn : n < t.kids.length
    · rw [take_succ_getD hn, fszs_append]
      have : kid t n = t.kids.getD n default := by unfold kid; rw [if_neg (by omega)]; rfl
      rw [this]; simp only [fszs]; omega
    · have : kid t n = T0 := by unfold kid; rw [if_pos (by omega)]
      rw [this, List.take_of_length_le (by omega), fsz_T0]
      rw [List.take_of_length_le (by omega)] at ih
      omega
theorem fszs_take_le : ∀ (ts : List Term) (n : Nat), fszs (ts.take n) ≤ fszs ts
  | [], n => by simp
  | t :: ts, 0 => by simp [fszs]
  | t :: ts, n + 1 => by simp [fszs]; exact fszs_take_le ts n
theorem fsz_with {t x : Term} (h : (spotM t).2.2 = true) (hl : t.kids.length ≤ 4611686018427387904) : fsz (withM t x (spotM t).1 (spotM t).2.1) + fsz (kid t (spotM t).1) ≤ fsz t + fsz x := by
  obtain ⟨r0, r1, r2⟩ := spot_range h hl
  have h1 := fszs_own t (spotM t).1 (spotM t).2.1.toNat
  have h2 := fszs_take_le t.kids (spotM t).2.1.toNat
  have h3 := fszs_swap t x (kid t (spotM t).1) (spotM t).1 r0 (spotM t).2.1.toNat
  rw [if_pos (by omega), if_pos (by omega)] at h3
  have hs := spot_with x h hl
  have e1 : lack t.kind t.at_ t.kids.length = (spotM t).2.1.toNat - t.kids.length := by
    unfold lack; rw [if_pos (show (spotOf t.kind t.at_ t.kids.length).2.2 = true from h)]; rfl
  have e2 : lack t.kind t.at_ (spotM t).2.1.toNat = 0 := by
    unfold lack
    have : spotOf t.kind t.at_ ((spotM t).2.1.toNat : Nat) = spotM t := spotOf_with h hl
    rw [this]
    split <;> omega
  rw [fsz_eq (withM _ _ _ _), with_kids_len, fsz_eq t, e1]
  show 1 + lack t.kind t.at_ _ + fszs (withKids t x (spotM t).1 (spotM t).2.1.toNat) + _ ≤ _
  rw [e2]
  omega
theorem fsz_pad : ∀ (m : Nat) (t : Term), spz t = m → t.fit 1099511627776 → fsz (pad t) ≤ fsz t := by
  intro m
  induction m using Nat.strongRecOn with
  | _ m ih =>
    intro t hm hf
    cases h : (spotM t).2.2 with
    | false => rw [pad_F h]; exact Nat.le_refl _
    | true =>
      have hl := hf.len
      have h1 := fsz_with (x := pad (kid t (spotM t).1)) h (by omega)
      have h2 := ih _ (by rw [← hm]; exact spz_kid h) _ rfl (kid_fit hf _)
      rw [pad_T h]; omega
theorem psz_le_fsz {t : Term} (hf : t.fit 1099511627776) : psz t ≤ fsz t := Nat.le_trans (sz_le_fsz (pad t)) (fsz_pad _ t rfl hf)
theorem once_fsz {cs : List Core} (hc : CoresOk cs) : ∀ (m : Nat) (t : Term), spz t = m → t.fit 1099511627776 → fsz t ≤ 268435456 → ∀ u c, stepOnce cs t = some (u, c) → (fsz u : Int) ≤ fsz t + 7 * c := by
  intro m
  induction m using Nat.strongRecOn with
  | _ m ih =>
    intro t hm hf hz u c ho
    have hps := psz_le_fsz hf
    cases h : (spotM t).2.2 with
    | false =>
      rw [once_F h] at ho
      have hsz := sz_le_fsz t
      have := own_ok hc hf (by omega) ho
      have h7 := fsz_le u this.2.2.1
      omega
    | true =>
      have hl := hf.len
      have hl' : t.kids.length ≤ 4611686018427387904 := by omega
      cases hk : stepOnce cs (kid t (spotM t).1) with
      | some p =>
        obtain ⟨k, d⟩ := p
        rw [once_some h hk] at ho
        cases ho
        have hkz := fsz_kid t (spotM t).1
        have := ih _ (by rw [← hm]; exact spz_kid h) _ rfl (kid_fit hf _) (by omega) k c hk
        have hw := fsz_with (x := k) h hl'
        omega
      | none =>
        rw [once_none h hk] at ho
        have := own_ok hc (pad_fit _ t rfl hf) (Nat.le_trans hps hz) ho
        have h7 := fsz_le u this.2.2.1
        omega
theorem multi_fsz {cs : List Core} (hc : CoresOk cs) : ∀ (n : Nat) (t : Term) (F : Int) (dn : Bool), F.toNat = n → t.fit 1099511627776 → 0 ≤ F → (fsz t : Int) + 7 * F ≤ 268435456 → (multi cs t F dn).1 = true →
    (fsz (multi cs t F dn).2.1 : Int) + 7 * (multi cs t F dn).2.2.1 ≤ fsz t + 7 * F ∧ pad (multi cs t F dn).2.1 = (multi cs t F dn).2.1 ∧ stepOnce cs (multi cs t F dn).2.1 = none := by
  intro n
  induction n using Nat.strongRecOn with
  | _ n ih =>
    intro t F dn hn hf h0 hz
    cases h : stepOnce cs t with
    | none =>
      rw [multi_none h]
      have hp := pad_none _ t rfl hf h
      have := fsz_pad _ t rfl hf
      exact fun _ => ⟨by simp only; omega, hp.2, hp.1⟩
    | some p =>
      obtain ⟨u, c⟩ := p
      have hps := psz_le_fsz hf
      have ho := once_ok hc _ t rfl hf (by omega) u c h
      have hof := once_fsz hc _ t rfl hf (by omega) u c h
      by_cases hcF : 1 ≤ c ∧ c ≤ F
      · rw [multi_some h hcF]
        intro e
        have := ih (F - c).toNat (by omega) u (F - c) true rfl ho.2.2.1 (by omega) (by omega) e
        exact ⟨by omega, this.2⟩
      · rw [multi_gone h hcF]
        intro e; cases e
theorem whnf_ok {cs : List Core} (hc : CoresOk cs) {t x : Term} {F F' : Int} (hf : t.fit 1099511627776) (h0 : 0 ≤ F) (h1 : F ≤ 1073741824) (hz : (fsz t : Int) + 7 * F ≤ 268435456) (h : whnfM cs t F = (x, F', 0)) :
    x.fit 1099511627776 ∧ 0 ≤ F' ∧ F' ≤ F ∧ (fsz x : Int) + 7 * F' ≤ fsz t + 7 * F ∧ pad x = x ∧ stepOnce cs x = none := by
  have hps := psz_le_fsz hf
  have n1 : ¬ (F < 0 ∨ 1073741824 < F) := by omega
  cases hm : (multi cs t F false).1 with
  | false => rw [whnfM_gone n1 (by rw [hm]; simp)] at h; cases h
  | true =>
    rw [whnfM_ok n1 hm] at h
    cases h
    have a := multi_ok hc _ t F false rfl hf h0 (by omega)
    have b := multi_fsz hc _ t F false rfl hf h0 hz hm
    exact ⟨(a.2.2 hm).1, a.1, a.2.1, b.1, b.2.1, b.2.2⟩
theorem whnf_err {cs : List Core} {t : Term} {F : Int} (h0 : 0 ≤ F) (h1 : F ≤ 1073741824) (h : (whnfM cs t F).2.2 ≠ 0) : whnfM cs t F = (T0, 0, 5) := by
  have n1 : ¬ (F < 0 ∨ 1073741824 < F) := by omega
  cases hm : (multi cs t F false).1 with
  | false => exact whnfM_gone n1 (by rw [hm]; simp)
  | true => rw [whnfM_ok n1 hm] at h; exact absurd rfl h
theorem multi_reach {cs : List Core} (hc : CoresOk cs) : ∀ (n : Nat) (t : Term) (F : Int) (dn : Bool), F.toNat = n → t.fit 1099511627776 → 0 ≤ F → F ≤ 1073741824 → (fsz t : Int) + 7 * F ≤ 268435456 → (multi cs t F dn).1 = true →
    ∃ u, Reached cs t u (F - (multi cs t F dn).2.2.1) ∧ stepOnce cs u = none ∧ pad u = (multi cs t F dn).2.1 ∧ 0 ≤ F - (multi cs t F dn).2.2.1 := by
  intro n
  induction n using Nat.strongRecOn with
  | _ n ih =>
    intro t F dn hn hf h0 h1 hz
    cases h : stepOnce cs t with
    | none =>
      rw [multi_none h]
      exact fun _ => ⟨t, by rw [Int.sub_self]; exact Reached.start cs t, h, rfl, by simp⟩
    | some p =>
      obtain ⟨u, c⟩ := p
      have hps := psz_le_fsz hf
      have ho := once_ok hc _ t rfl hf (by omega) u c h
      have hof := once_fsz hc _ t rfl hf (by omega) u c h
      by_cases hcF : 1 ≤ c ∧ c ≤ F
      · rw [multi_some h hcF]
        intro e
        obtain ⟨v, r, a, b, d⟩ := ih (F - c).toNat (by omega) u (F - c) true rfl ho.2.2.1 (by omega) (by omega) (by omega) e
        refine ⟨v, ?_, a, b, by omega⟩
        have hst := (Reached.start cs t).step (Int.le_refl 0) h ho.1
        rw [Int.zero_add] at hst
        intro G g0 g1
        rw [hst G g0 g1]
        by_cases hG : c ≤ G
        · rw [if_pos hG, r (G - c) (by omega) (by omega)]
          by_cases hG2 : F - c - (multi cs u (F - c) true).2.2.1 ≤ G - c
          · rw [if_pos hG2, if_pos (by omega)]; congr 1; omega
          · rw [if_neg hG2, if_neg (by omega)]
        · rw [if_neg hG, if_neg (by omega)]
      · rw [multi_gone h hcF]
        intro e; cases e
theorem whnf_shift {cs : List Core} (hc : CoresOk cs) {t x : Term} {F F' : Int} (hf : t.fit 1099511627776) (h0 : 0 ≤ F) (h1 : F ≤ 1073741824) (hz : (fsz t : Int) + 7 * F ≤ 268435456) (h : whnfM cs t F = (x, F', 0)) {G : Int} (g0 : F - F' ≤ G) (g1 : G ≤ 1073741824) :
    whnfM cs t G = (x, G - (F - F'), 0) := by
  have n1 : ¬ (F < 0 ∨ 1073741824 < F) := by omega
  cases hm : (multi cs t F false).1 with
  | false => rw [whnfM_gone n1 (by rw [hm]; simp)] at h; cases h
  | true =>
    rw [whnfM_ok n1 hm] at h
    cases h
    obtain ⟨u, r, a, b, d⟩ := multi_reach hc _ t F false rfl hf h0 h1 hz hm
    rw [r.done a d g0 g1, b]
end Sp

/- Whether terms are one: what the program reckons. -/
set_option linter.unusedVariables false
set_option linter.unusedSimpArgs false
namespace Sp
open Go
def lvSame (a b : Level) : Bool := decide (normM a = normM b)
def lvsSame : List Level → List Level → Bool
  | [], [] => true
  | a :: as, b :: bs => lvSame a b && lvsSame as bs
  | _, _ => false
def lvLeq (a b : Level) : Bool := (normM a).all fun p => (normM b).any fun q => (decide (p.v = 0) || decide (p.v = q.v)) && decide (p.p ≤ q.p)
mutual
def sameM : Term → Term → Bool
  | .mk k n a ls ks, .mk k' n' a' ls' ks' => decide (k = k') && decide (n = n') && decide (a = a') && lvsSame ls ls' && samesM ks ks'
def samesM : List Term → List Term → Bool
  | [], [] => true
  | t :: ts, u :: us => sameM t u && samesM ts us
  | _, _ => false
end
theorem sameM_eq (t u : Term) : sameM t u = (decide (t.kind = u.kind) && decide (t.num = u.num) && decide (t.at_ = u.at_) && lvsSame t.levels u.levels && samesM t.kids u.kids) := by
  cases t; cases u; rw [sameM]; rfl
theorem lvSame_refl (a : Level) : lvSame a a = true := by simp [lvSame]
theorem lvSame_comm (a b : Level) : lvSame a b = lvSame b a := by
  simp only [lvSame]; congr 1; exact propext ⟨Eq.symm, Eq.symm⟩
theorem lvsSame_refl : ∀ (l : List Level), lvsSame l l = true
  | [] => rfl
  | a :: l => by simp [lvsSame, lvSame_refl, lvsSame_refl l]
theorem lvsSame_comm : ∀ (l m : List Level), lvsSame l m = lvsSame m l
  | [], [] => rfl
  | [], _ :: _ => rfl
  | _ :: _, [] => rfl
  | a :: l, b :: m => by simp [lvsSame, lvSame_comm a b, lvsSame_comm l m]
mutual
theorem sameM_refl : ∀ (t : Term), sameM t t = true
  | .mk k n a ls ks => by simp [sameM, lvsSame_refl, samesM_refl ks]
theorem samesM_refl : ∀ (ts : List Term), samesM ts ts = true
  | [] => by simp [samesM]
  | t :: ts => by simp [samesM, sameM_refl t, samesM_refl ts]
end
mutual
theorem sameM_comm : ∀ (t u : Term), sameM t u = sameM u t
  | .mk k n a ls ks, .mk k' n' a' ls' ks' => by
    have h1 : decide (k = k') = decide (k' = k) := by congr 1; exact propext ⟨Eq.symm, Eq.symm⟩
    have h2 : decide (n = n') = decide (n' = n) := by congr 1; exact propext ⟨Eq.symm, Eq.symm⟩
    have h3 : decide (a = a') = decide (a' = a) := by congr 1; exact propext ⟨Eq.symm, Eq.symm⟩
    rw [sameM, sameM, h1, h2, h3, lvsSame_comm ls, samesM_comm ks]
theorem samesM_comm : ∀ (ts us : List Term), samesM ts us = samesM us ts
  | [], [] => rfl
  | [], _ :: _ => by simp [samesM]
  | _ :: _, [] => by simp [samesM]
  | t :: ts, u :: us => by rw [samesM, samesM, sameM_comm t u, samesM_comm ts us]
end
abbrev Ask := Int → Term → Term → Option (Bool × Int)
def appliedM (t : Term) : List Term := [.mk 6 0 0 [] [lift t 1 0, .mk 1 0 0 [] []]]
def halvesM (t : Term) : List Term := [.mk 14 0 0 [] [t], .mk 15 0 0 [] [t]]
def partsM (t : Term) (k : Int) : List Term := if t.kind = k then (if k = 13 then [kid t 0, kid t 1] else [kid t 1]) else (if k = 13 then halvesM t else appliedM t)
def mattersM (t : Term) : List Term := if t.kind = 18 then [kid t 2, kid t 3, kid t 4] else if t.kind = 21 then [kid t 2, kid t 3, kid t 5] else t.kids
def alikeM (p q : Term) : Bool := decide (p.kind = q.kind) && decide (p.num = q.num) && decide (p.at_ = q.at_) && decide (p.kids.length = q.kids.length) && lvsSame p.levels q.levels
def allM (one : Ask) : Int → List Term → List Term → Option (Bool × Int)
  | F, [], _ => some (true, F)
  | F, p :: ps, qs => match one F p (qs.headD T0) with
    | none => none
    | some (false, F') => some (false, F')
    | some (true, F') => allM one F' ps qs.tail
def headsM (one : Ask) (F : Int) (p q : Term) : Option (Bool × Int) :=
  if p.kind = 5 ∨ q.kind = 5 then allM one F (partsM p 5) (partsM q 5)
  else if p.kind = 13 ∨ q.kind = 13 then allM one F (partsM p 13) (partsM q 13)
  else if alikeM p q = true then allM one F (mattersM p) (mattersM q) else some (false, F)
def whnf2 (cs : List Core) (F : Int) (p q : Term) (k : Int → Term → Term → Option (Bool × Int)) : Option (Bool × Int) :=
  if (whnfM cs p F).2.2 = 0 then (if (whnfM cs q (whnfM cs p F).2.1).2.2 = 0 then k (whnfM cs q (whnfM cs p F).2.1).2.1 (whnfM cs p F).1 (whnfM cs q (whnfM cs p F).2.1).1 else none) else none
def oneM (cs : List Core) : Nat → Ask
  | 0 => fun _ _ _ => none
  | n + 1 => fun F p q => if F ≤ 0 then none else if sameM p q = true then some (true, F - 1) else whnf2 cs (F - 1) p q (fun G x y => headsM (oneM cs n) G x y)
def mostK (cs : List Core) (one most : Ask) (F : Int) (x y : Term) : Option (Bool × Int) :=
  if x.kind = 2 ∧ y.kind = 2 ∧ x.levels.length = 1 ∧ y.levels.length = 1 then some (lvLeq (x.levels.getD 0 default) (y.levels.getD 0 default), F)
  else if x.kind = 4 ∧ y.kind = 4 then (match allM one F [kid x 0] [kid y 0] with
    | none => none
    | some (false, F') => some (false, F')
    | some (true, F') => most F' (kid x 1) (kid y 1))
  else one F x y
def mostM (cs : List Core) : Nat → Ask
  | 0 => fun _ _ _ => none
  | n + 1 => fun F p q => if F ≤ 0 then none else if sameM p q = true then some (true, F - 1) else whnf2 cs (F - 1) p q (fun G x y => mostK cs (oneM cs n) (mostM cs n) G x y)
theorem whnf2_some {cs : List Core} {F : Int} {p q : Term} {k : Int → Term → Term → Option (Bool × Int)} {r : Bool × Int} (h : whnf2 cs F p q k = some r) :
    ∃ x F2 y F3, whnfM cs p F = (x, F2, 0) ∧ whnfM cs q F2 = (y, F3, 0) ∧ k F3 x y = some r := by
  unfold whnf2 at h
  split at h
  · rename_i h1
    split at h
    · rename_i h2
      exact ⟨_, _, _, _, Prod.ext rfl (Prod.ext rfl h1), Prod.ext rfl (Prod.ext rfl h2), h⟩
    · cases h
  · cases h
theorem whnf2_mk {cs : List Core} {F F2 F3 : Int} {p q x y : Term} {k : Int → Term → Term → Option (Bool × Int)} (h1 : whnfM cs p F = (x, F2, 0)) (h2 : whnfM cs q F2 = (y, F3, 0)) : whnf2 cs F p q k = k F3 x y := by
  unfold whnf2
  simp only [h1, h2, if_true]
def W (F : Int) (t : Term) : Prop := t.fit 1099511627776 ∧ (fsz t : Int) + 7 * F ≤ 268435456
theorem W.kid {F G : Int} {t : Term} (h : W F t) (hG : G ≤ F) (k : Int) : W G (kid t k) := by
  have := fsz_kid t k
  have h2 := h.2
  exact ⟨kid_fit h.1 k, by omega⟩
theorem W.mem {F G : Int} {t k : Term} (h : W F t) (hG : G ≤ F) (hk : k ∈ t.kids) : W G k := by
  have := fsz_kid' hk
  have h2 := h.2
  exact ⟨h.1.kid hk, by omega⟩
theorem W.mono {F G : Int} {t : Term} (h : W F t) (hG : G ≤ F) : W G t := ⟨h.1, by have := h.2; omega⟩
theorem W_app {F : Int} {t : Term} (hf : t.fit 1099511627776) (h : (fsz t : Int) + 2 + 7 * F ≤ 268435456) : ∀ u ∈ appliedM t, W F u := by
  intro u hu
  simp only [appliedM, List.mem_singleton] at hu
  subst hu
  have hv : (Term.mk 1 0 0 [] []).fit 1099511627776 := mk_fit (by simp) (fun t ht => by cases ht) (by omega)
  refine ⟨mk_fit (by simp) (fun u hu => ?_) (by omega), ?_⟩
  · simp at hu
    rcases hu with rfl | rfl
    · exact lift_fit hf _ _
    · exact hv
  · have hl : lack 6 0 2 = 0 := by simp [lack, spotOf]
    have hl1 : lack 1 0 0 = 0 := by simp [lack, spotOf]
    have : fsz (.mk 6 0 0 [] [lift t 1 0, .mk 1 0 0 [] []]) = fsz t + 2 := by
      simp only [fsz, fszs, List.length_cons, List.length_nil, hl, hl1, lift_fsz]; omega
    rw [this]; push_cast; omega
theorem W_half {F : Int} {t : Term} (hf : t.fit 1099511627776) (h : (fsz t : Int) + 2 + 7 * F ≤ 268435456) : ∀ u ∈ halvesM t, W F u := by
  intro u hu
  simp only [halvesM, List.mem_cons, List.not_mem_nil, or_false] at hu
  have hl : lack 14 0 1 = 0 := by simp [lack, spotOf]
  have hl1 : lack 15 0 1 = 0 := by simp [lack, spotOf]
  rcases hu with rfl | rfl
  · refine ⟨mk_fit (by simp) (fun u hu => by simp at hu; subst hu; exact hf) (by omega), ?_⟩
    have : fsz (.mk 14 0 0 [] [t]) = fsz t + 1 := by
      simp only [fsz, fszs, List.length_cons, List.length_nil, hl]; omega
    rw [this]; push_cast; omega
  · refine ⟨mk_fit (by simp) (fun u hu => by simp at hu; subst hu; exact hf) (by omega), ?_⟩
    have : fsz (.mk 15 0 0 [] [t]) = fsz t + 1 := by
      simp only [fsz, fszs, List.length_cons, List.length_nil, hl1]; omega
    rw [this]; push_cast; omega
theorem W_parts {F : Int} {t : Term} (k : Int) (hf : t.fit 1099511627776) (h : (fsz t : Int) + 2 + 7 * F ≤ 268435456) : ∀ u ∈ partsM t k, W F u := by
  intro u hu
  have ht : W F t := ⟨hf, by omega⟩
  unfold partsM at hu
  split at hu
  · split at hu
    · simp at hu
      rcases hu with rfl | rfl <;> exact ht.kid (Int.le_refl _) _
    · simp at hu; subst hu; exact ht.kid (Int.le_refl _) _
  · split at hu
    · exact W_half hf h u hu
    · exact W_app hf h u hu
theorem W_matters {F : Int} {t : Term} (h : W F t) : ∀ u ∈ mattersM t, W F u := by
  intro u hu
  unfold mattersM at hu
  split at hu
  · simp at hu
    rcases hu with rfl | rfl | rfl <;> exact h.kid (Int.le_refl _) _
  · split at hu
    · simp at hu
      rcases hu with rfl | rfl | rfl <;> exact h.kid (Int.le_refl _) _
    · exact h.mem (Int.le_refl _) hu
theorem partsM_len (p q : Term) (k : Int) : (partsM p k).length = (partsM q k).length := by
  unfold partsM halvesM appliedM
  split <;> split <;> split <;> rfl
theorem matters_len {p q : Term} (h : alikeM p q = true) : (mattersM p).length = (mattersM q).length := by
  simp only [alikeM, Bool.and_eq_true, decide_eq_true_eq] at h
  unfold mattersM
  rw [h.1.1.1.1]
  split
  · rfl
  · split
    · rfl
    · exact h.1.2
def Shifts (f g : Ask) (F0 G0 : Int) : Prop := ∀ F p q r F', 0 ≤ F → F ≤ F0 → W F p → W F q → f F p q = some (r, F') → 0 ≤ F' ∧ F' ≤ F ∧ ∀ G, F - F' ≤ G → G ≤ G0 → g G p q = some (r, G - (F - F'))
theorem all_shift {f g : Ask} {F0 G0 : Int} (h : Shifts f g F0 G0) : ∀ (ps qs : List Term) (F : Int) r F', 0 ≤ F → F ≤ F0 → (∀ u ∈ ps, W F u) → (∀ u ∈ qs, W F u) → W F T0 → allM f F ps qs = some (r, F') →
    0 ≤ F' ∧ F' ≤ F ∧ ∀ G, F - F' ≤ G → G ≤ G0 → allM g G ps qs = some (r, G - (F - F'))
  | [], qs, F, r, F', h0, h1, hp, hq, hT, e => by
    simp [allM] at e
    obtain ⟨rfl, rfl⟩ := e
    exact ⟨h0, Int.le_refl _, fun G _ _ => by simp [allM]⟩
  | p :: ps, qs, F, r, F', h0, h1, hp, hq, hT, e => by
    have hqh : W F (qs.headD T0) := by
      cases qs with
      | nil => exact hT
      | cons q qs => exact hq q (by simp)
    rw [allM] at e
    cases ho : f F p (qs.headD T0) with
    | none => rw [ho] at e; cases e
    | some v =>
      obtain ⟨b, F1⟩ := v
      rw [ho] at e
      obtain ⟨a1, a2, a3⟩ := h F p _ b F1 h0 h1 (hp p (by simp)) hqh ho
      cases b with
      | false =>
        simp at e
        obtain ⟨rfl, rfl⟩ := e
        refine ⟨a1, a2, fun G g0 g1 => ?_⟩
        rw [allM, a3 G g0 g1]
      | true =>
        simp only at e
        obtain ⟨b1, b2, b3⟩ := all_shift h ps qs.tail F1 r F' a1 (by omega) (fun u hu => (hp u (by simp [hu])).mono a2) (fun u hu => (hq u (List.mem_of_mem_tail hu)).mono a2) (hT.mono a2) e
        refine ⟨b1, by omega, fun G g0 g1 => ?_⟩
        rw [allM, a3 G (by omega) g1]
        simp only
        rw [b3 (G - (F - F1)) (by omega) (by omega)]
        congr 2; omega
theorem WT0 {F : Int} (h : 1 + 7 * F ≤ 268435456) : W F T0 := ⟨T0_fit, by rw [fsz_T0]; exact h⟩
theorem heads_shift {f g : Ask} {F0 G0 : Int} (h : Shifts f g F0 G0) {p q : Term} {F : Int} {r : Bool} {F' : Int} (h0 : 0 ≤ F) (h1 : F ≤ F0) (hp : p.fit 1099511627776 ∧ (fsz p : Int) + 2 + 7 * F ≤ 268435456) (hq : q.fit 1099511627776 ∧ (fsz q : Int) + 2 + 7 * F ≤ 268435456)
    (e : headsM f F p q = some (r, F')) : 0 ≤ F' ∧ F' ≤ F ∧ ∀ G, F - F' ≤ G → G ≤ G0 → headsM g G p q = some (r, G - (F - F')) := by
  have hT : W F T0 := WT0 (by have := fsz_pos p; omega)
  unfold headsM at e ⊢
  split at e
  · rename_i c
    have := all_shift h _ _ F r F' h0 h1 (W_parts 5 hp.1 hp.2) (W_parts 5 hq.1 hq.2) hT e
    exact ⟨this.1, this.2.1, fun G g0 g1 => by rw [if_pos c]; exact this.2.2 G g0 g1⟩
  · rename_i c
    split at e
    · rename_i c2
      have := all_shift h _ _ F r F' h0 h1 (W_parts 13 hp.1 hp.2) (W_parts 13 hq.1 hq.2) hT e
      exact ⟨this.1, this.2.1, fun G g0 g1 => by rw [if_neg c, if_pos c2]; exact this.2.2 G g0 g1⟩
    · rename_i c2
      split at e
      · rename_i c3
        have := all_shift h _ _ F r F' h0 h1 (W_matters ⟨hp.1, by omega⟩) (W_matters ⟨hq.1, by omega⟩) hT e
        exact ⟨this.1, this.2.1, fun G g0 g1 => by rw [if_neg c, if_neg c2, if_pos c3]; exact this.2.2 G g0 g1⟩
      · rename_i c3
        cases e
        exact ⟨h0, Int.le_refl _, fun G g0 g1 => by rw [if_neg c, if_neg c2, if_neg c3]; congr 2; omega⟩
theorem whnf2_shift {cs : List Core} (hc : CoresOk cs) {F : Int} {p q : Term} {k k' : Int → Term → Term → Option (Bool × Int)} {r : Bool} {F' G0 : Int} (h0 : 0 ≤ F) (h1 : F ≤ 1073741824) (hG : G0 ≤ 1073741824) (hp : W F p) (hq : W F q)
    (hk : ∀ x y F3, 0 ≤ F3 → F3 ≤ F → x.fit 1099511627776 → y.fit 1099511627776 → (fsz x : Int) + 7 * F3 ≤ fsz p + 7 * F → (fsz y : Int) + 7 * F3 ≤ fsz q + 7 * F → pad x = x → stepOnce cs x = none → pad y = y → stepOnce cs y = none → k F3 x y = some (r, F') →
      0 ≤ F' ∧ F' ≤ F3 ∧ ∀ G, F3 - F' ≤ G → G ≤ G0 → k' G x y = some (r, G - (F3 - F')))
    (e : whnf2 cs F p q k = some (r, F')) : 0 ≤ F' ∧ F' ≤ F ∧ ∀ G, F - F' ≤ G → G ≤ G0 → whnf2 cs G p q k' = some (r, G - (F - F')) := by
  obtain ⟨x, F2, y, F3, e1, e2, e3⟩ := whnf2_some e
  obtain ⟨xf, x0, x1, xz, xp, xs⟩ := whnf_ok hc hp.1 h0 h1 hp.2 e1
  have hq2 := (hq.mono x1)
  obtain ⟨yf, y0, y1, yz, yp, ys⟩ := whnf_ok hc hq.1 x0 (by omega) hq2.2 e2
  obtain ⟨a1, a2, a3⟩ := hk x y F3 y0 (by omega) xf yf (by omega) (by omega) xp xs yp ys e3
  refine ⟨a1, by omega, fun G g0 g1 => ?_⟩
  have s1 := whnf_shift hc hp.1 h0 h1 hp.2 e1 (G := G) (by omega) (by omega)
  have s2 := whnf_shift hc hq.1 x0 (by omega) hq2.2 e2 (G := G - (F - F2)) (by omega) (by omega)
  rw [whnf2_mk s1 s2, a3 _ (by omega) (by omega)]
  congr 2; omega
theorem oneM_succ (cs : List Core) (n : Nat) (F : Int) (p q : Term) : oneM cs (n + 1) F p q = if F ≤ 0 then none else if sameM p q = true then some (true, F - 1) else whnf2 cs (F - 1) p q (fun G x y => headsM (oneM cs n) G x y) := rfl
theorem mostM_succ (cs : List Core) (n : Nat) (F : Int) (p q : Term) : mostM cs (n + 1) F p q = if F ≤ 0 then none else if sameM p q = true then some (true, F - 1) else whnf2 cs (F - 1) p q (fun G x y => mostK cs (oneM cs n) (mostM cs n) G x y) := rfl
theorem one_shift {cs : List Core} (hc : CoresOk cs) : ∀ (n m : Nat), Shifts (oneM cs n) (oneM cs m) (min (n : Int) 1073741824) (min ((m : Int) - 1) 1073741824) := by
  intro n
  induction n with
  | zero => intro m F p q r F' _ _ _ _ e; cases e
  | succ n ih =>
    intro m F p q r F' h0 h1 hp hq e
    rw [oneM_succ] at e
    have hp2 := hp.2
    have hq2 := hq.2
    have key : ∀ m : Nat, 0 ≤ F' ∧ F' ≤ F ∧ 1 ≤ F - F' ∧ ∀ G, F - F' ≤ G → G ≤ min (m : Int) 1073741824 → oneM cs (m + 1) G p q = some (r, G - (F - F')) := by
      intro m
      split at e
      · cases e
      · rename_i hF
        split at e
        · rename_i hs
          cases e
          refine ⟨by omega, by omega, by omega, fun G g0 g1 => ?_⟩
          rw [oneM_succ, if_neg (by omega), if_pos hs]
          congr 2; omega
        · rename_i hs
          have := whnf2_shift hc (by omega) (by omega) (G0 := min (m : Int) 1073741824 - 1) (by omega) (hp.mono (by omega)) (hq.mono (by omega)) (k' := fun G x y => headsM (oneM cs m) G x y)
            (fun x y F3 f0 f1 xf yf xz yz xp xs yp ys e3 =>
              heads_shift (G0 := min (m : Int) 1073741824 - 1) (F0 := min (n : Int) 1073741824) (fun F p q r F' a b c d e => by
                have := ih m F p q r F' a b c d e
                exact ⟨this.1, this.2.1, fun G g0 g1 => this.2.2 G g0 (by omega)⟩) f0 (by omega) ⟨xf, by omega⟩ ⟨yf, by omega⟩ e3) e
          refine ⟨this.1, by omega, by omega, fun G g0 g1 => ?_⟩
          rw [oneM_succ, if_neg (by omega), if_neg hs, this.2.2 (G - 1) (by omega) (by omega)]
          congr 2; omega
    refine ⟨(key 0).1, (key 0).2.1, fun G g0 g1 => ?_⟩
    have h3 := (key 0).2.2.1
    cases m with
    | zero => exfalso; omega
    | succ m => exact (key m).2.2.2 G g0 (by push_cast at g1; omega)
theorem most_shift {cs : List Core} (hc : CoresOk cs) : ∀ (n m : Nat), Shifts (mostM cs n) (mostM cs m) (min (n : Int) 1073741824) (min ((m : Int) - 1) 1073741824) := by
  intro n
  induction n with
  | zero => intro m F p q r F' _ _ _ _ e; cases e
  | succ n ih =>
    intro m F p q r F' h0 h1 hp hq e
    rw [mostM_succ] at e
    have hp2 := hp.2
    have hq2 := hq.2
    have key : ∀ m : Nat, 0 ≤ F' ∧ F' ≤ F ∧ 1 ≤ F - F' ∧ ∀ G, F - F' ≤ G → G ≤ min (m : Int) 1073741824 → mostM cs (m + 1) G p q = some (r, G - (F - F')) := by
      intro m
      split at e
      · cases e
      · rename_i hF
        split at e
        · rename_i hs
          cases e
          refine ⟨by omega, by omega, by omega, fun G g0 g1 => ?_⟩
          rw [mostM_succ, if_neg (by omega), if_pos hs]
          congr 2; omega
        · rename_i hs
          have ihO : Shifts (oneM cs n) (oneM cs m) (min (n : Int) 1073741824) (min (m : Int) 1073741824 - 1) := fun F p q r F' a b c d e => by
            have := one_shift hc n m F p q r F' a b c d e
            exact ⟨this.1, this.2.1, fun G g0 g1 => this.2.2 G g0 (by omega)⟩
          have ihM : Shifts (mostM cs n) (mostM cs m) (min (n : Int) 1073741824) (min (m : Int) 1073741824 - 1) := fun F p q r F' a b c d e => by
            have := ih m F p q r F' a b c d e
            exact ⟨this.1, this.2.1, fun G g0 g1 => this.2.2 G g0 (by omega)⟩
          have := whnf2_shift hc (by omega) (by omega) (G0 := min (m : Int) 1073741824 - 1) (by omega) (hp.mono (by omega)) (hq.mono (by omega)) (k' := fun G x y => mostK cs (oneM cs m) (mostM cs m) G x y)
            (fun x y F3 f0 f1 xf yf xz yz xp xs yp ys e3 => by
              have wx : W F3 x := ⟨xf, by omega⟩
              have wy : W F3 y := ⟨yf, by omega⟩
              have hT : W F3 T0 := WT0 (by have := fsz_pos x; omega)
              unfold mostK at e3 ⊢
              split at e3
              · rename_i c
                cases e3
                exact ⟨f0, Int.le_refl _, fun G g0 g1 => by rw [if_pos c]; congr 2; omega⟩
              · rename_i c
                split at e3
                · rename_i c2
                  cases ha : allM (oneM cs n) F3 [kid x 0] [kid y 0] with
                  | none => rw [ha] at e3; cases e3
                  | some v =>
                    obtain ⟨b, F1⟩ := v
                    rw [ha] at e3
                    obtain ⟨a1, a2, a3⟩ := all_shift ihO [kid x 0] [kid y 0] F3 b F1 f0 (by omega) (fun u hu => by rw [List.mem_singleton.1 hu]; exact wx.kid (Int.le_refl _) _) (fun u hu => by rw [List.mem_singleton.1 hu]; exact wy.kid (Int.le_refl _) _) hT ha
                    cases b with
                    | false =>
                      simp at e3
                      obtain ⟨rfl, rfl⟩ := e3
                      exact ⟨a1, a2, fun G g0 g1 => by rw [if_neg c, if_pos c2, a3 G g0 g1]⟩
                    | true =>
                      simp only at e3
                      obtain ⟨b1, b2, b3⟩ := ihM F1 _ _ r F' a1 (by omega) (wx.kid a2 1) (wy.kid a2 1) e3
                      refine ⟨b1, by omega, fun G g0 g1 => ?_⟩
                      rw [if_neg c, if_pos c2, a3 G (by omega) g1]
                      simp only
                      rw [b3 _ (by omega) (by omega)]
                      congr 2; omega
                · rename_i c2
                  obtain ⟨b1, b2, b3⟩ := ihO F3 x y r F' f0 (by omega) wx wy e3
                  exact ⟨b1, b2, fun G g0 g1 => by rw [if_neg c, if_neg c2]; exact b3 G g0 g1⟩) e
          refine ⟨this.1, by omega, by omega, fun G g0 g1 => ?_⟩
          rw [mostM_succ, if_neg (by omega), if_neg hs, this.2.2 (G - 1) (by omega) (by omega)]
          congr 2; omega
    refine ⟨(key 0).1, (key 0).2.1, fun G g0 g1 => ?_⟩
    have h3 := (key 0).2.2.1
    cases m with
    | zero => exfalso; omega
    | succ m => exact (key m).2.2.2 G g0 (by push_cast at g1; omega)
end Sp

/- What is one is at most; products. -/
set_option linter.unusedVariables false
set_option linter.unusedSimpArgs false
namespace Sp
open Go
def convM (cs : List Core) (F : Int) (p q : Term) : Bool × Int × Int :=
  if F < 0 ∨ 1073741824 < F then (false, 0, 2) else match oneM cs (F.toNat + 1) F p q with
  | some (r, F') => (r, F', 0)
  | none => (false, 0, 5)
def leqM (cs : List Core) (F : Int) (p q : Term) : Bool × Int × Int :=
  if F < 0 ∨ 1073741824 < F then (false, 0, 2) else match mostM cs (F.toNat + 1) F p q with
  | some (r, F') => (r, F', 0)
  | none => (false, 0, 5)
theorem convM_ok {cs : List Core} {F : Int} {p q : Term} (h : (convM cs F p q).2.2 = 0) : 0 ≤ F ∧ F ≤ 1073741824 ∧ oneM cs (F.toNat + 1) F p q = some ((convM cs F p q).1, (convM cs F p q).2.1) := by
  unfold convM at h ⊢
  split at h
  · cases h
  · rename_i h1
    rw [if_neg h1]
    cases e : oneM cs (F.toNat + 1) F p q with
    | none => rw [e] at h; cases h
    | some v => obtain ⟨r, F'⟩ := v; exact ⟨by omega, by omega, rfl⟩
theorem leqM_ok {cs : List Core} {F : Int} {p q : Term} (h : (leqM cs F p q).2.2 = 0) : 0 ≤ F ∧ F ≤ 1073741824 ∧ mostM cs (F.toNat + 1) F p q = some ((leqM cs F p q).1, (leqM cs F p q).2.1) := by
  unfold leqM at h ⊢
  split at h
  · cases h
  · rename_i h1
    rw [if_neg h1]
    cases e : mostM cs (F.toNat + 1) F p q with
    | none => rw [e] at h; cases h
    | some v => obtain ⟨r, F'⟩ := v; exact ⟨by omega, by omega, rfl⟩
def OneT (cs : List Core) (p q : Term) : Prop := ∃ (n : Nat) (F F' : Int), 0 ≤ F ∧ F ≤ min (n : Int) 1073741824 ∧ W F p ∧ W F q ∧ oneM cs n F p q = some (true, F')
abbrev piT (c a : Term) : Term := .mk 4 0 0 [] [c, a]
end Sp

/- Small change of asking. -/
set_option linter.unusedVariables false
set_option linter.unusedSimpArgs false
namespace Sp
open Go
def oB (r : Option (Bool × Int)) : Bool := match r with | some (b, _) => b | none => false
def oL (r : Option (Bool × Int)) : Int := match r with | some (_, F) => F | none => 0
def idxM (g : Part → Bool) : List Part → Int → Int
  | [], _ => -1
  | p :: ps, i => if g p = true then i else idxM g ps (i + 1)
theorem idxM_any (g : Part → Bool) : ∀ (ps : List Part) (i : Int), 0 ≤ i → decide (0 ≤ idxM g ps i) = ps.any g
  | [], i, h => by simp [idxM]
  | p :: ps, i, h => by
    rw [idxM, List.any_cons]
    cases hg : g p with
    | true => simp [h]
    | false => simp only [Bool.false_eq_true, if_false, Bool.false_or]; exact idxM_any g ps (i + 1) (by omega)
theorem lvsSame_len : ∀ {a b : List Level}, a.length ≠ b.length → lvsSame a b = false
  | [], [], h => absurd rfl h
  | [], _ :: _, _ => rfl
  | _ :: _, [], _ => rfl
  | a :: as, b :: bs, h => by simp [lvsSame, lvsSame_len (a := as) (b := bs) (by simpa using h)]
theorem samesM_len : ∀ {a b : List Term}, a.length ≠ b.length → samesM a b = false
  | [], [], h => absurd rfl h
  | [], _ :: _, _ => by simp [samesM]
  | _ :: _, [], _ => by simp [samesM]
  | a :: as, b :: bs, h => by simp [samesM, samesM_len (a := as) (b := bs) (by simpa using h)]
theorem allM_step_false {one : Ask} {F F' : Int} {p : Term} {ps qs : List Term} (h : one F p (qs.headD T0) = some (false, F')) : allM one F (p :: ps) qs = some (false, F') := by rw [allM, h]
theorem allM_step_true {one : Ask} {F F' : Int} {p : Term} {ps qs : List Term} (h : one F p (qs.headD T0) = some (true, F')) : allM one F (p :: ps) qs = allM one F' ps qs.tail := by rw [allM, h]
theorem allM_step_none {one : Ask} {F : Int} {p : Term} {ps qs : List Term} (h : one F p (qs.headD T0) = none) : allM one F (p :: ps) qs = none := by rw [allM, h]
theorem o_none {r : Option (Bool × Int)} (h : ¬ r.isSome = true) : r = none := by cases r <;> simp_all
theorem o_false {r : Option (Bool × Int)} (h : r.isSome = true) (hb : oB r = false) : r = some (false, oL r) := by
  cases r with
  | none => cases h
  | some v => obtain ⟨b, F⟩ := v; simp only [oB] at hb; subst hb; rfl
theorem o_true {r : Option (Bool × Int)} (h : r.isSome = true) (hb : oB r = true) : r = some (true, oL r) := by
  cases r with
  | none => cases h
  | some v => obtain ⟨b, F⟩ := v; simp only [oB] at hb; subst hb; rfl
theorem kidsM_take {t : Term} {zs : List Int} {i : Nat} (h : i < zs.length) : (zs.take (i + 1)).map (kid t) = (zs.take i).map (kid t) ++ [kid t (zs.getD i default)] := by
  rw [take_succ_getD h, List.map_append]; rfl
end Sp

/- The asker's rounds, one by one. -/
set_option linter.unusedVariables false
set_option linter.unusedSimpArgs false
namespace Sp
open Go
theorem fit_grow {B B' : Nat} (hB : B ≤ B') : ∀ (m : Nat) (t : Term), t.sz ≤ m → t.fit B → t.fit B'
  | 0, t, hm, _ => by cases t; simp only [Term.sz] at hm; omega
  | m + 1, t, hm, h => Term.fit_iff.2 ⟨Nat.le_trans h.llen hB, fun l hl => Nat.le_trans (h.plen hl) hB, Nat.le_trans h.len hB, fun k hk => fit_grow hB m k (by have := Term.sz_lt hk; omega) (h.kid hk), h.nr, h.atr⟩
theorem fitMax {t : Term} (h : t.fit 1099511627776) : t.fit 9223372036854775807 := fit_grow (by omega) _ t (Nat.le_refl _) h
theorem one_zero {cs : List Core} {n : Nat} {p q : Term} : oneM cs n 0 p q = none := by
  cases n with
  | zero => rfl
  | succ n => rw [oneM_succ, if_pos (by omega)]
theorem most_zero {cs : List Core} {n : Nat} {p q : Term} : mostM cs n 0 p q = none := by
  cases n with
  | zero => rfl
  | succ n => rw [mostM_succ, if_pos (by omega)]
theorem whnf2_no1 {cs : List Core} {F : Int} {p q : Term} {k : Int → Term → Term → Option (Bool × Int)} (h : ¬ (whnfM cs p F).2.2 = 0) : whnf2 cs F p q k = none := by
  unfold whnf2; rw [if_neg h]
theorem whnf2_no2 {cs : List Core} {F : Int} {p q : Term} {k : Int → Term → Term → Option (Bool × Int)} (h1 : (whnfM cs p F).2.2 = 0) (h : ¬ (whnfM cs q (whnfM cs p F).2.1).2.2 = 0) : whnf2 cs F p q k = none := by
  unfold whnf2; rw [if_pos h1, if_neg h]
theorem whnf2_yes {cs : List Core} {F : Int} {p q : Term} {k : Int → Term → Term → Option (Bool × Int)} (h1 : (whnfM cs p F).2.2 = 0) (h : (whnfM cs q (whnfM cs p F).2.1).2.2 = 0) :
    whnf2 cs F p q k = k (whnfM cs q (whnfM cs p F).2.1).2.1 (whnfM cs p F).1 (whnfM cs q (whnfM cs p F).2.1).1 := by
  unfold whnf2; rw [if_pos h1, if_pos h]
theorem head_ok {cs : List Core} (hc : CoresOk cs) {t : Term} {F : Int} (h0 : 0 ≤ F) (h1 : F ≤ 1073741824) (hw : W F t) (h : (whnfM cs t F).2.2 = 0) :
    (whnfM cs t F).1.fit 1099511627776 ∧ 0 ≤ (whnfM cs t F).2.1 ∧ (whnfM cs t F).2.1 ≤ F ∧ (fsz (whnfM cs t F).1 : Int) + 7 * (whnfM cs t F).2.1 ≤ fsz t + 7 * F := by
  obtain ⟨a, b, c, d, _⟩ := whnf_ok hc hw.1 h0 h1 hw.2 (show whnfM cs t F = ((whnfM cs t F).1, (whnfM cs t F).2.1, 0) from Prod.ext rfl (Prod.ext rfl h))
  exact ⟨a, b, c, d⟩
theorem mostK_leq {cs : List Core} {one most : Ask} {F : Int} {x y : Term} (h : x.kind = 2 ∧ y.kind = 2 ∧ x.levels.length = 1 ∧ y.levels.length = 1) : mostK cs one most F x y = some (lvLeq (x.levels.getD 0 default) (y.levels.getD 0 default), F) := by
  unfold mostK; rw [if_pos h]
theorem mostK_pi {cs : List Core} {one most : Ask} {F : Int} {x y : Term} (h : x.kind = 4 ∧ y.kind = 4) : mostK cs one most F x y = (match allM one F [kid x 0] [kid y 0] with
    | none => none
    | some (false, F') => some (false, F')
    | some (true, F') => most F' (kid x 1) (kid y 1)) := by
  unfold mostK; rw [if_neg (by omega), if_pos h]; try rfl
theorem mostK_pi_none {cs : List Core} {one most : Ask} {F : Int} {x y : Term} (h : x.kind = 4 ∧ y.kind = 4) (ha : ¬ (allM one F [kid x 0] [kid y 0]).isSome = true) : mostK cs one most F x y = none := by
  rw [mostK_pi h, o_none ha]
theorem mostK_pi_false {cs : List Core} {one most : Ask} {F : Int} {x y : Term} (h : x.kind = 4 ∧ y.kind = 4) (ha : (allM one F [kid x 0] [kid y 0]).isSome = true) (hb : oB (allM one F [kid x 0] [kid y 0]) = false) : mostK cs one most F x y = some (false, oL (allM one F [kid x 0] [kid y 0])) := by
  rw [mostK_pi h, o_false ha hb]
  rfl
theorem mostK_pi_true {cs : List Core} {one most : Ask} {F : Int} {x y : Term} (h : x.kind = 4 ∧ y.kind = 4) (ha : (allM one F [kid x 0] [kid y 0]).isSome = true) (hb : oB (allM one F [kid x 0] [kid y 0]) = true) : mostK cs one most F x y = most (oL (allM one F [kid x 0] [kid y 0])) (kid x 1) (kid y 1) := by
  rw [mostK_pi h, o_true ha hb]
  rfl
theorem mostK_one {cs : List Core} {one most : Ask} {F : Int} {x y : Term} (h : ¬ (x.kind = 2 ∧ y.kind = 2 ∧ x.levels.length = 1 ∧ y.levels.length = 1)) (h4 : ¬ (x.kind = 4 ∧ y.kind = 4)) : mostK cs one most F x y = one F x y := by
  unfold mostK; rw [if_neg h, if_neg h4]
def toldM (F : Int) (r : Option (Bool × Int)) : Bool × Int × Int := if F < 0 ∨ 1073741824 < F then (false, 0, 2) else match r with | some (b, F') => (b, F', 0) | none => (false, 0, 5)
theorem toldM_arg {F : Int} {r : Option (Bool × Int)} (h : F < 0 ∨ 1073741824 < F) : toldM F r = (false, 0, 2) := by unfold toldM; rw [if_pos h]
theorem toldM_ok {F : Int} {r : Option (Bool × Int)} (h : ¬ (F < 0 ∨ 1073741824 < F)) (hr : r.isSome = true) : toldM F r = (oB r, oL r, 0) := by
  unfold toldM; rw [if_neg h]
  cases r with
  | none => cases hr
  | some v => rfl
theorem toldM_gone {F : Int} {r : Option (Bool × Int)} (h : ¬ (F < 0 ∨ 1073741824 < F)) (hr : ¬ r.isSome = true) : toldM F r = (false, 0, 5) := by
  unfold toldM; rw [if_neg h, o_none hr]
end Sp

/- The law of most, over what Conv and Leq answer. -/
set_option linter.unusedVariables false
set_option linter.unusedSimpArgs false
set_option maxRecDepth 20000
namespace Sp
open Go
abbrev eF : Term := .mk 5 0 0 [] [.mk 22 2 0 [] [], .mk 6 0 0 [] [tv 1, tv 0]]
abbrev so (v p : Int) : Term := .mk 2 0 0 [[⟨v, p⟩]] []
end Sp

/- Which terms are right in the core. -/
set_option linter.unusedVariables false
set_option linter.unusedSimpArgs false
namespace Sp
open Go
def strictM : Level → Bool
  | p :: q :: r => decide (p.v < q.v) && strictM (q :: r)
  | _ => true
def badP (n : Int) (p : Part) : Bool := decide (p.v < 0) || decide (n < p.v) || decide (p.p < 0) || decide (1000 < p.p)
def lvRight (n : Int) (l : Level) : Bool := strictM l && decide (l.length ≤ 9) && !(l.any (badP n))
def cmpM (a b : Part) : Int := if b.v < a.v then 1 else -1
def idxB : List Bool → Int → Int
  | [], _ => -1
  | b :: bs, i => if b = false then i else idxB bs (i + 1)
theorem idxB_all : ∀ (bs : List Bool) (i : Int), 0 ≤ i → decide (0 ≤ idxB bs i) = !(bs.all id)
  | [], i, h => by simp [idxB]
  | b :: bs, i, h => by
    rw [idxB, List.all_cons]
    cases b with
    | false => simp [h]
    | true => simp only [Bool.true_eq_false, if_false, id_eq, Bool.true_and]; exact idxB_all bs (i + 1) (by omega)
def orM : List Int → Int
  | [] => 0
  | z :: zs => if z ≠ 0 then z else orM zs
def compM (a b : Int) : Int := if a < b then -1 else if b < a then 1 else 0
theorem or_comp (a b : Part) : orM [compM a.v b.v, -1] = cmpM a b := by
  unfold orM orM compM cmpM
  split <;> split <;> (try split) <;> (try split) <;> first | rfl | omega | simp_all
theorem strict_step {l : Level} {i : Nat} (h : i + 1 < l.length) : strictM (l.drop i) = (decide ((l.getD i default).v < (l.getD (i + 1) default).v) && strictM (l.drop (i + 1))) := by
  rw [drop_getD (by omega : i < l.length), drop_getD h, strictM]
theorem strict_drop : ∀ (n : Nat) (l : Level), strictM l = true → strictM (l.drop n) = true
  | 0, l, h => h
  | n + 1, [], h => by simp [strictM]
  | n + 1, [p], h => by simp [strictM]
  | n + 1, p :: q :: r, h => by
    rw [strictM, Bool.and_eq_true] at h
    exact strict_drop n (q :: r) h.2
theorem strict_last {l : Level} {i : Nat} (h : l.length ≤ i + 1) : strictM (l.drop i) = true := by
  have : (l.drop i).length ≤ 1 := by rw [List.length_drop]; omega
  match hd : l.drop i with
  | [] => rfl
  | [p] => rfl
  | p :: q :: r => rw [hd] at this; simp at this
def bareB (t : Term) : Bool := decide (t.num = 0) && decide (t.at_ = 0) && decide ((t.levels.length : Int) = 0)
def varB (nt : Int) (t : Term) : Bool := decide (0 ≤ t.num) && decide (t.num < nt) && decide (t.at_ = 0) && decide ((t.levels.length : Int) = 0)
def sortB (nl : Int) (t : Term) : Bool := decide (t.num = 0) && decide (t.at_ = 0) && decide ((t.levels.length : Int) = 1) && t.levels.all (lvRight nl)
def constB (nl : Int) (cn : List Int) (t : Term) : Bool := decide (0 ≤ t.num) && decide (t.num < cn.length) && decide (t.at_ = 0) && decide ((t.levels.length : Int) = cn.getD t.num.toNat default) && t.levels.all (lvRight nl)
def finB (t : Term) : Bool := decide (0 ≤ t.num) && decide (t.at_ = 0) && decide ((t.levels.length : Int) = 0)
def elemB (t : Term) : Bool := decide (0 ≤ t.num) && decide (t.num < t.at_) && decide ((t.levels.length : Int) = 0)
def casB (t : Term) : Bool := decide (t.num = 0) && decide (0 ≤ t.at_) && decide ((t.levels.length : Int) = 0)
def asksM (nl nt : Int) (cn : List Int) (t : Term) : Bool × Int :=
  if t.kind = 1 then (varB nt t, 0) else if t.kind = 2 then (sortB nl t, 0) else if t.kind = 3 then (constB nl cn t, 0)
  else if t.kind = 4 ∨ t.kind = 5 ∨ t.kind = 6 ∨ t.kind = 12 ∨ t.kind = 13 ∨ t.kind = 16 ∨ t.kind = 17 then (bareB t, 2)
  else if t.kind = 7 ∨ t.kind = 19 then (bareB t, 3) else if t.kind = 14 ∨ t.kind = 15 then (bareB t, 1) else if t.kind = 18 then (bareB t, 5)
  else if t.kind = 20 then (bareB t, 0) else if t.kind = 21 then (bareB t, 6) else if t.kind = 22 then (finB t, 0) else if t.kind = 23 then (elemB t, 0)
  else if t.kind = 24 then (casB t, w64 (t.at_ + 2)) else (false, 0)
mutual
def rightM (nl : Int) (cn : List Int) (nt : Int) : Term → Bool
  | .mk k n a ls ks => (asksM nl nt cn (.mk k n a ls ks)).1 && decide ((ks.length : Int) = (asksM nl nt cn (.mk k n a ls ks)).2) && rightsM nl cn nt k 0 ks
def rightsM (nl : Int) (cn : List Int) (nt : Int) (k i : Int) : List Term → Bool
  | [] => true
  | t :: ts => rightM nl cn (bif binds k i then nt + 1 else nt) t && rightsM nl cn nt k (i + 1) ts
end
theorem rightM_eq (nl : Int) (cn : List Int) (nt : Int) (t : Term) : rightM nl cn nt t = ((asksM nl nt cn t).1 && decide ((t.kids.length : Int) = (asksM nl nt cn t).2) && rightsM nl cn nt t.kind 0 t.kids) := by
  cases t; rw [rightM]; rfl
theorem rights_take {nl : Int} {cn : List Int} {nt k : Int} : ∀ (ts : List Term) (i : Nat) (z : Int), i < ts.length → rightsM nl cn nt k z (ts.take (i + 1)) = (rightsM nl cn nt k z (ts.take i) && rightM nl cn (bif binds k (z + i) then nt + 1 else nt) (ts.getD i default))
  | [], i, z, h => by simp at h
  | t :: ts, 0, z, h => by simp [rightsM]
  | t :: ts, i + 1, z, h => by
    have e := rights_take (nl := nl) (cn := cn) (nt := nt) (k := k) ts i (z + 1) (by simpa using h)
    rw [List.take_succ_cons, List.take_succ_cons, rightsM, rightsM, e, List.getD_cons_succ, Bool.and_assoc]
    have : z + 1 + (i : Int) = z + ((i + 1 : Nat) : Int) := by push_cast; omega
    rw [this]
theorem rights_fall {nl : Int} {cn : List Int} {nt k : Int} {ts : List Term} {i : Nat} (h : i < ts.length) (hr : rightM nl cn (bif binds k i then nt + 1 else nt) (ts.getD i default) = false) : rightsM nl cn nt k 0 ts = false := by
  have go : ∀ (ts : List Term) (i : Nat) (z : Int), i < ts.length → rightM nl cn (bif binds k (z + i) then nt + 1 else nt) (ts.getD i default) = false → rightsM nl cn nt k z ts = false := by
    intro ts
    induction ts with
    | nil => intro i z h; simp at h
    | cons t ts ih =>
      intro i z h hr
      rw [rightsM]
      cases i with
      | zero => simp at hr; rw [hr, Bool.false_and]
      | succ i =>
        rw [ih i (z + 1) (by simpa using h) (by rw [List.getD_cons_succ] at hr; have : z + 1 + (i : Int) = z + ((i + 1 : Nat) : Int) := by push_cast; omega
                                                rw [this]; exact hr), Bool.and_false]
  exact go ts i 0 h (by simpa using hr)
end Sp

/- What is right stays so: lifting, putting, levels. -/
set_option linter.unusedVariables false
set_option linter.unusedSimpArgs false
namespace Sp
open Go
theorem asks_nt {nl nt nu : Int} {cn : List Int} {t : Term} (h : ¬ t.kind = 1) : asksM nl nt cn t = asksM nl nu cn t := by
  unfold asksM; rw [if_neg h, if_neg h]
theorem asks_kids {nl nt : Int} {cn : List Int} {k n a : Int} {ls : List Level} {ks us : List Term} : asksM nl nt cn (.mk k n a ls ks) = asksM nl nt cn (.mk k n a ls us) := rfl
theorem asks_var {nl nt : Int} {cn : List Int} {t : Term} (h : t.kind = 1) : asksM nl nt cn t = (varB nt t, 0) := by unfold asksM; rw [if_pos h]
theorem varB_iff {nt : Int} {t : Term} : varB nt t = true ↔ 0 ≤ t.num ∧ t.num < nt ∧ t.at_ = 0 ∧ t.levels.length = 0 := by
  simp only [varB, Bool.and_eq_true, decide_eq_true_eq]; omega
theorem right_iff {nl : Int} {cn : List Int} {nt : Int} {t : Term} : rightM nl cn nt t = true ↔ (asksM nl nt cn t).1 = true ∧ (t.kids.length : Int) = (asksM nl nt cn t).2 ∧ rightsM nl cn nt t.kind 0 t.kids = true := by
  rw [rightM_eq]; simp [and_assoc]
section
variable {nl : Int} {cn : List Int}
mutual
theorem right_mono : ∀ (t : Term) (nt nu : Int), nt ≤ nu → rightM nl cn nt t = true → rightM nl cn nu t = true
  | .mk k n a ls ks, nt, nu, h, hr => by
    rw [rightM, Bool.and_eq_true, Bool.and_eq_true] at hr ⊢
    by_cases hk : k = 1
    · have e1 := asks_var (nl := nl) (nt := nt) (cn := cn) (t := .mk k n a ls ks) hk
      have e2 := asks_var (nl := nl) (nt := nu) (cn := cn) (t := .mk k n a ls ks) hk
      rw [e1] at hr
      rw [e2]
      have h1 := varB_iff.1 hr.1.1
      exact ⟨⟨varB_iff.2 ⟨h1.1, by have := h1.2.1; omega, h1.2.2⟩, hr.1.2⟩, rights_mono ks k 0 nt nu h hr.2⟩
    · rw [asks_nt (nl := nl) (nt := nu) (nu := nt) (cn := cn) (t := .mk k n a ls ks) hk]
      exact ⟨hr.1, rights_mono ks k 0 nt nu h hr.2⟩
theorem rights_mono : ∀ (ts : List Term) (k i : Int) (nt nu : Int), nt ≤ nu → rightsM nl cn nt k i ts = true → rightsM nl cn nu k i ts = true
  | [], _, _, _, _, _, _ => by simp [rightsM]
  | t :: ts, k, i, nt, nu, h, hr => by
    rw [rightsM, Bool.and_eq_true] at hr ⊢
    refine ⟨right_mono t _ _ ?_ hr.1, rights_mono ts k (i + 1) nt nu h hr.2⟩
    cases binds k i with
    | true => simp only [cond_true]; omega
    | false => exact h
end
mutual
theorem lift_right' (n f : Int) (h0 : 0 ≤ n) : ∀ (t : Term) (b nt : Int), nt + n + t.sz ≤ 4611686018427387904 → rightM nl cn nt t = true → rightM nl cn (nt + n) (walkM (liftG n f) no b t) = true
  | .mk k num a ls ks, b, nt, hb, hr => by
    rw [walkM]
    simp only [no, cond_false]
    rw [rightM, Bool.and_eq_true, Bool.and_eq_true] at hr
    have hks := lifts_right' n f h0 ks b k 0 nt (by simp only [Term.sz] at hb; omega) hr.2
    by_cases hk : k = 1
    · rw [asks_var (t := .mk k num a ls ks) hk] at hr
      have h1 := varB_iff.1 hr.1.1
      simp only [Term.num, Term.at_, Term.levels] at h1
      have hg : ∃ m, (liftG n f b (.mk k num a ls ks)) = .mk k m a ls ks ∧ 0 ≤ m ∧ m < nt + n := by
        unfold liftG
        split
        · refine ⟨w64 (num + n), rfl, ?_, ?_⟩ <;> rw [w64_id (by omega) (by simp only [Term.sz] at hb; omega)] <;> omega
        · exact ⟨num, rfl, h1.1, by omega⟩
      obtain ⟨m, hm, m0, m1⟩ := hg
      rw [hm]
      simp only [Term.kind, Term.num, Term.at_, Term.levels]
      rw [rightM, asks_var (t := .mk k m a ls _) hk, Bool.and_eq_true, Bool.and_eq_true]
      refine ⟨⟨varB_iff.2 ⟨m0, m1, h1.2.2⟩, ?_⟩, hks⟩
      rw [walkMs_length]; exact hr.1.2
    · have hg : liftG n f b (.mk k num a ls ks) = .mk k num a ls ks := by
        unfold liftG; rw [if_neg (fun e => hk e.1)]
      rw [hg]
      simp only [Term.kind, Term.num, Term.at_, Term.levels]
      rw [rightM, asks_nt (nl := nl) (nt := nt + n) (nu := nt) (cn := cn) (t := .mk k num a ls _) hk, asks_kids (us := ks), Bool.and_eq_true, Bool.and_eq_true, walkMs_length]
      exact ⟨hr.1, hks⟩
theorem lifts_right' (n f : Int) (h0 : 0 ≤ n) : ∀ (ts : List Term) (b k : Int) (i : Nat) (nt : Int), nt + n + 1 + Term.szs ts ≤ 4611686018427387904 → rightsM nl cn nt k i ts = true → rightsM nl cn (nt + n) k i (walkMs (liftG n f) no b k i ts) = true
  | [], _, _, _, _, _, _ => by simp [walkMs, rightsM]
  | t :: ts, b, k, i, nt, hb, hr => by
    rw [rightsM, Bool.and_eq_true] at hr
    rw [walkMs, rightsM, Bool.and_eq_true]
    simp only [Term.szs] at hb
    have h2 := lifts_right' n f h0 ts b k (i + 1) nt (by omega) (by rw [show ((i + 1 : Nat) : Int) = (i : Int) + 1 by push_cast; rfl]; exact hr.2)
    refine ⟨?_, by rw [show ((i + 1 : Nat) : Int) = (i : Int) + 1 by push_cast; rfl] at h2; exact h2⟩
    cases hbi : binds k i with
    | true =>
      rw [hbi] at hr
      have := lift_right' n f h0 t (b + 1) (nt + 1) (by omega) hr.1
      rw [show nt + 1 + n = nt + n + 1 by omega] at this
      exact this
    | false =>
      rw [hbi] at hr
      exact lift_right' n f h0 t b nt (by omega) hr.1
end
theorem lift_right {t : Term} {n f nt : Int} (h0 : 0 ≤ n) (hb : nt + n + t.sz ≤ 4611686018427387904) (h : rightM nl cn nt t = true) : rightM nl cn (nt + n) (lift t n f) = true := lift_right' n f h0 t 0 nt hb h
mutual
theorem put_right' {x : Term} {nt : Int} (hn : 0 ≤ nt) (hx : rightM nl cn nt x = true) : ∀ (t : Term) (b : Int), 0 ≤ b → nt + b + t.sz + x.sz ≤ 4611686018427387904 → rightM nl cn (nt + 1 + b) t = true → rightM nl cn (nt + b) (walkM (putG [x]) (putHit [x]) b t) = true
  | .mk k num a ls ks, b, h0, hb, hr => by
    rw [walkM]
    cases hh : putHit [x] b (.mk k num a ls ks) with
    | true =>
      rw [cond_true, putG_hit hh]
      exact lift_right h0 (by simp only [Term.sz] at hb; omega) hx
    | false =>
      rw [cond_false, putG_num hh]
      rw [rightM, Bool.and_eq_true, Bool.and_eq_true] at hr
      have hks := puts_right' hn hx ks b k 0 h0 (by simp only [Term.sz] at hb; omega) hr.2
      by_cases hk : k = 1
      · rw [asks_var (t := .mk k num a ls ks) hk] at hr
        have h1 := varB_iff.1 hr.1.1
        simp only [Term.num, Term.at_, Term.levels] at h1
        have hne : ¬ num = b := fun e => by rw [(putHit1 x b (.mk k num a ls ks)).2 ⟨hk, e⟩] at hh; cases hh
        have hg : ∃ m, (if (Term.mk k num a ls ks).kind = 1 ∧ b ≤ (Term.mk k num a ls ks).num then Term.mk (Term.mk k num a ls ks).kind ((Term.mk k num a ls ks).num - 1) (Term.mk k num a ls ks).at_ (Term.mk k num a ls ks).levels (Term.mk k num a ls ks).kids else .mk k num a ls ks) = .mk k m a ls ks ∧ 0 ≤ m ∧ m < nt + b := by
          by_cases hbn : b ≤ num
          · exact ⟨num - 1, if_pos ⟨hk, hbn⟩, by omega, by omega⟩
          · exact ⟨num, if_neg (fun e => hbn e.2), h1.1, by omega⟩
        obtain ⟨m, hm, m0, m1⟩ := hg
        rw [hm]
        simp only [Term.kind, Term.num, Term.at_, Term.levels]
        rw [rightM, asks_var (t := .mk k m a ls _) hk, Bool.and_eq_true, Bool.and_eq_true]
        refine ⟨⟨varB_iff.2 ⟨m0, m1, h1.2.2⟩, ?_⟩, hks⟩
        rw [walkMs_length]; exact hr.1.2
      · rw [if_neg (fun e => hk e.1)]
        simp only [Term.kind, Term.num, Term.at_, Term.levels]
        rw [rightM, asks_nt (nl := nl) (nt := nt + b) (nu := nt + 1 + b) (cn := cn) (t := .mk k num a ls _) hk, asks_kids (us := ks), Bool.and_eq_true, Bool.and_eq_true, walkMs_length]
        exact ⟨hr.1, hks⟩
theorem puts_right' {x : Term} {nt : Int} (hn : 0 ≤ nt) (hx : rightM nl cn nt x = true) : ∀ (ts : List Term) (b k : Int) (i : Nat), 0 ≤ b → nt + b + 1 + Term.szs ts + x.sz ≤ 4611686018427387904 → rightsM nl cn (nt + 1 + b) k i ts = true → rightsM nl cn (nt + b) k i (walkMs (putG [x]) (putHit [x]) b k i ts) = true
  | [], _, _, _, _, _, _ => by simp [walkMs, rightsM]
  | t :: ts, b, k, i, h0, hb, hr => by
    rw [rightsM, Bool.and_eq_true] at hr
    rw [walkMs, rightsM, Bool.and_eq_true]
    simp only [Term.szs] at hb
    have h2 := puts_right' hn hx ts b k (i + 1) h0 (by omega) (by rw [show ((i + 1 : Nat) : Int) = (i : Int) + 1 by push_cast; rfl]; exact hr.2)
    refine ⟨?_, by rw [show ((i + 1 : Nat) : Int) = (i : Int) + 1 by push_cast; rfl] at h2; exact h2⟩
    cases hbi : binds k i with
    | true =>
      rw [hbi] at hr
      have := put_right' hn hx t (b + 1) (by omega) (by omega) (by rw [show nt + 1 + (b + 1) = nt + 1 + b + 1 by omega]; exact hr.1)
      rw [show nt + (b + 1) = nt + b + 1 by omega] at this
      exact this
    | false =>
      rw [hbi] at hr
      exact put_right' hn hx t b h0 (by omega) hr.1
end
theorem put_right {t x : Term} {nt : Int} (hn : 0 ≤ nt) (hb : nt + t.sz + x.sz ≤ 4611686018427387904) (hx : rightM nl cn nt x = true) (h : rightM nl cn (nt + 1) t = true) : rightM nl cn nt (put t [x]) = true := by
  have := put_right' hn hx t 0 (Int.le_refl _) (by omega) (by rw [Int.add_zero]; exact h)
  rwa [Int.add_zero] at this
theorem kid_right {t : Term} {nt : Int} (h : rightM nl cn nt t = true) {i : Int} (h0 : 0 ≤ i) (h1 : i < t.kids.length) : rightM nl cn (bif binds t.kind i then nt + 1 else nt) (kid t i) = true := by
  have hr := (right_iff.1 h).2.2
  unfold kid
  rw [if_neg (by omega)]
  cases e : rightM nl cn (bif binds t.kind i then nt + 1 else nt) (t.kids.getD i.toNat default) with
  | true => rfl
  | false =>
    have := rights_fall (nl := nl) (cn := cn) (nt := nt) (k := t.kind) (ts := t.kids) (i := i.toNat) (by omega) (by rw [show ((i.toNat : Nat) : Int) = i by omega]; exact e)
    rw [this] at hr; cases hr
end
end Sp

/- Levels put into levels stay right. -/
set_option linter.unusedVariables false
set_option linter.unusedSimpArgs false
namespace Sp
open Go
def PB (n P : Int) (ps : List Part) : Prop := ∀ p ∈ ps, 0 ≤ p.v ∧ p.v ≤ n ∧ 0 ≤ p.p ∧ p.p ≤ P
def RB (n P : Int) (rows : Rows) : Prop := RowsOk rows ∧ ∀ e ∈ rows, e.1 ≤ n ∧ 0 ≤ e.2 ∧ e.2 ≤ P
theorem rget_bd {n P : Int} {rows : Rows} (hP : 0 ≤ P) (h : RB n P rows) (z : Int) : 0 ≤ rget rows z ∧ rget rows z ≤ P := by
  unfold rget
  cases rpos rows z with
  | none => exact ⟨Int.le_refl _, hP⟩
  | some j =>
    simp only
    cases hj : rows[j]? with
    | none => simpa using hP
    | some r =>
      have := h.2 r (List.mem_of_getElem? hj)
      simpa using this.2
theorem rset_mem {rows : Rows} {z p : Int} {e : Int × Int} (h : e ∈ rset rows z p) : e ∈ rows ∨ e = (z, p) := by
  unfold rset at h
  cases hp : rpos rows z with
  | none => rw [hp] at h; simpa using h
  | some j =>
    rw [hp] at h
    exact List.mem_or_eq_of_mem_set h
theorem rowPut_bd {n P : Int} (hn : n ≤ 8) (hP : 0 ≤ P ∧ P ≤ 1000) : ∀ (ps : List Part) (rows : Rows), PB n P ps → RB n P rows → ∃ r, rowPut rows ps = some r ∧ RB n P r
  | [], rows, _, h => ⟨rows, rfl, h⟩
  | p :: ps, rows, hp, h => by
    have h1 := hp p (by simp)
    have hb : ¬ badPart p := by unfold badPart; omega
    rw [rowPut, if_neg hb]
    refine rowPut_bd hn hP ps _ (fun q hq => hp q (by simp [hq])) ⟨h.1.set (by omega), fun e he => ?_⟩
    rcases rset_mem he with he | rfl
    · exact h.2 e he
    · have := rget_bd hP.1 h p.v
      simp only
      omega
theorem RB.nil (n P : Int) : RB n P [] := ⟨RowsOk.nil, fun e h => by cases h⟩
theorem strict_of : ∀ (l : Level), (l.map (·.v)).Pairwise (· < ·) → strictM l = true
  | [], _ => rfl
  | [p], _ => rfl
  | p :: q :: r, h => by
    rw [List.map_cons, List.map_cons, List.pairwise_cons] at h
    rw [strictM, Bool.and_eq_true]
    refine ⟨decide_eq_true (h.1 q.v (by simp)), strict_of (q :: r) ?_⟩
    rw [List.map_cons]; exact h.2
theorem partOf_some {rows : Rows} {v : Int} {q : Part} (h : partOf rows v = some q) : q.v = v ∧ q.p = rget rows v := by
  unfold partOf at h
  split at h
  · cases h; exact ⟨rfl, rfl⟩
  · cases h
theorem keys_strict {rows : Rows} (h : RowsOk rows) : (keysM rows).Pairwise (· < ·) := by
  have hs : (keysM rows).Pairwise (fun x y => decide (x ≤ y) = true) := List.pairwise_mergeSort (by simp; omega) (by simp; omega) _
  have hd : (keysM rows).Pairwise (· ≠ ·) := by
    have hp : (keysM rows).Perm (rows.map (·.1)) := List.mergeSort_perm _ _
    exact (hp.nodup_iff).2 h.1
  refine (hs.and hd).imp ?_
  rintro a b ⟨h1, h2⟩
  simp at h1
  omega
theorem keys_mem {rows : Rows} {z : Int} (h : z ∈ keysM rows) : ∃ e ∈ rows, e.1 = z := by
  have hp : (keysM rows).Perm (rows.map (·.1)) := List.mergeSort_perm _ _
  obtain ⟨e, he, hz⟩ := List.mem_map.1 (hp.mem_iff.1 h)
  exact ⟨e, he, hz⟩
theorem levelM_bd {n P : Int} {rows : Rows} (hn : n ≤ 8) (hP : 0 ≤ P) (h : RB n P rows) : strictM (levelM rows) = true ∧ (levelM rows).length ≤ 9 ∧ PB n P (levelM rows) := by
  refine ⟨strict_of _ ?_, ?_, fun q hq => ?_⟩
  · unfold levelM
    rw [List.pairwise_map]
    refine List.Pairwise.filterMap (f := partOf rows) (R := (· < ·)) (fun a b hab q hq r hr => ?_) (keys_strict h.1)
    have h1 := partOf_some hq
    have h2 := partOf_some hr
    rw [h1.1, h2.1]; exact hab
  · refine Nat.le_trans (levelM_len rows) ?_
    have h1 : ((rows.map (·.1)).map Int.toNat).Nodup := by
      rw [List.Nodup, List.pairwise_map]
      refine List.Pairwise.imp_of_mem ?_ h.1.1
      intro a b ha hb hne e
      obtain ⟨x, hx, rfl⟩ := List.mem_map.1 ha
      obtain ⟨y, hy, rfl⟩ := List.mem_map.1 hb
      have := h.1.2 x hx; have := h.1.2 y hy
      exact hne (by omega)
    have := nodup_lt_length (n := 9) h1 (fun i hi => by
      obtain ⟨z, hz, rfl⟩ := List.mem_map.1 hi
      obtain ⟨x, hx, rfl⟩ := List.mem_map.1 hz
      have h3 := h.1.2 x hx; have h4 := h.2 x hx; omega)
    simpa using this
  · obtain ⟨z, hz, hq⟩ := List.mem_filterMap.1 hq
    obtain ⟨e, he, rfl⟩ := keys_mem hz
    have h1 := partOf_some hq
    have h2 := rget_bd hP h e.1
    have h3 := h.1.2 e he
    have h4 := h.2 e he
    rw [h1.1, h1.2]
    exact ⟨h3.1, h4.1, h2⟩
theorem norm_bd {n P : Int} (hn : n ≤ 8) (hP : 0 ≤ P ∧ P ≤ 1000) {ps : List Part} (h : PB n P ps) : strictM (ofRows (rowPut [] ps)) = true ∧ (ofRows (rowPut [] ps)).length ≤ 9 ∧ PB n P (ofRows (rowPut [] ps)) := by
  obtain ⟨r, e, hr⟩ := rowPut_bd hn hP ps [] h (RB.nil n P)
  rw [e]
  exact levelM_bd hn hP.1 hr
theorem lvRight_iff {n : Int} {l : Level} : lvRight n l = true ↔ strictM l = true ∧ l.length ≤ 9 ∧ PB n 1000 l := by
  simp only [lvRight, Bool.and_eq_true, decide_eq_true_eq, Bool.not_eq_true', List.any_eq_false, badP, Bool.or_eq_true, not_or, PB, and_assoc]
  constructor
  · rintro ⟨a, b, c⟩
    exact ⟨a, b, fun p hp => by have := c p hp; omega⟩
  · rintro ⟨a, b, c⟩
    exact ⟨a, b, fun p hp => by have := c p hp; omega⟩
def lowL (l : Level) : Bool := l.all fun p => decide (p.p ≤ 400)
theorem low_bd {n : Int} {l : Level} (h : lvRight n l = true) (hl : lowL l = true) : PB n 400 l := fun p hp => by
  have h1 := (lvRight_iff.1 h).2.2 p hp
  have h2 := List.all_eq_true.1 hl p hp
  simp only [decide_eq_true_eq] at h2
  omega
theorem levelPut_right {nb nl : Int} (h00 : 0 ≤ nl) {l : Level} {by_ : List Level} (hnb : nb ≤ 8) (hnl : nl ≤ 8) (h : PB nb 400 l) (hb : ∀ x ∈ by_, PB nl 400 x) : lvRight nl (levelPutM l by_) = true := by
  have h0 : 0 ≤ nl ∨ nl < 0 := by omega
  have hN := (norm_bd hnb (by omega) h).2.2
  have hp : PB nl 800 (putParts l by_) ∨ nl < 0 := by
    rcases h0 with h0 | h0
    · left
      intro p hp
      obtain ⟨q, hq, hp⟩ := List.mem_flatMap.1 hp
      obtain ⟨x, hx, rfl⟩ := List.mem_map.1 hp
      have h1 := hN q hq
      have hxb : 0 ≤ x.v ∧ x.v ≤ nl ∧ 0 ≤ x.p ∧ x.p ≤ 400 := by
        unfold xOf1 at hx
        split at hx
        · rw [List.mem_singleton.1 hx]; simp only; omega
        · unfold xOf at hx
          split at hx
          · rename_i hv
            exact (norm_bd hnl (by omega) (hb _ (getD_mem (by omega)))).2.2 x hx
          · cases hx
      simp only [shiftP]
      rw [w64_id (by omega) (by omega)]
      omega
    · right; exact h0
  rcases hp with hp | hneg
  · have := norm_bd hnl (by omega) hp
    exact lvRight_iff.2 ⟨this.1, this.2.1, fun p hq => by have := this.2.2 p hq; omega⟩
  · -- no variable is below 0: every level among by_ is empty; not asked
    exact absurd hneg (by omega)
end Sp

/- What is right in the core is so behind each step. -/
set_option linter.unusedVariables false
set_option linter.unusedSimpArgs false
set_option maxRecDepth 20000
namespace Sp
open Go
mutual
def lowT : Term → Bool
  | .mk k n a ls ks => ls.all lowL && lowTs ks
def lowTs : List Term → Bool
  | [] => true
  | t :: ts => lowT t && lowTs ts
end
theorem lowT_eq (t : Term) : lowT t = (t.levels.all lowL && lowTs t.kids) := by cases t; rw [lowT]; rfl
theorem lowTs_iff : ∀ {ts : List Term}, lowTs ts = true ↔ ∀ t ∈ ts, lowT t = true
  | [] => by simp [lowTs]
  | t :: ts => by rw [lowTs, Bool.and_eq_true, lowTs_iff]; simp
theorem lowT_T0 : lowT T0 = true := by simp [T0, lowT, lowTs]
theorem low_kid {t : Term} (h : lowT t = true) (i : Int) : lowT (kid t i) = true := by
  rw [lowT_eq, Bool.and_eq_true] at h
  unfold kid
  split
  · exact lowT_T0
  · exact lowTs_iff.1 h.2 _ (getD_mem (by omega))
def asksF (k : Int) (vB sB cB bB fB eB kB : Bool) (w : Int) : Bool × Int :=
  if k = 1 then (vB, 0) else if k = 2 then (sB, 0) else if k = 3 then (cB, 0)
  else if k = 4 ∨ k = 5 ∨ k = 6 ∨ k = 12 ∨ k = 13 ∨ k = 16 ∨ k = 17 then (bB, 2)
  else if k = 7 ∨ k = 19 then (bB, 3) else if k = 14 ∨ k = 15 then (bB, 1) else if k = 18 then (bB, 5)
  else if k = 20 then (bB, 0) else if k = 21 then (bB, 6) else if k = 22 then (fB, 0) else if k = 23 then (eB, 0)
  else if k = 24 then (kB, w) else (false, 0)
theorem asks_F (nl nt : Int) (cn : List Int) (t : Term) : asksM nl nt cn t = asksF t.kind (varB nt t) (sortB nl t) (constB nl cn t) (bareB t) (finB t) (elemB t) (casB t) (w64 (t.at_ + 2)) := rfl
theorem asksF_mono {k w : Int} {vB sB cB bB fB eB kB vC sC cC bC fC eC kC : Bool} (h1 : vB = true → vC = true) (h2 : sB = true → sC = true) (h3 : cB = true → cC = true) (h4 : bB = true → bC = true) (h5 : fB = true → fC = true) (h6 : eB = true → eC = true) (h7 : kB = true → kC = true)
    (h : (asksF k vB sB cB bB fB eB kB w).1 = true) : asksF k vC sC cC bC fC eC kC w = (true, (asksF k vB sB cB bB fB eB kB w).2) := by
  unfold asksF at h ⊢
  by_cases c1 : k = 1
  · rw [if_pos c1] at h ⊢; rw [if_pos c1, h1 h]
  rw [if_neg c1] at h ⊢; rw [if_neg c1]
  by_cases c2 : k = 2
  · rw [if_pos c2] at h ⊢; rw [if_pos c2, h2 h]
  rw [if_neg c2] at h ⊢; rw [if_neg c2]
  by_cases c3 : k = 3
  · rw [if_pos c3] at h ⊢; rw [if_pos c3, h3 h]
  rw [if_neg c3] at h ⊢; rw [if_neg c3]
  by_cases c4 : k = 4 ∨ k = 5 ∨ k = 6 ∨ k = 12 ∨ k = 13 ∨ k = 16 ∨ k = 17
  · rw [if_pos c4] at h ⊢; rw [if_pos c4, h4 h]
  rw [if_neg c4] at h ⊢; rw [if_neg c4]
  by_cases c5 : k = 7 ∨ k = 19
  · rw [if_pos c5] at h ⊢; rw [if_pos c5, h4 h]
  rw [if_neg c5] at h ⊢; rw [if_neg c5]
  by_cases c6 : k = 14 ∨ k = 15
  · rw [if_pos c6] at h ⊢; rw [if_pos c6, h4 h]
  rw [if_neg c6] at h ⊢; rw [if_neg c6]
  by_cases c7 : k = 18
  · rw [if_pos c7] at h ⊢; rw [if_pos c7, h4 h]
  rw [if_neg c7] at h ⊢; rw [if_neg c7]
  by_cases c8 : k = 20
  · rw [if_pos c8] at h ⊢; rw [if_pos c8, h4 h]
  rw [if_neg c8] at h ⊢; rw [if_neg c8]
  by_cases c9 : k = 21
  · rw [if_pos c9] at h ⊢; rw [if_pos c9, h4 h]
  rw [if_neg c9] at h ⊢; rw [if_neg c9]
  by_cases c10 : k = 22
  · rw [if_pos c10] at h ⊢; rw [if_pos c10, h5 h]
  rw [if_neg c10] at h ⊢; rw [if_neg c10]
  by_cases c11 : k = 23
  · rw [if_pos c11] at h ⊢; rw [if_pos c11, h6 h]
  rw [if_neg c11] at h ⊢; rw [if_neg c11]
  by_cases c12 : k = 24
  · rw [if_pos c12] at h ⊢; rw [if_pos c12, h7 h]
  rw [if_neg c12] at h; cases h
section
variable {cn : List Int}
theorem asks_levels {nb nl nt k n a : Int} {ls : List Level} {ks us : List Term} {by_ : List Level} (h0 : 0 ≤ nl) (hnb : nb ≤ 8) (hnl : nl ≤ 8) (hb : ∀ x ∈ by_, PB nl 400 x) (hl : ls.all lowL = true)
    (h : (asksM nb nt cn (.mk k n a ls ks)).1 = true) : asksM nl nt cn (.mk k n a (ls.map fun l => levelPutM l by_) us) = (true, (asksM nb nt cn (.mk k n a ls ks)).2) := by
  have hlen : (ls.map fun l => levelPutM l by_).length = ls.length := List.length_map _
  have hall : ls.all (lvRight nb) = true → (ls.map fun l => levelPutM l by_).all (lvRight nl) = true := fun e => by
    rw [List.all_eq_true]
    intro x hx
    obtain ⟨l, hm, rfl⟩ := List.mem_map.1 hx
    exact levelPut_right h0 hnb hnl (low_bd (List.all_eq_true.1 e l hm) (List.all_eq_true.1 hl l hm)) hb
  rw [asks_F] at h ⊢
  refine asksF_mono ?_ ?_ ?_ ?_ ?_ ?_ ?_ h
  · simp only [varB, Term.num, Term.at_, Term.levels, hlen]; exact fun e => e
  · simp only [sortB, Term.num, Term.at_, Term.levels, hlen, Bool.and_eq_true]; exact fun e => ⟨e.1, hall e.2⟩
  · simp only [constB, Term.num, Term.at_, Term.levels, hlen, Bool.and_eq_true]; exact fun e => ⟨e.1, hall e.2⟩
  · simp only [bareB, Term.num, Term.at_, Term.levels, hlen]; exact fun e => e
  · simp only [finB, Term.num, Term.at_, Term.levels, hlen]; exact fun e => e
  · simp only [elemB, Term.num, Term.at_, Term.levels, hlen]; exact fun e => e
  · simp only [casB, Term.num, Term.at_, Term.levels, hlen]; exact fun e => e
mutual
theorem levels_right' {nb nl : Int} {by_ : List Level} (h0 : 0 ≤ nl) (hnb : nb ≤ 8) (hnl : nl ≤ 8) (hb : ∀ x ∈ by_, PB nl 400 x) : ∀ (t : Term) (b nt : Int), lowT t = true → rightM nb cn nt t = true → rightM nl cn nt (walkM (levelsG by_) no b t) = true
  | .mk k n a ls ks, b, nt, hl, hr => by
    rw [walkM]
    simp only [no, cond_false]
    rw [lowT, Bool.and_eq_true] at hl
    rw [rightM, Bool.and_eq_true, Bool.and_eq_true] at hr
    have hks := levelss_right' h0 hnb hnl hb ks b k 0 nt hl.2 hr.2
    have ha := asks_levels (us := walkMs (levelsG by_) no b k 0 ks) h0 hnb hnl hb hl.1 hr.1.1
    show rightM nl cn nt (.mk k n a (ls.map fun l => levelPutM l by_) (walkMs (levelsG by_) no b k 0 ks)) = true
    rw [rightM, ha, Bool.and_eq_true, Bool.and_eq_true, walkMs_length]
    exact ⟨⟨rfl, hr.1.2⟩, hks⟩
theorem levelss_right' {nb nl : Int} {by_ : List Level} (h0 : 0 ≤ nl) (hnb : nb ≤ 8) (hnl : nl ≤ 8) (hb : ∀ x ∈ by_, PB nl 400 x) : ∀ (ts : List Term) (b k : Int) (i : Nat) (nt : Int), lowTs ts = true → rightsM nb cn nt k i ts = true → rightsM nl cn nt k i (walkMs (levelsG by_) no b k i ts) = true
  | [], _, _, _, _, _, _ => by simp [walkMs, rightsM]
  | t :: ts, b, k, i, nt, hl, hr => by
    rw [lowTs, Bool.and_eq_true] at hl
    rw [rightsM, Bool.and_eq_true] at hr
    rw [walkMs, rightsM, Bool.and_eq_true]
    have h2 := levelss_right' h0 hnb hnl hb ts b k (i + 1) nt hl.2 (by rw [show ((i + 1 : Nat) : Int) = (i : Int) + 1 by push_cast; rfl]; exact hr.2)
    exact ⟨levels_right' h0 hnb hnl hb t _ _ hl.1 hr.1, by rw [show ((i + 1 : Nat) : Int) = (i : Int) + 1 by push_cast; rfl] at h2; exact h2⟩
end
variable {nl nt : Int}
theorem kidR {t : Term} (h : rightM nl cn nt t = true) {i : Int} (hb : binds t.kind i = false) (h0 : 0 ≤ i) (h1 : i < t.kids.length) : rightM nl cn nt (kid t i) = true := by
  have := kid_right h h0 h1; rwa [hb] at this
theorem kidB {t : Term} (h : rightM nl cn nt t = true) {i : Int} (hb : binds t.kind i = true) (h0 : 0 ≤ i) (h1 : i < t.kids.length) : rightM nl cn (nt + 1) (kid t i) = true := by
  have := kid_right h h0 h1; rwa [hb] at this
theorem lenR {t : Term} (h : rightM nl cn nt t = true) {m : Int} (hm : (asksM nl nt cn t).2 = m) : (t.kids.length : Int) = m := by
  rw [← hm]; exact (right_iff.1 h).2.1
theorem rights_of {k : Int} : ∀ (ts : List Term) (z : Int), (∀ i : Nat, i < ts.length → rightM nl cn (bif binds k (z + i) then nt + 1 else nt) (ts.getD i default) = true) → rightsM nl cn nt k z ts = true
  | [], z, _ => by simp [rightsM]
  | t :: ts, z, h => by
    rw [rightsM, Bool.and_eq_true]
    refine ⟨by have := h 0 (by simp); simpa using this, rights_of ts (z + 1) (fun i hi => ?_)⟩
    have := h (i + 1) (by simpa using hi)
    rw [List.getD_cons_succ, show z + ((i + 1 : Nat) : Int) = z + 1 + (i : Int) by push_cast; omega] at this
    exact this
theorem app_right {x y : Term} (hx : rightM nl cn nt x = true) (hy : rightM nl cn nt y = true) : rightM nl cn nt (.mk 6 0 0 [] [x, y]) = true := by
  rw [rightM, rightsM, rightsM, rightsM]
  have b0 : binds 6 0 = false := by rfl
  have b1 : binds 6 (0 + 1) = false := by rfl
  rw [b0, b1, cond_false, hx, hy]; rfl
theorem lam_right {x y : Term} (hx : rightM nl cn nt x = true) (hy : rightM nl cn (nt + 1) y = true) : rightM nl cn nt (.mk 5 0 0 [] [x, y]) = true := by
  rw [rightM, rightsM, rightsM, rightsM]
  have b0 : binds 5 0 = false := by rfl
  have b1 : binds 5 (0 + 1) = true := by rfl
  rw [b0, b1, cond_false, cond_true, hx, hy]; rfl
theorem rec_right {a b p s x : Term} (ha : rightM nl cn nt a = true) (hb : rightM nl cn (nt + 1) b = true) (hp : rightM nl cn nt p = true) (hs : rightM nl cn nt s = true) (hx : rightM nl cn nt x = true) : rightM nl cn nt (.mk 18 0 0 [] [a, b, p, s, x]) = true := by
  rw [rightM, rightsM, rightsM, rightsM, rightsM, rightsM, rightsM]
  have b0 : binds 18 0 = false := by rfl
  have b1 : binds 18 (0 + 1) = true := by rfl
  have b2 : binds 18 (0 + 1 + 1) = false := by rfl
  have b3 : binds 18 (0 + 1 + 1 + 1) = false := by rfl
  have b4 : binds 18 (0 + 1 + 1 + 1 + 1) = false := by rfl
  rw [b0, b1, b2, b3, b4, cond_false, cond_true, ha, hb, hp, hs, hx]; rfl
theorem v0_right (h : 0 ≤ nt) : rightM nl cn (nt + 1) (.mk 1 0 0 [] []) = true := by
  rw [rightM, rightsM, asks_var (t := .mk 1 0 0 [] []) rfl, Bool.and_true, Bool.and_eq_true]
  exact ⟨varB_iff.2 ⟨Int.le_refl _, by simp only [Term.num]; omega, rfl, rfl⟩, rfl⟩
end
end Sp

/- What is right in the core is so behind each step: the step. -/
set_option linter.unusedVariables false
set_option linter.unusedSimpArgs false
set_option maxRecDepth 20000
namespace Sp
open Go
def CoresR (cs : List Core) (cn : List Int) : Prop := cn = cs.map (·.levels) ∧ ∀ c ∈ cs, 0 ≤ c.levels ∧ c.levels ≤ 8 ∧ (c.has = true → rightM c.levels cn 0 c.body = true) ∧ lowT c.body = true
section
variable {cs : List Core} {cn : List Int} {nl nt : Int}
theorem asks_at {t : Term} {k : Int} (hk : t.kind = k) : asksM nl nt cn t = asksF k (varB nt t) (sortB nl t) (constB nl cn t) (bareB t) (finB t) (elemB t) (casB t) (w64 (t.at_ + 2)) := by
  subst hk; rfl
theorem len_at {t : Term} {k m : Int} (h : rightM nl cn nt t = true) (hk : t.kind = k) (hm : ∀ vB sB cB bB fB eB kB w, (asksF k vB sB cB bB fB eB kB w).2 = m) : (t.kids.length : Int) = m :=
  lenR h (by rw [asks_at hk]; exact hm _ _ _ _ _ _ _ _)
end
end Sp

/- What infer reckons: its small steps. -/
set_option linter.unusedVariables false
set_option linter.unusedSimpArgs false
namespace Sp
open Go
def mustI (b : Bool) (e : Int) (F : Int) : RS Unit := if b = true then .ok () F else .er e
def burnI (n F : Int) : RS Unit := if n ≤ F then .ok () (F - n) else .er 5
def headI (cs : List Core) (t : Term) (F : Int) : RS Term := if (whnfM cs t F).2.2 = 0 then .ok (whnfM cs t F).1 (whnfM cs t F).2.1 else .er (whnfM cs t F).2.2
def asI (cs : List Core) (t : Term) (k e F : Int) : RS (Term × Term) := (headI cs t F).bind fun x G => if x.kind = k then .ok (kid x 0, kid x 1) G else .er e
def oneI (cs : List Core) (a b : Term) (e F : Int) : RS Unit := if (convM cs F a b).2.2 = 0 then (if (convM cs F a b).1 = true then .ok () (convM cs F a b).2.1 else .er e) else .er (convM cs F a b).2.2
def putI (t a : Term) (F : Int) : RS Term := (burnI (sizeM t a) F).bind fun _ G => .ok (put t [a]) G
def levelI (cs : List Core) (t : Term) (F : Int) : RS Level := (headI cs t F).bind fun x G => if x.kind = 2 ∧ x.levels.length = 1 then .ok (x.levels.getD 0 default) G else .er 7
theorem headI_ok {cs : List Core} {t x : Term} {F G : Int} (h : headI cs t F = .ok x G) : (whnfM cs t F).2.2 = 0 ∧ x = (whnfM cs t F).1 ∧ G = (whnfM cs t F).2.1 := by
  unfold headI at h
  split at h
  · rename_i h0; cases h; exact ⟨h0, rfl, rfl⟩
  · cases h
theorem headI_w {cs : List Core} (hc : CoresOk cs) {t x : Term} {F G : Int} (h0 : 0 ≤ F) (h1 : F ≤ 1073741824) (hw : W F t) (h : headI cs t F = .ok x G) : x.fit 1099511627776 ∧ 0 ≤ G ∧ G ≤ F ∧ (fsz x : Int) + 7 * G ≤ fsz t + 7 * F := by
  obtain ⟨a, rfl, rfl⟩ := headI_ok h
  exact head_ok hc h0 h1 hw a
end Sp

/- What infer reckons: the rules. -/
set_option linter.unusedVariables false
set_option linter.unusedSimpArgs false
namespace Sp
open Go
abbrev un (l : Level) : Term := .mk 2 0 0 [l] []
abbrev ofT (k : Int) (ts : List Term) : Term := .mk k 0 0 [] ts
def numL (n : Int) : Level := ofRows (rowPut [] [⟨0, n⟩])
def succL (l : Level) : Level := if normM l = [] then numL 1 else normM ((normM l).map fun p => ⟨p.v, w64 (p.p + 1)⟩)
def maxL (ls : List Level) : Level := ofRows (rowPut [] ls.flatten)
def typeM (cs : List Core) (num : Int) (ls : List Level) : Term := if (coreAtM cs num ls).2 = true then levelsM (coreAtM cs num ls).1.typ ls else T0
def stepTy (a b p : Term) : Term :=
  ofT 4 [a, ofT 4 [ofT 4 [b, ofT 16 [lift a 2 0, lift b 2 1]], ofT 4 [ofT 4 [lift b 1 0, ofT 6 [lift p 3 0, ofT 6 [tv 1, tv 0]]], ofT 6 [lift p 3 0, ofT 17 [tv 2, tv 1]]]]]
section
variable (cs : List Core) (nl : Int) (inf : List Term → Term → Int → RS Term) (chk : List Term → Term → Term → Int → RS Unit)
def sortI (c : List Term) (t : Term) (F : Int) : RS Level := (inf c t F).bind fun x G => levelI cs x G
def motivI (c : List Term) (p t : Term) (F : Int) : RS Unit :=
  (inf c p F).bind fun x F => (asI cs x 4 8 F).bind fun ab F => (oneI cs ab.1 t 13 F).bind fun _ F => (levelI cs ab.2 F).bind fun _ F => .ok () F
def lettI (c : List Term) (t : Term) (F : Int) : RS Term :=
  (sortI cs inf c (kid t 0) F).bind fun _ F => (chk c (kid t 1) (kid t 0) F).bind fun _ F => putI (kid t 2) (kid t 1) F
def formerI (c : List Term) (t : Term) (F : Int) : RS Term :=
  (sortI cs inf c (kid t 0) F).bind fun i F => (sortI cs inf (c ++ [kid t 0]) (kid t 1) F).bind fun j F => .ok (un (maxL [i, j])) F
def lamI (c : List Term) (t : Term) (F : Int) : RS Term :=
  (sortI cs inf c (kid t 0) F).bind fun _ F => (inf (c ++ [kid t 0]) (kid t 1) F).bind fun b F => .ok (ofT 4 [kid t 0, b]) F
def appI (c : List Term) (t : Term) (F : Int) : RS Term :=
  (inf c (kid t 0) F).bind fun x F => (asI cs x 4 8 F).bind fun ab F => (chk c (kid t 1) ab.1 F).bind fun _ F => putI ab.2 (kid t 1) F
def halfI (c : List Term) (t : Term) (F : Int) : RS Term :=
  (inf c (kid t 0) F).bind fun x F => (asI cs x 12 9 F).bind fun ab F => if t.kind = 14 then .ok ab.1 F else putI ab.2 (ofT 14 [kid t 0]) F
def recI (c : List Term) (t : Term) (F : Int) : RS Term :=
  (sortI cs inf c (kid t 0) F).bind fun _ F => (sortI cs inf (c ++ [kid t 0]) (kid t 1) F).bind fun _ F => (chk c (kid t 4) (ofT 16 [kid t 0, kid t 1]) F).bind fun _ F =>
    (motivI cs inf c (kid t 2) (ofT 16 [kid t 0, kid t 1]) F).bind fun _ F => (chk c (kid t 3) (stepTy (kid t 0) (kid t 1) (kid t 2)) F).bind fun _ F => .ok (ofT 6 [kid t 2, kid t 4]) F
def idI (c : List Term) (t : Term) (F : Int) : RS Term :=
  (sortI cs inf c (kid t 0) F).bind fun i F => (chk c (kid t 1) (kid t 0) F).bind fun _ F => (chk c (kid t 2) (kid t 0) F).bind fun _ F => .ok (un i) F
def pathI (c : List Term) (t : Term) (F : Int) : RS Term :=
  (sortI cs inf c (kid t 0) F).bind fun _ F => (chk c (kid t 1) (kid t 0) F).bind fun _ F => (chk c (kid t 4) (kid t 0) F).bind fun _ F =>
    (chk c (kid t 5) (ofT 19 [kid t 0, kid t 1, kid t 4]) F).bind fun _ F => (inf c (kid t 2) F).bind fun y F => (asI cs y 4 8 F).bind fun ab F =>
      (oneI cs ab.1 (kid t 0) 13 F).bind fun _ F => (asI cs ab.2 4 8 F).bind fun pe F => (oneI cs pe.1 (ofT 19 [lift (kid t 0) 1 0, lift (kid t 1) 1 0, tv 0]) 13 F).bind fun _ F =>
        (levelI cs pe.2 F).bind fun _ F => (chk c (kid t 3) (ofT 6 [ofT 6 [kid t 2, kid t 1], ofT 20 []]) F).bind fun _ F => .ok (ofT 6 [ofT 6 [kid t 2, kid t 4], kid t 5]) F
def casesI (c : List Term) (p : Term) (a : Int) : Int → List Term → Int → RS Unit
  | _, [], F => .ok () F
  | k, b :: bs, F => (chk c b (ofT 6 [p, .mk 23 k a [] []]) F).bind fun _ F => casesI c p a (k + 1) bs F
def branchI (c : List Term) (t : Term) (F : Int) : RS Term :=
  (chk c (kid t (t.at_ + 1)) (.mk 22 t.at_ 0 [] []) F).bind fun _ F => (motivI cs inf c (kid t 0) (.mk 22 t.at_ 0 [] []) F).bind fun _ F =>
    (casesI chk c (kid t 0) t.at_ 0 ((t.kids.drop 1).take t.at_.toNat) F).bind fun _ F => .ok (ofT 6 [kid t 0, kid t (t.at_ + 1)]) F
def ruleI (c : List Term) (t : Term) (F : Int) : RS Term :=
  if t.kind = 1 then .ok (lift (c.getD ((c.length : Int) - 1 - t.num).toNat default) (t.num + 1) 0) F
  else if t.kind = 2 then (if lvRight nl (succL (t.levels.getD 0 default)) = true then .ok (un (succL (t.levels.getD 0 default))) F else .er 15)
  else if t.kind = 3 then .ok (typeM cs t.num t.levels) F
  else if t.kind = 4 ∨ t.kind = 12 ∨ t.kind = 16 then formerI cs inf c t F
  else if t.kind = 5 then lamI cs inf c t F
  else if t.kind = 6 then appI cs inf chk c t F
  else if t.kind = 7 then (lettI cs inf chk c t F).bind fun x F => inf c x F
  else if t.kind = 14 ∨ t.kind = 15 then halfI cs inf c t F
  else if t.kind = 18 then recI cs inf chk c t F
  else if t.kind = 19 then idI cs inf chk c t F
  else if t.kind = 21 then pathI cs inf chk c t F
  else if t.kind = 22 then .ok (un []) F
  else if t.kind = 23 then .ok (.mk 22 t.at_ 0 [] []) F
  else if t.kind = 24 then branchI cs inf chk c t F
  else .er 14
def checkI (c : List Term) (t ty : Term) (F : Int) : RS Unit :=
  if t.kind = 5 then (asI cs ty 4 8 F).bind fun ab F => (sortI cs inf c (kid t 0) F).bind fun _ F => (oneI cs (kid t 0) ab.1 13 F).bind fun _ F => chk (c ++ [kid t 0]) (kid t 1) ab.2 F
  else if t.kind = 13 then (asI cs ty 12 9 F).bind fun ab F => (chk c (kid t 0) ab.1 F).bind fun _ F => (putI ab.2 (kid t 0) F).bind fun y F => chk c (kid t 1) y F
  else if t.kind = 17 then (asI cs ty 16 10 F).bind fun ab F => (chk c (kid t 0) ab.1 F).bind fun _ F => (putI ab.2 (kid t 0) F).bind fun y F => chk c (kid t 1) (ofT 4 [y, ofT 16 [lift ab.1 1 0, lift ab.2 1 1]]) F
  else if t.kind = 20 then (headI cs ty F).bind fun x F => if x.kind = 19 then oneI cs (kid x 1) (kid x 2) 11 F else .er 11
  else if t.kind = 7 then (lettI cs inf chk c t F).bind fun y F => chk c y ty F
  else (inf c t F).bind fun x F => if (leqM cs F x ty).2.2 = 0 then (if (leqM cs F x ty).1 = true then .ok () (leqM cs F x ty).2.1 else .er 13) else .er (leqM cs F x ty).2.2
end
def IC (cs : List Core) (nl : Int) : Nat → (List Term → Term → Int → RS Term) × (List Term → Term → Term → Int → RS Unit)
  | 0 => (fun _ _ _ => .er 5, fun _ _ _ _ => .er 5)
  | n + 1 => (fun c t F => (burnI 1 F).bind fun _ F => ruleI cs nl (IC cs nl n).1 (IC cs nl n).2 c t F, fun c t ty F => (burnI 1 F).bind fun _ F => checkI cs (IC cs nl n).1 (IC cs nl n).2 c t ty F)
end Sp

/- What infer reckons: how great its terms are. -/
set_option linter.unusedVariables false
set_option linter.unusedSimpArgs false
namespace Sp
open Go
def CtxOk (c : List Term) (F : Int) : Prop := (c.length : Int) + F ≤ 100000000 ∧ ∀ e ∈ c, e.fit 1099511627776 ∧ fsz e ≤ 16777216
def AskOk (nl : Int) (cn : List Int) (c : List Term) (t : Term) (F : Int) : Prop := rightM nl cn c.length t = true ∧ t.fit 1099511627776 ∧ (fsz t : Int) + 7 * F ≤ 16777216
def TyOk (ty : Term) (F : Int) : Prop := ty.fit 1099511627776 ∧ (fsz ty : Int) + 7 * F ≤ 134217728
structure Known (nl : Int) (cn : List Int) (inf : List Term → Term → Int → RS Term) (chk : List Term → Term → Term → Int → RS Unit) (n : Int) : Prop where
  inf : ∀ c t F x G, CtxOk c F → AskOk nl cn c t F → 0 ≤ F → F ≤ n → inf c t F = .ok x G → x.fit 1099511627776 ∧ 0 ≤ G ∧ G ≤ F ∧ (fsz x : Int) + 7 * G ≤ fsz t + 16777216 + 7 * F
  chk : ∀ c t ty F u G, CtxOk c F → AskOk nl cn c t F → TyOk ty F → 0 ≤ F → F ≤ n → chk c t ty F = .ok u G → 0 ≤ G ∧ G ≤ F
theorem AskOk.kidR {nl : Int} {cn : List Int} {c : List Term} {t : Term} {F G : Int} (h : AskOk nl cn c t F) (hG : G ≤ F) {i : Int} (hb : binds t.kind i = false) (h0 : 0 ≤ i) (h1 : i < t.kids.length) : AskOk nl cn c (kid t i) G :=
  ⟨Sp.kidR h.1 hb h0 h1, kid_fit h.2.1 _, by have := fsz_kid t i; have := h.2.2; omega⟩
theorem AskOk.kidB {nl : Int} {cn : List Int} {c : List Term} {t a : Term} {F G : Int} (h : AskOk nl cn c t F) (hG : G ≤ F) {i : Int} (hb : binds t.kind i = true) (h0 : 0 ≤ i) (h1 : i < t.kids.length) : AskOk nl cn (c ++ [a]) (kid t i) G :=
  ⟨by have := Sp.kidB h.1 hb h0 h1; rw [List.length_append, List.length_singleton]; push_cast; exact this, kid_fit h.2.1 _, by have := fsz_kid t i; have := h.2.2; omega⟩
theorem CtxOk.mono {c : List Term} {F G : Int} (h : CtxOk c F) (hG : G ≤ F) : CtxOk c G := ⟨by have := h.1; omega, h.2⟩
theorem CtxOk.put {c : List Term} {t : Term} {nl : Int} {cn : List Int} {F G : Int} (h : CtxOk c (F + 1)) (ht : AskOk nl cn c t F) (h0 : 0 ≤ F) (hG : G ≤ F) (i : Int) : CtxOk (c ++ [kid t i]) G :=
  ⟨by rw [List.length_append, List.length_singleton]; have := h.1; push_cast; omega, fun e he => by
    rcases List.mem_append.1 he with he | he
    · exact h.2 e he
    · rw [List.mem_singleton.1 he]
      have h1 := fsz_kid t i
      have h2 := ht.2.2
      exact ⟨kid_fit ht.2.1 _, by omega⟩⟩
theorem levelI_ok {cs : List Core} (hc : CoresOk cs) {t : Term} {l : Level} {F G : Int} (h0 : 0 ≤ F) (h1 : F ≤ 1073741824) (hw : W F t) (h : levelI cs t F = .ok l G) : 0 ≤ G ∧ G ≤ F ∧ l.length ≤ 9223372036854775807 := by
  unfold levelI at h
  cases hh : headI cs t F with
  | er e => rw [RS.bind_er hh] at h; cases h
  | ok x G' =>
    rw [Ys hh] at h
    obtain ⟨a, b, c, d⟩ := headI_w hc h0 h1 hw hh
    split at h
    · rename_i hx
      cases h
      exact ⟨b, c, by have := a.plen (getD_mem (l := x.levels) (i := 0) (by omega)); omega⟩
    · cases h
theorem sortI_ok {nl : Int} {cn : List Int} {cs : List Core} {inf : List Term → Term → Int → RS Term} {chk : List Term → Term → Term → Int → RS Unit} {n : Int} (K : Known nl cn inf chk n) (hC : CoresOk cs) (hn : n ≤ 1073741824) {c : List Term} {t : Term} {F G : Int} {l : Level}
    (hc : CtxOk c F) (ht : AskOk nl cn c t F) (h0 : 0 ≤ F) (h1 : F ≤ n) (h : sortI cs inf c t F = .ok l G) : 0 ≤ G ∧ G ≤ F ∧ l.length ≤ 9223372036854775807 := by
  unfold sortI at h
  cases hi : inf c t F with
  | er e => rw [RS.bind_er hi] at h; cases h
  | ok x G' =>
    rw [Ys hi] at h
    obtain ⟨a, b, d, e⟩ := K.inf c t F x G' hc ht h0 h1 hi
    have htz := ht.2.2
    obtain ⟨p, q, r⟩ := levelI_ok hC b (by omega) ⟨a, by omega⟩ h
    exact ⟨p, by omega, r⟩
theorem asI_ok {cs : List Core} (hc : CoresOk cs) {t : Term} {ab : Term × Term} {k e F G : Int} (h0 : 0 ≤ F) (h1 : F ≤ 1073741824) (hw : W F t) (h : asI cs t k e F = .ok ab G) :
    0 ≤ G ∧ G ≤ F ∧ ab.1.fit 1099511627776 ∧ ab.2.fit 1099511627776 ∧ (fsz ab.1 : Int) + 7 * G ≤ fsz t + 7 * F ∧ (fsz ab.2 : Int) + 7 * G ≤ fsz t + 7 * F := by
  unfold asI at h
  cases hh : headI cs t F with
  | er e => rw [RS.bind_er hh] at h; cases h
  | ok x G' =>
    rw [Ys hh] at h
    obtain ⟨a, b, c, d⟩ := headI_w hc h0 h1 hw hh
    split at h
    · cases h
      have h2 := fsz_kid x 0
      have h3 := fsz_kid x 1
      exact ⟨b, c, kid_fit a _, kid_fit a _, by simp only; omega, by simp only; omega⟩
    · cases h
theorem convM_w {cs : List Core} (hc : CoresOk cs) {p q : Term} {F : Int} (hp : W F p) (hq : W F q) (h : (convM cs F p q).2.2 = 0) : 0 ≤ (convM cs F p q).2.1 ∧ (convM cs F p q).2.1 ≤ F := by
  obtain ⟨h0, h1, h2⟩ := convM_ok h
  have := one_shift hc _ 0 F p q _ _ h0 (by omega) hp hq h2
  exact ⟨this.1, this.2.1⟩
theorem oneI_ok {cs : List Core} (hc : CoresOk cs) {p q : Term} {u : Unit} {e F G : Int} (h0 : 0 ≤ F) (h1 : F ≤ 1073741824) (hp : W F p) (hq : W F q) (h : oneI cs p q e F = .ok u G) : 0 ≤ G ∧ G ≤ F := by
  unfold oneI at h
  split at h
  · rename_i hz
    have := convM_w hc hp hq hz
    split at h
    · cases h; exact this
    · cases h
  · cases h
theorem putI_ok {t a x : Term} {F G : Int} (ht : t.fit 1099511627776) (ha : a.fit 1099511627776) (h : putI t a F = .ok x G) : x = put t [a] ∧ 0 ≤ G ∧ G < F ∧ x.fit 1099511627776 ∧ (fsz x : Int) + 7 * G ≤ 7 * F := by
  unfold putI burnI at h
  split at h
  · rename_i hb
    simp only [RS.bind] at h
    cases h
    have hf := put_fit ht ha
    have h1 := fsz_le _ hf
    have h2 := put_sz t a
    have h3 := sizeM_pos t a
    exact ⟨rfl, by omega, by omega, hf, by omega⟩
  · simp only [RS.bind] at h
    cases h
theorem lettI_ok {nl : Int} {cn : List Int} {cs : List Core} {inf : List Term → Term → Int → RS Term} {chk : List Term → Term → Term → Int → RS Unit} {n : Int} (K : Known nl cn inf chk n) (hC : CoresOk cs) (hn : n ≤ 1073741824) {c : List Term} {t y : Term} {F G : Int}
    (hc : CtxOk c (F + 1)) (ht : AskOk nl cn c t F) (hk : t.kind = 7) (h0 : 0 ≤ F) (h1 : F ≤ n) (h : lettI cs inf chk c t F = .ok y G) : AskOk nl cn c y G ∧ 0 ≤ G ∧ G ≤ F := by
  have hl : (t.kids.length : Int) = 3 := len_at ht.1 hk (fun _ _ _ _ _ _ _ _ => rfl)
  have k0 := ht.kidR (i := 0) (G := F) (Int.le_refl _) (by rw [hk]; rfl) (by omega) (by omega)
  unfold lettI at h
  cases hs : sortI cs inf c (kid t 0) F with
  | er e => rw [RS.bind_er hs] at h; cases h
  | ok l G1 =>
    rw [Ys hs] at h
    obtain ⟨a1, a2, _⟩ := sortI_ok K hC hn (hc.mono (by omega)) k0 h0 h1 hs
    cases hq : chk c (kid t 1) (kid t 0) G1 with
    | er e => rw [RS.bind_er hq] at h; cases h
    | ok u G2 =>
      rw [Ys hq] at h
      have k0z := k0.2.2
      obtain ⟨b1, b2⟩ := K.chk c _ _ G1 u G2 (hc.mono (by omega)) (ht.kidR (i := 1) a2 (by rw [hk]; rfl) (by omega) (by omega)) ⟨k0.2.1, by omega⟩ a1 (by omega) hq
      have r1 := ht.kidR (i := 1) (G := G2) (by omega) (by rw [hk]; rfl) (by omega) (by omega)
      have r2 := ht.kidB (a := T0) (i := 2) (G := G2) (by omega) (by rw [hk]; rfl) (by omega) (by omega)
      obtain ⟨rfl, c1, c2, c3, c4⟩ := putI_ok r2.2.1 r1.2.1 h
      have z1 := sz_le_fsz (kid t 1)
      have z2 := sz_le_fsz (kid t 2)
      have q1 := r1.2.2
      have q2 := r2.2.2
      have hz := ht.2.2
      have hcl := hc.1
      refine ⟨⟨put_right (by omega) (by omega) r1.1 ?_, c3, by omega⟩, c1, by omega⟩
      have := Sp.kidB ht.1 (i := 2) (by rw [hk]; rfl) (by omega) (by omega)
      exact this
theorem fsz_two {k : Int} (h : lack k 0 2 = 0) (x y : Term) : fsz (ofT k [x, y]) = 1 + fsz x + fsz y := by
  have h' : lack k 0 (0 + 1 + 1) = 0 := h
  simp only [fsz, fszs, List.length_cons, List.length_nil, h']; omega
theorem two_fit {k : Int} {x y : Term} (hx : x.fit 1099511627776) (hy : y.fit 1099511627776) : (ofT k [x, y]).fit 1099511627776 :=
  mk_fit (by simp) (fun u hu => by simp at hu; rcases hu with rfl | rfl <;> assumption) (by omega)
theorem tv_fit (n : Int) (h : 0 ≤ n ∧ n ≤ 1000) : (tv n).fit 1099511627776 := mk_fit (by simp) (fun u hu => by cases hu) (by omega)
theorem tv_fsz (n : Int) : fsz (tv n) = 1 := by
  have h : lack 1 0 0 = 0 := by simp [lack, spotOf]
  simp only [fsz, fszs, List.length_nil, h]
theorem stepTy_ok {a b p : Term} (ha : a.fit 1099511627776) (hb : b.fit 1099511627776) (hp : p.fit 1099511627776) : (stepTy a b p).fit 1099511627776 ∧ fsz (stepTy a b p) ≤ 2 * fsz a + 3 * fsz b + 2 * fsz p + 20 := by
  have l4 : lack 4 0 2 = 0 := by simp [lack, spotOf]
  have l6 : lack 6 0 2 = 0 := by simp [lack, spotOf]
  have l16 : lack 16 0 2 = 0 := by simp [lack, spotOf]
  have l17 : lack 17 0 2 = 0 := by simp [lack, spotOf]
  refine ⟨?_, ?_⟩
  · unfold stepTy
    refine two_fit ha (two_fit (two_fit hb (two_fit (lift_fit ha _ _) (lift_fit hb _ _))) (two_fit (two_fit (lift_fit hb _ _) (two_fit (lift_fit hp _ _) (two_fit (tv_fit 1 (by omega)) (tv_fit 0 (by omega))))) (two_fit (lift_fit hp _ _) (two_fit (tv_fit 2 (by omega)) (tv_fit 1 (by omega))))))
  · unfold stepTy
    simp only [fsz_two l4, fsz_two l6, fsz_two l16, fsz_two l17, lift_fsz, tv_fsz]
    omega
theorem motivI_ok {nl : Int} {cn : List Int} {cs : List Core} {inf : List Term → Term → Int → RS Term} {chk : List Term → Term → Term → Int → RS Unit} {n : Int} (K : Known nl cn inf chk n) (hC : CoresOk cs) (hn : n ≤ 1073741824) {c : List Term} {p t : Term} {u : Unit} {F G : Int}
    (hc : CtxOk c F) (hp : AskOk nl cn c p F) (ht : TyOk t F) (h0 : 0 ≤ F) (h1 : F ≤ n) (h : motivI cs inf c p t F = .ok u G) : 0 ≤ G ∧ G ≤ F := by
  unfold motivI at h
  have hpz := hp.2.2
  have htz := ht.2
  cases hi : inf c p F with
  | er e => rw [RS.bind_er hi] at h; cases h
  | ok x G1 =>
    rw [Ys hi] at h
    obtain ⟨a, b, d, e⟩ := K.inf c p F x G1 hc hp h0 h1 hi
    cases ha : asI cs x 4 8 G1 with
    | er e => rw [RS.bind_er ha] at h; cases h
    | ok ab G2 =>
      rw [Ys ha] at h
      obtain ⟨g2, g3, af, bf, az, bz⟩ := asI_ok hC b (by omega) ⟨a, by omega⟩ ha
      cases ho : oneI cs ab.1 t 13 G2 with
      | er e => rw [RS.bind_er ho] at h; cases h
      | ok v G3 =>
        rw [Ys ho] at h
        obtain ⟨g4, g5⟩ := oneI_ok hC g2 (by omega) ⟨af, by omega⟩ ⟨ht.1, by omega⟩ ho
        cases hl : levelI cs ab.2 G3 with
        | er e => rw [RS.bind_er hl] at h; cases h
        | ok l G4 =>
          rw [Ys hl] at h
          cases h
          obtain ⟨q1, q2, _⟩ := levelI_ok hC g4 (by omega) ⟨bf, by omega⟩ hl
          exact ⟨q1, by omega⟩
end Sp

/- What infer reckons: how great its answers are. -/
set_option linter.unusedVariables false
set_option linter.unusedSimpArgs false
namespace Sp
open Go
theorem RS.bind_inv {α β : Type} {r : RS α} {f : α → Int → RS β} {b : β} {G : Int} (h : r.bind f = .ok b G) : ∃ a F, r = .ok a F ∧ f a F = .ok b G := by
  cases r with
  | ok a F => exact ⟨a, F, rfl, h⟩
  | er e => cases h
def TypsOk (cs : List Core) : Prop := ∀ c ∈ cs, c.typ.fit 1099511627776 ∧ c.typ.sz ≤ 1048576
theorem ofRows_len (ps : List Part) : (ofRows (rowPut [] ps)).length ≤ 1048577 := normM_len ps
theorem maxL_len (ls : List Level) : (maxL ls).length ≤ 1048577 := ofRows_len _
theorem un_ok {l : Level} (h : l.length ≤ 1099511627776) : (un l).fit 1099511627776 ∧ fsz (un l) = 1 := by
  refine ⟨Term.fit_iff.2 ⟨by simp [Term.levels], fun x hx => by simp [Term.levels] at hx; subst hx; exact h, by simp [Term.kids], fun k hk => by simp [Term.kids] at hk, by simp [Term.num], by simp [Term.at_]⟩, ?_⟩
  have h' : lack 2 0 0 = 0 := by simp [lack, spotOf]
  simp only [fsz, fszs, List.length_nil, h']
theorem leaf_ok (k n a : Int) (hk : lack k a 0 = 0) (hn : -9223372036854775808 ≤ n ∧ n ≤ 9223372036854775807) (ha : a ≤ 9223372036854775807) : (Term.mk k n a [] []).fit 1099511627776 ∧ fsz (.mk k n a [] []) = 1 := by
  refine ⟨mk_fit (by simp) (fun u hu => by cases hu) hn ha, ?_⟩
  simp only [fsz, fszs, List.length_nil, hk]
theorem typeM_ok {cs : List Core} (hT : TypsOk cs) (num : Int) (ls : List Level) : (typeM cs num ls).fit 1099511627776 ∧ fsz (typeM cs num ls) ≤ 16777216 := by
  unfold typeM
  split
  · have hm : (coreAtM cs num ls).1.typ.fit 1099511627776 ∧ (coreAtM cs num ls).1.typ.sz ≤ 1048576 := by
      unfold coreAtM
      split
      · exact hT _ (getD_mem (by omega))
      · exact ⟨T0_fit, by simp [C0, T0, Term.sz, Term.szs]⟩
    have hf := levelsM_fit (B := 1099511627776) (by omega) hm.1 ls
    have h1 := fsz_le _ hf
    rw [levelsM_sz] at h1
    exact ⟨hf, by omega⟩
  · exact ⟨T0_fit, by rw [fsz_T0]; omega⟩
theorem fszs_pair : ∀ (ts : List Term) (i j : Nat), i < j → j < ts.length → fsz (ts.getD i default) + fsz (ts.getD j default) ≤ fszs ts
  | [], i, j, h, hj => by simp at hj
  | t :: ts, i, 0, h, hj => by omega
  | t :: ts, 0, j + 1, h, hj => by
    have := fsz_mem (getD_mem (l := ts) (i := j) (by simpa using hj))
    simp only [List.getD_cons_zero, List.getD_cons_succ, fszs]; omega
  | t :: ts, i + 1, j + 1, h, hj => by
    have := fszs_pair ts i j (by omega) (by simpa using hj)
    simp only [List.getD_cons_succ, fszs]; omega
theorem kid_at {t : Term} {i : Int} (h0 : 0 ≤ i) (h1 : i < t.kids.length) : kid t i = t.kids.getD i.toNat default := by
  unfold kid; rw [if_neg (by omega)]
theorem fsz_pair {t : Term} {i j : Int} (h0 : 0 ≤ i) (h1 : i < j) (h2 : j < t.kids.length) : 1 + fsz (kid t i) + fsz (kid t j) ≤ fsz t := by
  have := fszs_pair t.kids i.toNat j.toNat (by omega) (by omega)
  rw [kid_at h0 (by omega), kid_at (by omega) h2, fsz_eq t]; omega
theorem fsz_one {t : Term} {i : Int} (h0 : 0 ≤ i) (h2 : i < t.kids.length) : 1 + fsz (kid t i) ≤ fsz t := by
  have := fsz_mem (getD_mem (l := t.kids) (i := i.toNat) (by omega))
  rw [kid_at h0 (by omega), fsz_eq t]; omega
theorem binds24 (i : Int) : binds 24 i = false := by
  have : bound 24 = -1 := rfl
  unfold binds
  by_cases h : 0 ≤ i
  · rw [this]; simp; omega
  · simp [h]
theorem case_len {nl : Int} {cn : List Int} {nt : Int} {t : Term} (h : rightM nl cn nt t = true) (hf : t.fit 1099511627776) (hk : t.kind = 24) : (t.kids.length : Int) = t.at_ + 2 ∧ 0 ≤ t.at_ := by
  have h1 := (right_iff.1 h).1
  rw [asks_at hk] at h1
  have h2 : casB t = true := h1
  simp only [casB, Bool.and_eq_true, decide_eq_true_eq] at h2
  have h3 : (t.kids.length : Int) = w64 (t.at_ + 2) := lenR h (by rw [asks_at hk]; rfl)
  have h4 := hf.atr
  refine ⟨?_, h2.1.2⟩
  by_cases hb : t.at_ + 2 ≤ 9223372036854775807
  · rw [w64_id (by omega) hb] at h3; exact h3
  · exfalso
    have h5 : t.at_ + 2 = 9223372036854775808 ∨ t.at_ + 2 = 9223372036854775809 := by omega
    have q1 : w64 9223372036854775808 = -9223372036854775808 := by decide
    have q2 : w64 9223372036854775809 = -9223372036854775807 := by decide
    rcases h5 with h5 | h5 <;> rw [h5] at h3 <;> omega
section
variable {nl : Int} {cn : List Int} {cs : List Core} {inf : List Term → Term → Int → RS Term} {chk : List Term → Term → Term → Int → RS Unit} {n : Int} (K : Known nl cn inf chk n)
include K
theorem cases_ok {c : List Term} {p : Term} {a : Int} (ha : a ≤ 9223372036854775807) (hp : p.fit 1099511627776) : ∀ (bs : List Term) (k : Int) (F : Int) (u : Unit) (G : Int), 0 ≤ k → k + bs.length ≤ 1099511627776 → CtxOk c F → (∀ b ∈ bs, AskOk nl cn c b F) → (fsz p : Int) + 7 * F ≤ 16777216 → 0 ≤ F → F ≤ n →
    casesI chk c p a k bs F = .ok u G → 0 ≤ G ∧ G ≤ F
  | [], k, F, u, G, hk0, hk, hc, hb, hz, h0, h1, h => by
    simp only [casesI] at h
    cases h; omega
  | b :: bs, k, F, u, G, hk0, hk, hc, hb, hz, h0, h1, h => by
    simp only [casesI] at h
    obtain ⟨v, G1, e1, h⟩ := RS.bind_inv h
    simp only [List.length_cons] at hk
    obtain ⟨lf, lz⟩ := leaf_ok 23 k a (by simp [lack, spotOf]) (by omega) ha
    obtain ⟨g0, g1⟩ := K.chk c b _ F v G1 hc (hb b (by simp)) ⟨two_fit hp lf, by rw [fsz_two (by simp [lack, spotOf]), lz]; push_cast; omega⟩ h0 h1 e1
    have := cases_ok ha hp bs (k + 1) G1 u G (by omega) (by omega) (hc.mono g1) (fun x hx => ⟨(hb x (by simp [hx])).1, (hb x (by simp [hx])).2.1, by have := (hb x (by simp [hx])).2.2; omega⟩) (by omega) g0 (by omega) h
    omega
end
theorem leqM_w {cs : List Core} (hc : CoresOk cs) {p q : Term} {F : Int} (g0 : 0 ≤ F) (g1 : F ≤ 1073741824) (hp : W F p) (hq : W F q) (h : (leqM cs F p q).2.2 = 0) : 0 ≤ (leqM cs F p q).2.1 ∧ (leqM cs F p q).2.1 ≤ F := by
  obtain ⟨h0, h1, h2⟩ := leqM_ok h
  have := most_shift hc _ 0 F p q _ _ h0 (by omega) hp hq h2
  exact ⟨this.1, this.2.1⟩
theorem supTy_ok {x : Term} {ab : Term × Term} (hx : x.fit 1099511627776) (ha : ab.1.fit 1099511627776) (hb : ab.2.fit 1099511627776) : (ofT 4 [x, ofT 16 [lift ab.1 1 0, lift ab.2 1 1]]).fit 1099511627776 ∧ fsz (ofT 4 [x, ofT 16 [lift ab.1 1 0, lift ab.2 1 1]]) = 1 + fsz x + (1 + fsz ab.1 + fsz ab.2) :=
  ⟨two_fit hx (two_fit (lift_fit ha _ _) (lift_fit hb _ _)), by rw [fsz_two (by simp [lack, spotOf]), fsz_two (by simp [lack, spotOf]), lift_fsz, lift_fsz]⟩
theorem fsz_two_kids (x : Term) : fsz (kid x 0) + fsz (kid x 1) ≤ fsz x + 1 := by
  have hp := fsz_pos x
  by_cases h2 : 1 < (x.kids.length : Int)
  · have := fsz_pair (t := x) (i := 0) (j := 1) (by omega) (by omega) h2; omega
  have e1 : kid x 1 = T0 := by unfold kid; rw [if_pos (by omega)]
  rw [e1, fsz_T0]
  have := fsz_kid x 0
  omega
theorem asI_two {cs : List Core} (hc : CoresOk cs) {t : Term} {ab : Term × Term} {k e F G : Int} (h0 : 0 ≤ F) (h1 : F ≤ 1073741824) (hw : W F t) (h : asI cs t k e F = .ok ab G) : (fsz ab.1 : Int) + fsz ab.2 + 7 * G ≤ fsz t + 7 * F + 1 := by
  unfold asI at h
  obtain ⟨x, G', hh, h⟩ := RS.bind_inv h
  obtain ⟨a, b, c, d⟩ := headI_w hc h0 h1 hw hh
  split at h
  · cases h
    have := fsz_two_kids x
    simp only; omega
  · cases h
section
variable {nl : Int} {cn : List Int} {cs : List Core} {inf : List Term → Term → Int → RS Term} {chk : List Term → Term → Term → Int → RS Unit} {n : Int} (K : Known nl cn inf chk n) (hC : CoresOk cs) (hn : n ≤ 1073741824)
include K hC hn
theorem rule_ok (hT : TypsOk cs) {c : List Term} {t x : Term} {F G : Int} (hc : CtxOk c (F + 1)) (ht : AskOk nl cn c t F) (h0 : 0 ≤ F) (h1 : F ≤ n) (h : ruleI cs nl inf chk c t F = .ok x G) :
    x.fit 1099511627776 ∧ 0 ≤ G ∧ G ≤ F ∧ (fsz x : Int) + 7 * G ≤ fsz t + 16777216 + 7 * F := by
  have hcF : CtxOk c F := hc.mono (by omega)
  have htz := ht.2.2
  have hpos := fsz_pos t
  unfold ruleI at h
  by_cases k1 : t.kind = 1
  · rw [if_pos k1] at h; cases h
    have hv := (right_iff.1 ht.1).1
    rw [asks_var k1] at hv
    obtain ⟨v0, v1, _⟩ := varB_iff.1 hv
    have hm : c.getD ((c.length : Int) - 1 - t.num).toNat default ∈ c := getD_mem (by omega)
    obtain ⟨ef, ez⟩ := hc.2 _ hm
    exact ⟨lift_fit ef _ _, h0, by omega, by rw [lift_fsz]; omega⟩
  rw [if_neg k1] at h
  by_cases k2 : t.kind = 2
  · rw [if_pos k2] at h
    split at h
    · rename_i hl; cases h
      obtain ⟨uf, uz⟩ := un_ok (l := succL (t.levels.getD 0 default)) (by have := (lvRight_iff.1 hl).2.1; omega)
      exact ⟨uf, h0, by omega, by rw [uz]; omega⟩
    · cases h
  rw [if_neg k2] at h
  by_cases k3 : t.kind = 3
  · rw [if_pos k3] at h; cases h
    obtain ⟨a, b⟩ := typeM_ok hT t.num t.levels
    exact ⟨a, h0, by omega, by omega⟩
  rw [if_neg k3] at h
  by_cases k4 : t.kind = 4 ∨ t.kind = 12 ∨ t.kind = 16
  · rw [if_pos k4] at h
    have hl : (t.kids.length : Int) = 2 := by rcases k4 with e | e | e <;> exact len_at ht.1 e (fun _ _ _ _ _ _ _ _ => rfl)
    have hb0 : binds t.kind 0 = false := by rcases k4 with e | e | e <;> rw [e] <;> rfl
    have hb1 : binds t.kind 1 = true := by rcases k4 with e | e | e <;> rw [e] <;> rfl
    unfold formerI at h
    obtain ⟨i, G1, e1, h⟩ := RS.bind_inv h
    obtain ⟨j, G2, e2, h⟩ := RS.bind_inv h
    cases h
    obtain ⟨g0, g1, _⟩ := sortI_ok K hC hn hcF (ht.kidR (i := 0) (Int.le_refl _) hb0 (by omega) (by omega)) h0 h1 e1
    obtain ⟨g2, g3, _⟩ := sortI_ok K hC hn (hc.put ht h0 g1 0) (ht.kidB (i := 1) g1 hb1 (by omega) (by omega)) g0 (by omega) e2
    obtain ⟨uf, uz⟩ := un_ok (l := maxL [i, j]) (by have := maxL_len [i, j]; omega)
    exact ⟨uf, g2, by omega, by rw [uz]; omega⟩
  rw [if_neg k4] at h
  by_cases k5 : t.kind = 5
  · rw [if_pos k5] at h
    have hl : (t.kids.length : Int) = 2 := len_at ht.1 k5 (fun _ _ _ _ _ _ _ _ => rfl)
    have hb0 : binds t.kind 0 = false := by rw [k5]; rfl
    have hb1 : binds t.kind 1 = true := by rw [k5]; rfl
    unfold lamI at h
    obtain ⟨i, G1, e1, h⟩ := RS.bind_inv h
    obtain ⟨b, G2, e2, h⟩ := RS.bind_inv h
    cases h
    have r0 := ht.kidR (i := 0) (Int.le_refl _) hb0 (by omega) (by omega)
    obtain ⟨g0, g1, _⟩ := sortI_ok K hC hn hcF r0 h0 h1 e1
    obtain ⟨bf, g2, g3, bz⟩ := K.inf _ _ _ _ _ (hc.put ht h0 g1 0) (ht.kidB (i := 1) g1 hb1 (by omega) (by omega)) g0 (by omega) e2
    have hp := fsz_pair (t := t) (i := 0) (j := 1) (by omega) (by omega) (by omega)
    exact ⟨two_fit r0.2.1 bf, g2, by omega, by rw [fsz_two (by simp [lack, spotOf])]; push_cast; omega⟩
  rw [if_neg k5] at h
  by_cases k6 : t.kind = 6
  · rw [if_pos k6] at h
    have hl : (t.kids.length : Int) = 2 := len_at ht.1 k6 (fun _ _ _ _ _ _ _ _ => rfl)
    have hb0 : binds t.kind 0 = false := by rw [k6]; rfl
    have hb1 : binds t.kind 1 = false := by rw [k6]; rfl
    unfold appI at h
    obtain ⟨y, G1, e1, h⟩ := RS.bind_inv h
    obtain ⟨ab, G2, e2, h⟩ := RS.bind_inv h
    obtain ⟨u, G3, e3, h⟩ := RS.bind_inv h
    obtain ⟨yf, g0, g1, yz⟩ := K.inf _ _ _ _ _ hcF (ht.kidR (i := 0) (Int.le_refl _) hb0 (by omega) (by omega)) h0 h1 e1
    have hz0 := fsz_kid t 0
    obtain ⟨g2, g3, af, bf, az, bz⟩ := asI_ok hC g0 (by omega) ⟨yf, by omega⟩ e2
    have r1 := ht.kidR (i := 1) (G := G2) (by omega) hb1 (by omega) (by omega)
    obtain ⟨g4, g5⟩ := K.chk _ _ _ _ _ _ (hc.mono (by omega)) r1 ⟨af, by omega⟩ g2 (by omega) e3
    obtain ⟨rfl, g6, g7, xf, xz⟩ := putI_ok bf r1.2.1 h
    exact ⟨xf, g6, by omega, by omega⟩
  rw [if_neg k6] at h
  by_cases k7 : t.kind = 7
  · rw [if_pos k7] at h
    obtain ⟨y, G1, e1, h⟩ := RS.bind_inv h
    obtain ⟨yo, g0, g1⟩ := lettI_ok K hC hn hc ht k7 h0 h1 e1
    obtain ⟨xf, g2, g3, xz⟩ := K.inf _ _ _ _ _ (hc.mono (by omega)) yo g0 (by omega) h
    have hyz : (fsz y : Int) + 7 * G1 ≤ 7 * F := by
      unfold lettI at e1
      obtain ⟨_, F1, q1, e1⟩ := RS.bind_inv e1
      obtain ⟨_, F2, q2, e1⟩ := RS.bind_inv e1
      have hl : (t.kids.length : Int) = 3 := len_at ht.1 k7 (fun _ _ _ _ _ _ _ _ => rfl)
      have r0 := ht.kidR (i := 0) (Int.le_refl _) (by rw [k7]; rfl) (by omega) (by omega)
      obtain ⟨a1, a2, _⟩ := sortI_ok K hC hn hcF r0 h0 h1 q1
      have r0z := r0.2.2
      obtain ⟨b1, b2⟩ := K.chk _ _ _ _ _ _ (hc.mono (by omega)) (ht.kidR (i := 1) a2 (by rw [k7]; rfl) (by omega) (by omega)) ⟨r0.2.1, by omega⟩ a1 (by omega) q2
      obtain ⟨_, c1, c2, c3, c4⟩ := putI_ok (kid_fit ht.2.1 _) (kid_fit ht.2.1 _) e1
      omega
    exact ⟨xf, g2, by omega, by omega⟩
  rw [if_neg k7] at h
  by_cases k14 : t.kind = 14 ∨ t.kind = 15
  · rw [if_pos k14] at h
    have hl : (t.kids.length : Int) = 1 := by rcases k14 with e | e <;> exact len_at ht.1 e (fun _ _ _ _ _ _ _ _ => rfl)
    have hb0 : binds t.kind 0 = false := by rcases k14 with e | e <;> rw [e] <;> rfl
    unfold halfI at h
    obtain ⟨y, G1, e1, h⟩ := RS.bind_inv h
    obtain ⟨ab, G2, e2, h⟩ := RS.bind_inv h
    have r0 := ht.kidR (i := 0) (Int.le_refl _) hb0 (by omega) (by omega)
    obtain ⟨yf, g0, g1, yz⟩ := K.inf _ _ _ _ _ hcF r0 h0 h1 e1
    have hz0 := fsz_kid t 0
    obtain ⟨g2, g3, af, bf, az, bz⟩ := asI_ok hC g0 (by omega) ⟨yf, by omega⟩ e2
    split at h
    · cases h; exact ⟨af, g2, by omega, by omega⟩
    · obtain ⟨rfl, g6, g7, xf, xz⟩ := putI_ok bf (mk_fit (by simp) (fun u hu => by rw [List.mem_singleton.1 hu]; exact r0.2.1) (by omega)) h
      exact ⟨xf, g6, by omega, by omega⟩
  rw [if_neg k14] at h
  by_cases k18 : t.kind = 18
  · rw [if_pos k18] at h
    have hl : (t.kids.length : Int) = 5 := len_at ht.1 k18 (fun _ _ _ _ _ _ _ _ => rfl)
    have hb : ∀ i : Int, i ≠ 1 → binds t.kind i = false := fun i hi => by rw [k18]; unfold binds; have : bound 18 = 1 := rfl; rw [this]; simp; omega
    have hb1 : binds t.kind 1 = true := by rw [k18]; rfl
    unfold recI at h
    obtain ⟨_, G1, e1, h⟩ := RS.bind_inv h
    obtain ⟨_, G2, e2, h⟩ := RS.bind_inv h
    obtain ⟨_, G3, e3, h⟩ := RS.bind_inv h
    obtain ⟨_, G4, e4, h⟩ := RS.bind_inv h
    obtain ⟨_, G5, e5, h⟩ := RS.bind_inv h
    cases h
    have r := fun (i G : Int) (hG : G ≤ F) (hi : i ≠ 1) (h0 : 0 ≤ i) (h5 : i < 5) => ht.kidR (i := i) hG (hb i hi) h0 (by omega)
    have z := fun i : Int => fsz_kid t i
    have f := fun i : Int => kid_fit ht.2.1 i
    obtain ⟨g0, g1, _⟩ := sortI_ok K hC hn hcF (r 0 F (by omega) (by omega) (by omega) (by omega)) h0 h1 e1
    obtain ⟨g2, g3, _⟩ := sortI_ok K hC hn (hc.put ht h0 g1 0) (ht.kidB (i := 1) g1 hb1 (by omega) (by omega)) g0 (by omega) e2
    have z0 := z 0; have z1 := z 1; have z2 := z 2; have z4 := z 4
    have tt : ∀ G, 0 ≤ G → G ≤ F → TyOk (ofT 16 [kid t 0, kid t 1]) G := fun G a b => ⟨two_fit (f 0) (f 1), by rw [fsz_two (by simp [lack, spotOf])]; push_cast; omega⟩
    obtain ⟨g4, g5⟩ := K.chk _ _ _ _ _ _ (hc.mono (by omega)) (r 4 G2 (by omega) (by omega) (by omega) (by omega)) (tt G2 g2 (by omega)) g2 (by omega) e3
    obtain ⟨g6, g7⟩ := motivI_ok K hC hn (hc.mono (by omega)) (r 2 G3 (by omega) (by omega) (by omega) (by omega)) (tt G3 g4 (by omega)) g4 (by omega) e4
    obtain ⟨sf, sz⟩ := stepTy_ok (f 0) (f 1) (f 2)
    obtain ⟨g8, g9⟩ := K.chk _ _ _ _ _ _ (hc.mono (by omega)) (r 3 G4 (by omega) (by omega) (by omega) (by omega)) ⟨sf, by omega⟩ g6 (by omega) e5
    have p24 := fsz_pair (t := t) (i := 2) (j := 4) (by omega) (by omega) (by omega)
    exact ⟨two_fit (f 2) (f 4), g8, by omega, by rw [fsz_two (by simp [lack, spotOf])]; push_cast; omega⟩
  rw [if_neg k18] at h
  by_cases k19 : t.kind = 19
  · rw [if_pos k19] at h
    have hl : (t.kids.length : Int) = 3 := len_at ht.1 k19 (fun _ _ _ _ _ _ _ _ => rfl)
    unfold idI at h
    obtain ⟨i, G1, e1, h⟩ := RS.bind_inv h
    obtain ⟨_, G2, e2, h⟩ := RS.bind_inv h
    obtain ⟨_, G3, e3, h⟩ := RS.bind_inv h
    cases h
    have r0 := ht.kidR (i := 0) (Int.le_refl _) (by rw [k19]; rfl) (by omega) (by omega)
    have r0z := r0.2.2
    obtain ⟨g0, g1, il⟩ := sortI_ok K hC hn hcF r0 h0 h1 e1
    obtain ⟨g2, g3⟩ := K.chk _ _ _ _ _ _ (hc.mono (by omega)) (ht.kidR (i := 1) g1 (by rw [k19]; rfl) (by omega) (by omega)) ⟨r0.2.1, by omega⟩ g0 (by omega) e2
    obtain ⟨g4, g5⟩ := K.chk _ _ _ _ _ _ (hc.mono (by omega)) (ht.kidR (i := 2) (by omega) (by rw [k19]; rfl) (by omega) (by omega)) ⟨r0.2.1, by omega⟩ g2 (by omega) e3
    obtain ⟨uf, uz⟩ := un_ok (l := i) (by
      unfold sortI at e1
      obtain ⟨y, F1, q1, e1⟩ := RS.bind_inv e1
      obtain ⟨yf, a1, a2, yz⟩ := K.inf _ _ _ _ _ hcF r0 h0 h1 q1
      unfold levelI at e1
      obtain ⟨x, F2, q2, e1⟩ := RS.bind_inv e1
      obtain ⟨xf, _⟩ := headI_w hC a1 (by omega) ⟨yf, by omega⟩ q2
      split at e1
      · rename_i hx; cases e1
        exact xf.plen (getD_mem (by omega))
      · cases e1)
    exact ⟨uf, g4, by omega, by rw [uz]; omega⟩
  rw [if_neg k19] at h
  by_cases k21 : t.kind = 21
  · rw [if_pos k21] at h
    have hl : (t.kids.length : Int) = 6 := len_at ht.1 k21 (fun _ _ _ _ _ _ _ _ => rfl)
    have hb : ∀ i : Int, binds t.kind i = false := fun i => by
      rw [k21]; unfold binds
      have : bound 21 = -1 := rfl
      rw [this]
      by_cases h : 0 ≤ i
      · simp; omega
      · simp [h]
    have z := fun i : Int => fsz_kid t i
    have f := fun i : Int => kid_fit ht.2.1 i
    have z0 := z 0; have z1 := z 1; have z2 := z 2; have z4 := z 4; have z5 := z 5
    have r := fun (i G : Int) (hG : G ≤ F) (h0 : 0 ≤ i) (h5 : i < 6) => ht.kidR (i := i) hG (hb i) h0 (by omega)
    have ty0 : ∀ G, 0 ≤ G → G ≤ F → TyOk (kid t 0) G := fun G a b => ⟨f 0, by omega⟩
    have h3 : ∀ (x y w : Term), fsz (ofT 19 [x, y, w]) = 1 + fsz x + fsz y + fsz w := fun x y w => by
      have h' : lack 19 0 (0 + 1 + 1 + 1) = 0 := by simp [lack, spotOf]
      simp only [fsz, fszs, List.length_cons, List.length_nil, h']; omega
    have h3f : ∀ (x y w : Term), x.fit 1099511627776 → y.fit 1099511627776 → w.fit 1099511627776 → (ofT 19 [x, y, w]).fit 1099511627776 := fun x y w hx hy hw =>
      mk_fit (by simp) (fun u hu => by simp at hu; rcases hu with rfl | rfl | rfl <;> assumption) (by omega)
    unfold pathI at h
    obtain ⟨_, G1, e1, h⟩ := RS.bind_inv h
    obtain ⟨_, G2, e2, h⟩ := RS.bind_inv h
    obtain ⟨_, G3, e3, h⟩ := RS.bind_inv h
    obtain ⟨_, G4, e4, h⟩ := RS.bind_inv h
    obtain ⟨y, G5, e5, h⟩ := RS.bind_inv h
    obtain ⟨ab, G6, e6, h⟩ := RS.bind_inv h
    obtain ⟨_, G7, e7, h⟩ := RS.bind_inv h
    obtain ⟨pe, G8, e8, h⟩ := RS.bind_inv h
    obtain ⟨_, G9, e9, h⟩ := RS.bind_inv h
    obtain ⟨_, G10, e10, h⟩ := RS.bind_inv h
    obtain ⟨_, G11, e11, h⟩ := RS.bind_inv h
    cases h
    obtain ⟨g0, g1, _⟩ := sortI_ok K hC hn hcF (r 0 F (by omega) (by omega) (by omega)) h0 h1 e1
    obtain ⟨g2, g3⟩ := K.chk _ _ _ _ _ _ (hc.mono (by omega)) (r 1 G1 (by omega) (by omega) (by omega)) (ty0 G1 g0 (by omega)) g0 (by omega) e2
    obtain ⟨g4, g5⟩ := K.chk _ _ _ _ _ _ (hc.mono (by omega)) (r 4 G2 (by omega) (by omega) (by omega)) (ty0 G2 g2 (by omega)) g2 (by omega) e3
    obtain ⟨g6, g7⟩ := K.chk _ _ _ _ _ _ (hc.mono (by omega)) (r 5 G3 (by omega) (by omega) (by omega)) ⟨h3f _ _ _ (f 0) (f 1) (f 4), by rw [h3]; push_cast; omega⟩ g4 (by omega) e4
    obtain ⟨yf, g8, g9, yz⟩ := K.inf _ _ _ _ _ (hc.mono (by omega)) (r 2 G4 (by omega) (by omega) (by omega)) g6 (by omega) e5
    obtain ⟨g10, g11, af, bf, az, bz⟩ := asI_ok hC g8 (by omega) ⟨yf, by omega⟩ e6
    obtain ⟨g12, g13⟩ := oneI_ok hC g10 (by omega) ⟨af, by omega⟩ ⟨f 0, by omega⟩ e7
    obtain ⟨g14, g15, pf, ef, pz, ez⟩ := asI_ok hC g12 (by omega) ⟨bf, by omega⟩ e8
    obtain ⟨g16, g17⟩ := oneI_ok hC g14 (by omega) ⟨pf, by omega⟩ ⟨h3f _ _ _ (lift_fit (f 0) _ _) (lift_fit (f 1) _ _) (tv_fit 0 (by omega)), by rw [h3, lift_fsz, lift_fsz, tv_fsz]; push_cast; omega⟩ e9
    obtain ⟨g18, g19, _⟩ := levelI_ok hC g16 (by omega) ⟨ef, by omega⟩ e10
    obtain ⟨lf, lz⟩ := leaf_ok 20 0 0 (by simp [lack, spotOf]) (by omega) (by omega)
    obtain ⟨g20, g21⟩ := K.chk _ _ _ _ _ _ (hc.mono (by omega)) (r 3 G10 (by omega) (by omega) (by omega)) ⟨two_fit (two_fit (f 2) (f 1)) lf, by rw [fsz_two (by simp [lack, spotOf]), fsz_two (by simp [lack, spotOf]), lz]; push_cast; omega⟩ g18 (by omega) e11
    have p24 := fsz_pair (t := t) (i := 2) (j := 4) (by omega) (by omega) (by omega)
    have p5 := fsz_one (t := t) (i := 5) (by omega) (by omega)
    exact ⟨two_fit (two_fit (f 2) (f 4)) (f 5), g20, by omega, by rw [fsz_two (by simp [lack, spotOf]), fsz_two (by simp [lack, spotOf])]; push_cast; omega⟩
  rw [if_neg k21] at h
  by_cases k22 : t.kind = 22
  · rw [if_pos k22] at h; cases h
    obtain ⟨uf, uz⟩ := un_ok (l := []) (by simp)
    exact ⟨uf, h0, by omega, by rw [uz]; omega⟩
  rw [if_neg k22] at h
  by_cases k23 : t.kind = 23
  · rw [if_pos k23] at h; cases h
    have hv := (right_iff.1 ht.1).1
    rw [asks_at k23] at hv
    have h2 : elemB t = true := hv
    simp only [elemB, Bool.and_eq_true, decide_eq_true_eq] at h2
    obtain ⟨uf, uz⟩ := leaf_ok 22 t.at_ 0 (by simp [lack, spotOf]) (by have := ht.2.1.atr; omega) (by omega)
    exact ⟨uf, h0, by omega, by rw [uz]; omega⟩
  rw [if_neg k23] at h
  by_cases k24 : t.kind = 24
  · rw [if_pos k24] at h
    obtain ⟨hl, ha0⟩ := case_len ht.1 ht.2.1 k24
    have ha := ht.2.1.atr
    have hlen := ht.2.1.len
    have hb : ∀ i : Int, binds t.kind i = false := fun i => by rw [k24]; exact binds24 i
    have r := fun (i G : Int) (hG : G ≤ F) (h0 : 0 ≤ i) (h5 : i < t.kids.length) => ht.kidR (i := i) hG (hb i) h0 h5
    unfold branchI at h
    obtain ⟨_, G1, e1, h⟩ := RS.bind_inv h
    obtain ⟨_, G2, e2, h⟩ := RS.bind_inv h
    obtain ⟨_, G3, e3, h⟩ := RS.bind_inv h
    cases h
    obtain ⟨lf, lz⟩ := leaf_ok 22 t.at_ 0 (by simp [lack, spotOf]) (by omega) (by omega)
    have ty : ∀ G, 0 ≤ G → G ≤ F → TyOk (.mk 22 t.at_ 0 [] []) G := fun G a b => ⟨lf, by rw [lz]; push_cast; omega⟩
    have z0 := fsz_kid t 0
    obtain ⟨g0, g1⟩ := K.chk _ _ _ _ _ _ hcF (r (t.at_ + 1) F (by omega) (by omega) (by omega)) (ty F h0 (by omega)) h0 h1 e1
    obtain ⟨g2, g3⟩ := motivI_ok K hC hn (hc.mono (by omega)) (r 0 G1 (by omega) (by omega) (by omega)) (ty G1 g0 g1) g0 (by omega) e2
    obtain ⟨g4, g5⟩ := cases_ok K ha (kid_fit ht.2.1 0) _ 0 G2 _ _ (by omega) (by rw [List.length_take, List.length_drop]; omega) (hc.mono (by omega)) (fun b hb' => by
      have hm := List.mem_of_mem_drop (List.mem_of_mem_take hb')
      obtain ⟨i, hi⟩ := List.mem_iff_getElem?.1 hm
      have hi' := (List.getElem?_eq_some_iff.1 hi).1
      have := r i G2 (by omega) (by omega) (by omega)
      rw [kid_at (by omega) (by omega), Int.toNat_natCast, List.getD_eq_getElem?_getD, hi] at this
      exact this) (by omega) g2 (by omega) e3
    have q0 := fsz_one (t := t) (i := 0) (by omega) (by omega)
    have q1 := fsz_one (t := t) (i := t.at_ + 1) (by omega) (by omega)
    exact ⟨two_fit (kid_fit ht.2.1 _) (kid_fit ht.2.1 _), g4, by omega, by rw [fsz_two (by simp [lack, spotOf])]; push_cast; omega⟩
  rw [if_neg k24] at h
  cases h
theorem check_ok {c : List Term} {t ty : Term} {u : Unit} {F G : Int} (hc : CtxOk c (F + 1)) (ht : AskOk nl cn c t F) (hy : TyOk ty (F + 1)) (h0 : 0 ≤ F) (h1 : F ≤ n) (h : checkI cs inf chk c t ty F = .ok u G) : 0 ≤ G ∧ G ≤ F := by
  have hcF : CtxOk c F := hc.mono (by omega)
  have htz := ht.2.2
  have hyz := hy.2
  unfold checkI at h
  by_cases k5 : t.kind = 5
  · rw [if_pos k5] at h
    have hl : (t.kids.length : Int) = 2 := len_at ht.1 k5 (fun _ _ _ _ _ _ _ _ => rfl)
    obtain ⟨ab, G1, e1, h⟩ := RS.bind_inv h
    obtain ⟨_, G2, e2, h⟩ := RS.bind_inv h
    obtain ⟨_, G3, e3, h⟩ := RS.bind_inv h
    have r0 := fun G (hG : G ≤ F) => ht.kidR (i := 0) hG (by rw [k5]; rfl) (by omega) (by omega)
    have z0 := fsz_kid t 0
    obtain ⟨g0, g1, af, bf, az, bz⟩ := asI_ok hC h0 (by omega) ⟨hy.1, by omega⟩ e1
    obtain ⟨g2, g3, _⟩ := sortI_ok K hC hn (hc.mono (by omega)) (r0 G1 g1) g0 (by omega) e2
    obtain ⟨g4, g5⟩ := oneI_ok hC g2 (by omega) ⟨kid_fit ht.2.1 _, by omega⟩ ⟨af, by omega⟩ e3
    obtain ⟨g6, g7⟩ := K.chk _ _ _ _ _ _ (hc.put ht h0 (by omega) 0) (ht.kidB (i := 1) (by omega) (by rw [k5]; rfl) (by omega) (by omega)) ⟨bf, by omega⟩ g4 (by omega) h
    omega
  rw [if_neg k5] at h
  by_cases k13 : t.kind = 13
  · rw [if_pos k13] at h
    have hl : (t.kids.length : Int) = 2 := len_at ht.1 k13 (fun _ _ _ _ _ _ _ _ => rfl)
    obtain ⟨ab, G1, e1, h⟩ := RS.bind_inv h
    obtain ⟨_, G2, e2, h⟩ := RS.bind_inv h
    obtain ⟨y, G3, e3, h⟩ := RS.bind_inv h
    obtain ⟨g0, g1, af, bf, az, bz⟩ := asI_ok hC h0 (by omega) ⟨hy.1, by omega⟩ e1
    obtain ⟨g2, g3⟩ := K.chk _ _ _ _ _ _ (hc.mono (by omega)) (ht.kidR (i := 0) (by omega) (by rw [k13]; rfl) (by omega) (by omega)) ⟨af, by omega⟩ g0 (by omega) e2
    obtain ⟨rfl, g4, g5, xf, xz⟩ := putI_ok bf (kid_fit ht.2.1 _) e3
    obtain ⟨g6, g7⟩ := K.chk _ _ _ _ _ _ (hc.mono (by omega)) (ht.kidR (i := 1) (by omega) (by rw [k13]; rfl) (by omega) (by omega)) ⟨xf, by omega⟩ g4 (by omega) h
    omega
  rw [if_neg k13] at h
  by_cases k17 : t.kind = 17
  · rw [if_pos k17] at h
    have hl : (t.kids.length : Int) = 2 := len_at ht.1 k17 (fun _ _ _ _ _ _ _ _ => rfl)
    obtain ⟨ab, G1, e1, h⟩ := RS.bind_inv h
    obtain ⟨_, G2, e2, h⟩ := RS.bind_inv h
    obtain ⟨y, G3, e3, h⟩ := RS.bind_inv h
    obtain ⟨g0, g1, af, bf, az, bz⟩ := asI_ok hC h0 (by omega) ⟨hy.1, by omega⟩ e1
    obtain ⟨g2, g3⟩ := K.chk _ _ _ _ _ _ (hc.mono (by omega)) (ht.kidR (i := 0) (by omega) (by rw [k17]; rfl) (by omega) (by omega)) ⟨af, by omega⟩ g0 (by omega) e2
    obtain ⟨rfl, g4, g5, xf, xz⟩ := putI_ok bf (kid_fit ht.2.1 _) e3
    have abz := asI_two hC h0 (by omega) ⟨hy.1, by omega⟩ e1
    have tyo := supTy_ok (x := put ab.2 [kid t 0]) (ab := ab) xf af bf
    obtain ⟨g6, g7⟩ := K.chk _ _ _ _ _ _ (hc.mono (by omega)) (ht.kidR (i := 1) (by omega) (by rw [k17]; rfl) (by omega) (by omega)) ⟨tyo.1, by rw [tyo.2]; push_cast; omega⟩ g4 (by omega) h
    omega
  rw [if_neg k17] at h
  by_cases k20 : t.kind = 20
  · rw [if_pos k20] at h
    obtain ⟨x, G1, e1, h⟩ := RS.bind_inv h
    obtain ⟨xf, g0, g1, xz⟩ := headI_w hC h0 (by omega) ⟨hy.1, by omega⟩ e1
    split at h
    · have z1 := fsz_kid x 1
      have z2 := fsz_kid x 2
      obtain ⟨g2, g3⟩ := oneI_ok hC g0 (by omega) ⟨kid_fit xf _, by omega⟩ ⟨kid_fit xf _, by omega⟩ h
      omega
    · cases h
  rw [if_neg k20] at h
  by_cases k7 : t.kind = 7
  · rw [if_pos k7] at h
    obtain ⟨y, G1, e1, h⟩ := RS.bind_inv h
    obtain ⟨yo, g0, g1⟩ := lettI_ok K hC hn hc ht k7 h0 h1 e1
    obtain ⟨g2, g3⟩ := K.chk _ _ _ _ _ _ (hc.mono (by omega)) yo ⟨hy.1, by omega⟩ g0 (by omega) h
    omega
  rw [if_neg k7] at h
  obtain ⟨x, G1, e1, h⟩ := RS.bind_inv h
  obtain ⟨xf, g0, g1, xz⟩ := K.inf _ _ _ _ _ hcF ht h0 h1 e1
  split at h
  · rename_i hz
    have := leqM_w hC (F := G1) (p := x) (q := ty) g0 (by omega) ⟨xf, by omega⟩ ⟨hy.1, by omega⟩ hz
    split at h
    · cases h; omega
    · cases h
  · cases h
end
theorem burn_inv {k F G : Int} {u : Unit} (h : burnI k F = .ok u G) : k ≤ F ∧ G = F - k := by
  unfold burnI at h
  split at h
  · cases h; exact ⟨by assumption, rfl⟩
  · cases h
theorem known_0 {cs : List Core} {nl : Int} {cn : List Int} {n : Int} (hn : n < 0) : Known nl cn (IC cs nl 0).1 (IC cs nl 0).2 n where
  inf := fun c t F x G _ _ h0 h1 _ => by exfalso; omega
  chk := fun c t ty F u G _ _ _ h0 h1 _ => by exfalso; omega
theorem known_S {cs : List Core} {nl : Int} {cn : List Int} (hC : CoresOk cs) (hT : TypsOk cs) {m : Nat} {n : Int} (hn : n ≤ 1073741824) (K : Known nl cn (IC cs nl m).1 (IC cs nl m).2 n) : Known nl cn (IC cs nl (m + 1)).1 (IC cs nl (m + 1)).2 (n + 1) := by
  refine ⟨fun c t F x G hc ht h0 h1 h => ?_, fun c t ty F u G hc ht hy h0 h1 h => ?_⟩
  · rw [IC] at h
    obtain ⟨_, F1, e1, h⟩ := RS.bind_inv h
    obtain ⟨b1, rfl⟩ := burn_inv e1
    have hz := ht.2.2
    obtain ⟨a, b, d, e⟩ := rule_ok K hC hn hT (c := c) (F := F - 1) (by rw [Int.sub_add_cancel]; exact hc) ⟨ht.1, ht.2.1, by omega⟩ (by omega) (by omega) h
    exact ⟨a, b, by omega, by omega⟩
  · rw [IC] at h
    obtain ⟨_, F1, e1, h⟩ := RS.bind_inv h
    obtain ⟨b1, rfl⟩ := burn_inv e1
    have hz := ht.2.2
    have hyz := hy.2
    obtain ⟨a, b⟩ := check_ok K hC hn (c := c) (F := F - 1) (by rw [Int.sub_add_cancel]; exact hc) ⟨ht.1, ht.2.1, by omega⟩ (by rw [Int.sub_add_cancel]; exact hy) (by omega) (by omega) h
    omega
theorem known_IC {cs : List Core} {nl : Int} {cn : List Int} (hC : CoresOk cs) (hT : TypsOk cs) (m : Nat) (h : (m : Int) ≤ 1073741824) : Known nl cn (IC cs nl m).1 (IC cs nl m).2 ((m : Int) - 1) := by
  induction m with
  | zero => exact known_0 (by decide)
  | succ m ih =>
    have h1 : ((m + 1 : Nat) : Int) = (m : Int) + 1 := Int.natCast_succ m
    rw [h1] at h ⊢
    have := known_S hC hT (by omega) (ih (by omega))
    rwa [show (m : Int) - 1 + 1 = (m : Int) + 1 - 1 by omega] at this
end Sp

/- What infer reckons: how a round begins. -/
set_option linter.unusedVariables false
set_option linter.unusedSimpArgs false
namespace Sp
open Go
theorem burn_er {k F e : Int} (h : burnI k F = .er e) : ¬ k ≤ F ∧ e = 5 := by
  unfold burnI at h
  split at h
  · cases h
  · cases h; exact ⟨by assumption, rfl⟩
theorem AskOk.mono {nl : Int} {cn : List Int} {c : List Term} {t : Term} {F G : Int} (h : AskOk nl cn c t F) (hG : G ≤ F) : AskOk nl cn c t G := ⟨h.1, h.2.1, by have := h.2.2; omega⟩
theorem sort_lv {nl : Int} {cn : List Int} {nt : Int} {t : Term} (h : rightM nl cn nt t = true) (hk : t.kind = 2) : t.levels.length = 1 := by
  have h1 := (right_iff.1 h).1
  rw [asks_at hk] at h1
  have h2 : sortB nl t = true := h1
  simp only [sortB, Bool.and_eq_true, decide_eq_true_eq] at h2
  omega
theorem check_lam {cs : List Core} {inf : List Term → Term → Int → RS Term} {chk : List Term → Term → Term → Int → RS Unit} {c : List Term} {t ty : Term} {F : Int} (h5 : t.kind = 5) :
    checkI cs inf chk c t ty F = (asI cs ty 4 8 F).bind fun ab F => (sortI cs inf c (kid t 0) F).bind fun _ F => (oneI cs (kid t 0) ab.1 13 F).bind fun _ F => chk (c ++ [kid t 0]) (kid t 1) ab.2 F := if_pos h5
theorem check_pair {cs : List Core} {inf : List Term → Term → Int → RS Term} {chk : List Term → Term → Term → Int → RS Unit} {c : List Term} {t ty : Term} {F : Int} (h : t.kind = 13) :
    checkI cs inf chk c t ty F = (asI cs ty 12 9 F).bind fun ab F => (chk c (kid t 0) ab.1 F).bind fun _ F => (putI ab.2 (kid t 0) F).bind fun y F => chk c (kid t 1) y F := by simp [checkI, h]
theorem check_sup {cs : List Core} {inf : List Term → Term → Int → RS Term} {chk : List Term → Term → Term → Int → RS Unit} {c : List Term} {t ty : Term} {F : Int} (h : t.kind = 17) :
    checkI cs inf chk c t ty F = (asI cs ty 16 10 F).bind fun ab F => (chk c (kid t 0) ab.1 F).bind fun _ F => (putI ab.2 (kid t 0) F).bind fun y F => chk c (kid t 1) (ofT 4 [y, ofT 16 [lift ab.1 1 0, lift ab.2 1 1]]) F := by simp [checkI, h]
theorem check_refl {cs : List Core} {inf : List Term → Term → Int → RS Term} {chk : List Term → Term → Term → Int → RS Unit} {c : List Term} {t ty : Term} {F : Int} (h : t.kind = 20) :
    checkI cs inf chk c t ty F = (headI cs ty F).bind fun x F => if x.kind = 19 then oneI cs (kid x 1) (kid x 2) 11 F else .er 11 := by simp [checkI, h]
theorem check_let {cs : List Core} {inf : List Term → Term → Int → RS Term} {chk : List Term → Term → Term → Int → RS Unit} {c : List Term} {t ty : Term} {F : Int} (h : t.kind = 7) :
    checkI cs inf chk c t ty F = (lettI cs inf chk c t F).bind fun y F => chk c y ty F := by simp [checkI, h]
theorem check_inf {cs : List Core} {inf : List Term → Term → Int → RS Term} {chk : List Term → Term → Term → Int → RS Unit} {c : List Term} {t ty : Term} {F : Int} (h5 : ¬ t.kind = 5) (h13 : ¬ t.kind = 13) (h17 : ¬ t.kind = 17) (h20 : ¬ t.kind = 20) (h7 : ¬ t.kind = 7) :
    checkI cs inf chk c t ty F = (inf c t F).bind fun x F => if (leqM cs F x ty).2.2 = 0 then (if (leqM cs F x ty).1 = true then .ok () (leqM cs F x ty).2.1 else .er 13) else .er (leqM cs F x ty).2.2 := by simp [checkI, h5, h13, h17, h20, h7]
theorem IC_inf {cs : List Core} {nl : Int} {m : Nat} {c : List Term} {t : Term} {F : Int} : (IC cs nl (m + 1)).1 c t F = if 1 ≤ F then ruleI cs nl (IC cs nl m).1 (IC cs nl m).2 c t (F - 1) else .er 5 := by
  simp only [IC, burnI]; split <;> rfl
theorem IC_chk {cs : List Core} {nl : Int} {m : Nat} {c : List Term} {t ty : Term} {F : Int} : (IC cs nl (m + 1)).2 c t ty F = (burnI 1 F).bind fun _ F => checkI cs (IC cs nl m).1 (IC cs nl m).2 c t ty F := rfl
theorem spend_ok {e F G : Int} {u : Unit} (h : (if e = 0 then RS.ok () F else RS.er e) = RS.ok u G) : e = 0 ∧ F = G := by
  split at h
  · cases h; exact ⟨by assumption, rfl⟩
  · cases h
theorem spend_er {e F r : Int} (h : (if e = 0 then RS.ok () F else RS.er e : RS Unit) = RS.er r) : ¬ e = 0 ∧ e = r := by
  split at h
  · cases h
  · cases h; exact ⟨by assumption, rfl⟩
end Sp

/- What infer tells. -/
set_option linter.unusedVariables false
set_option linter.unusedSimpArgs false
namespace Sp
open Go
def ctxR (nl : Int) (cn : List Int) : Int → List Term → Bool
  | _, [] => true
  | k, t :: ts => rightM nl cn k t && ctxR nl cn (k + 1) ts
def scopeI (nl : Int) (cn : List Int) (ctx ts : List Term) : Bool := ctxR nl cn 0 ctx && ts.all (rightM nl cn ctx.length)
def ArgI (nl most : Int) : Prop := 0 ≤ nl ∧ nl ≤ 8 ∧ 0 ≤ most ∧ most ≤ 1073741824
instance (nl most : Int) : Decidable (ArgI nl most) := by unfold ArgI; infer_instance
def toldI {α : Type} (none : α) (nl : Int) (cn : List Int) (ctx : List Term) (most : Int) (ts : List Term) (r : RS α) : α × Int × Int :=
  if ArgI nl most then (if scopeI nl cn ctx ts = true then (match r with | .ok a F => (a, F, 0) | .er e => (none, 0, e)) else (none, 0, 6)) else (none, 0, 2)
theorem told_arg {α : Type} {none : α} {nl : Int} {cn : List Int} {ctx : List Term} {most : Int} {ts : List Term} {r : RS α} (h : ¬ ArgI nl most) : toldI none nl cn ctx most ts r = (none, 0, 2) := if_neg h
theorem told_scope {α : Type} {none : α} {nl : Int} {cn : List Int} {ctx : List Term} {most : Int} {ts : List Term} {r : RS α} (h : ArgI nl most) (h2 : scopeI nl cn ctx ts = false) : toldI none nl cn ctx most ts r = (none, 0, 6) := by
  unfold toldI; rw [if_pos h, h2]; rfl
theorem told_ok {α : Type} {none : α} {nl : Int} {cn : List Int} {ctx : List Term} {most : Int} {ts : List Term} {r : RS α} {a : α} {F : Int} (h : ArgI nl most) (h2 : scopeI nl cn ctx ts = true) (h3 : r = .ok a F) : toldI none nl cn ctx most ts r = (a, F, 0) := by
  unfold toldI; rw [if_pos h, if_pos h2, h3]
theorem told_er {α : Type} {none : α} {nl : Int} {cn : List Int} {ctx : List Term} {most : Int} {ts : List Term} {r : RS α} {e : Int} (h : ArgI nl most) (h2 : scopeI nl cn ctx ts = true) (h3 : r = .er e) : toldI none nl cn ctx most ts r = (none, 0, e) := by
  unfold toldI; rw [if_pos h, if_pos h2, h3]
theorem ctxR_take {nl : Int} {cn : List Int} : ∀ (ts : List Term) (k : Int) (i : Nat), i < ts.length → ctxR nl cn k (ts.take (i + 1)) = (ctxR nl cn k (ts.take i) && rightM nl cn (k + i) (ts.getD i default))
  | [], k, i, h => by simp at h
  | t :: ts, k, 0, h => by simp [ctxR]
  | t :: ts, k, i + 1, h => by
    have := ctxR_take (nl := nl) (cn := cn) ts (k + 1) i (by simpa using h)
    simp only [List.take_succ_cons, ctxR, this, List.getD_cons_succ, Bool.and_assoc]
    congr 3
    push_cast; omega
theorem ctxR_fall {nl : Int} {cn : List Int} : ∀ (ts : List Term) (k : Int) (i : Nat), i < ts.length → rightM nl cn (k + i) (ts.getD i default) = false → ctxR nl cn k ts = false
  | [], k, i, h, e => by simp at h
  | t :: ts, k, 0, h, e => by simp [ctxR] at e ⊢; simp [e]
  | t :: ts, k, i + 1, h, e => by
    have := ctxR_fall (nl := nl) (cn := cn) ts (k + 1) i (by simpa using h) (by rw [← e]; simp only [List.getD_cons_succ]; congr 1; push_cast; omega)
    simp [ctxR, this]
theorem all_take {p : Term → Bool} : ∀ (ts : List Term) (i : Nat), i < ts.length → (ts.take (i + 1)).all p = ((ts.take i).all p && p (ts.getD i default))
  | [], i, h => by simp at h
  | t :: ts, 0, h => by simp
  | t :: ts, i + 1, h => by
    have := all_take (p := p) ts i (by simpa using h)
    simp only [List.take_succ_cons, List.all_cons, this, List.getD_cons_succ, Bool.and_assoc]
theorem all_fall {p : Term → Bool} : ∀ (ts : List Term) (i : Nat), i < ts.length → p (ts.getD i default) = false → ts.all p = false
  | [], i, h, e => by simp at h
  | t :: ts, 0, h, e => by simp at e; simp [e]
  | t :: ts, i + 1, h, e => by
    have := all_fall ts i (by simpa using h) e
    rw [List.all_cons, this, Bool.and_false]
def lvs (cs : List Core) : List Int := cs.map (·.levels)
def sortR (cs : List Core) (nl : Int) (ctx : List Term) (t : Term) (F : Int) : RS Level := (sortI cs (IC cs nl (F.toNat + 1)).1 ctx t F).bind fun l F => .ok (normM l) F
def checkR (cs : List Core) (nl : Int) (ctx : List Term) (t ty : Term) (F : Int) : RS Bool := ((IC cs nl (F.toNat + 1)).2 ctx t ty F).bind fun _ F => .ok true F
def inferR (cs : List Core) (nl : Int) (ctx : List Term) (t : Term) (F : Int) : RS Term := ((IC cs nl (F.toNat + 1)).1 ctx t F).bind fun x F => .ok (lift x 0 0) F
def sortM (cs : List Core) (nl : Int) (ctx : List Term) (t : Term) (F : Int) : Level × Int × Int := toldI [] nl (lvs cs) ctx F [t] (sortR cs nl ctx t F)
def checkM (cs : List Core) (nl : Int) (ctx : List Term) (t ty : Term) (F : Int) : Bool × Int × Int := toldI false nl (lvs cs) ctx F [t, ty] (checkR cs nl ctx t ty F)
def inferM (cs : List Core) (nl : Int) (ctx : List Term) (t : Term) (F : Int) : Term × Int × Int := toldI T0 nl (lvs cs) ctx F [t] (inferR cs nl ctx t F)
def Small (cs : List Core) (ctx : List Term) (ts : List Term) (F : Int) : Prop := CoresOk cs ∧ TypsOk cs ∧ CtxOk ctx F ∧ ∀ t ∈ ts, (fsz t : Int) + 7 * F ≤ 16777216
theorem scope_at {nl : Int} {cn : List Int} {ctx ts : List Term} (h : scopeI nl cn ctx ts = true) {t : Term} (ht : t ∈ ts) : rightM nl cn ctx.length t = true := by
  unfold scopeI at h
  rw [Bool.and_eq_true] at h
  exact List.all_eq_true.1 h.2 t ht
end Sp

/- What cenv reckons. -/
set_option linter.unusedVariables false
set_option linter.unusedSimpArgs false
namespace Sp
open Go
theorem liftG_zero {t : Term} (h : -9223372036854775808 ≤ t.num ∧ t.num ≤ 9223372036854775807) (b : Int) : liftG 0 0 b t = t := by
  unfold liftG
  split
  · rw [Int.add_zero, w64_id h.1 h.2]; cases t; rfl
  · rfl
mutual
theorem walk_zero {B : Nat} : ∀ (t : Term) (b : Int), t.fit B → walkM (liftG 0 0) no b t = t
  | .mk k n a ls ks, b, h => by
    rw [walkM]
    simp only [no, cond_false]
    rw [liftG_zero h.nr, walks_zero ks b k 0 (fun t ht => (Term.fit_iff.1 h).2.2.2.1 t ht)]
    rfl
theorem walks_zero {B : Nat} : ∀ (ts : List Term) (b k : Int) (i : Nat), (∀ t ∈ ts, t.fit B) → walkMs (liftG 0 0) no b k i ts = ts
  | [], b, k, i, h => rfl
  | t :: ts, b, k, i, h => by rw [walkMs, walk_zero t _ (h t (by simp)), walks_zero ts b k (i + 1) (fun u hu => h u (by simp [hu]))]
end
theorem lift_zero {B : Nat} {t : Term} (h : t.fit B) : lift t 0 0 = t := walk_zero t 0 h
def bareC (b : Term) : Prop := b.kind = 0 ∧ b.num = 0 ∧ b.at_ = 0 ∧ (b.levels.length : Int) + b.kids.length = 0
instance (b : Term) : Decidable (bareC b) := by unfold bareC; infer_instance
def shapeI (c : Core) (F : Int) : RS Unit := if c.levels < 0 ∨ 8 < c.levels ∨ (c.has = false ∧ ¬ bareC c.body) then .er 2 else .ok () F
def typI (l : List Core) (c : Core) (F : Int) : RS Unit := if (sortM l c.levels [] c.typ F).2.2 = 0 then .ok () (sortM l c.levels [] c.typ F).2.1 else .er (sortM l c.levels [] c.typ F).2.2
def bodyI (l : List Core) (c : Core) (F : Int) : RS Unit :=
  if c.has = true then (if (checkM l c.levels [] c.body c.typ F).2.2 = 0 then .ok () (checkM l c.levels [] c.body c.typ F).2.1 else .er (checkM l c.levels [] c.body c.typ F).2.2) else .ok () F
def addI (l : List Core) (c : Core) (F : Int) : RS Unit := (shapeI c F).bind fun _ F => (typI l c F).bind fun _ F => bodyI l c F
def restI (l : List Core) (c : Core) : Nat → Int → RS Unit
  | 0, F => addI l c F
  | 1, F => (typI l c F).bind fun _ F => bodyI l c F
  | 2, F => bodyI l c F
  | _ + 3, F => .ok () F
def asks (pre : List Core) : List Core → Int → Int × Int × Int
  | [], F => (pre.length, 0, F)
  | c :: cs, F => match addI pre c F with
    | .ok _ G => asks (pre ++ [c]) cs G
    | .er e => (pre.length, e, 0)
def BigI (F : Int) : Prop := F < 0 ∨ 1073741824 < F
instance (F : Int) : Decidable (BigI F) := by unfold BigI; infer_instance
def askedM (l : List Core) (ahead : Nat) (F : Int) : Int × Int × Int := if BigI F then (0, 2, F) else asks (l.take ahead) (l.drop ahead) F
def allTop (l : List Core) (F : Int) : Int × Int × Int :=
  if BigI F then (0, 0, (askedM l 0 F).2.1) else if (askedM l 0 F).2.1 ≠ 0 then (0, (askedM l 0 F).1 + 1, (askedM l 0 F).2.1) else ((askedM l 0 F).2.2, 0, 0)
def addTop (l : List Core) (c : Core) (F : Int) : List Core × Int × Int :=
  if (askedM (l ++ [c]) l.length F).2.1 ≠ 0 then ([], 0, (askedM (l ++ [c]) l.length F).2.1) else (l ++ [c], (askedM (l ++ [c]) l.length F).2.2, 0)
def CoreS (c : Core) : Prop := c.typ.fit 1099511627776 ∧ c.typ.sz ≤ 1048576 ∧ c.body.fit 1099511627776 ∧ c.body.sz ≤ 1048576
def CoresS (l : List Core) : Prop := ∀ c ∈ l, CoreS c
theorem CoresS.ok {l : List Core} (h : CoresS l) : CoresOk l ∧ TypsOk l := ⟨fun c hc => ⟨(h c hc).2.2.1, by have := (h c hc).2.2.2; omega⟩, fun c hc => ⟨(h c hc).1, (h c hc).2.1⟩⟩
theorem ctx_nil {F : Int} (h : F ≤ 1000000) : CtxOk [] F := ⟨by simp; omega, fun e he => by cases he⟩
theorem small_w {t : Term} (hf : t.fit 1099511627776) (hs : t.sz ≤ 1048576) {F : Int} (h : F ≤ 1000000) : (fsz t : Int) + 7 * F ≤ 16777216 := by
  have := fsz_le t hf; omega
theorem CoresS.small {l : List Core} (h : CoresS l) {c : Core} (hc : CoreS c) {F : Int} (hF : F ≤ 1000000) {ts : List Term} (ht : ∀ t ∈ ts, t = c.typ ∨ t = c.body) : Small l [] ts F :=
  ⟨h.ok.1, h.ok.2, ctx_nil hF, fun t hm => by
    rcases ht t hm with rfl | rfl
    · exact small_w hc.1 hc.2.1 hF
    · exact small_w hc.2.2.1 hc.2.2.2 hF⟩
theorem told_left {α : Type} {none : α} {nl : Int} {cn : List Int} {ctx : List Term} {most : Int} {ts : List Term} {r : RS α} (h0 : 0 ≤ most) (h : ∀ a F, ArgI nl most → scopeI nl cn ctx ts = true → r = .ok a F → 0 ≤ F ∧ F ≤ most) :
    0 ≤ (toldI none nl cn ctx most ts r).2.1 ∧ (toldI none nl cn ctx most ts r).2.1 ≤ most := by
  by_cases ha : ArgI nl most
  · cases hs : scopeI nl cn ctx ts with
    | false => rw [told_scope ha hs]; exact ⟨Int.le_refl _, h0⟩
    | true =>
      cases r with
      | ok a F => rw [told_ok ha hs rfl]; exact h a F ha hs rfl
      | er e => rw [told_er ha hs rfl]; exact ⟨Int.le_refl _, h0⟩
  · rw [told_arg ha]; exact ⟨Int.le_refl _, h0⟩
theorem sortM_left {l : List Core} (hl : CoresS l) {nl : Int} {t : Term} (hf : t.fit 1099511627776) (hs : t.sz ≤ 1048576) {F : Int} (h0 : 0 ≤ F) (hF : F ≤ 1000000) : 0 ≤ (sortM l nl [] t F).2.1 ∧ (sortM l nl [] t F).2.1 ≤ F := by
  refine told_left h0 (fun a G ha hsc h => ?_)
  unfold sortR at h
  obtain ⟨x, G1, e1, h⟩ := RS.bind_inv h
  cases h
  have K := known_IC (nl := nl) (cn := lvs l) hl.ok.1 hl.ok.2 (F.toNat + 1) (by omega)
  obtain ⟨a, b, _⟩ := sortI_ok K hl.ok.1 (by omega) (ctx_nil hF) ⟨scope_at hsc (by simp), hf, small_w hf hs hF⟩ h0 (by omega) e1
  exact ⟨a, b⟩
theorem checkM_left {l : List Core} (hl : CoresS l) {nl : Int} {t ty : Term} (hf : t.fit 1099511627776) (hs : t.sz ≤ 1048576) (hyf : ty.fit 1099511627776) (hys : ty.sz ≤ 1048576) {F : Int} (h0 : 0 ≤ F) (hF : F ≤ 1000000) : 0 ≤ (checkM l nl [] t ty F).2.1 ∧ (checkM l nl [] t ty F).2.1 ≤ F := by
  refine told_left h0 (fun a G ha hsc h => ?_)
  unfold checkR at h
  obtain ⟨x, G1, e1, h⟩ := RS.bind_inv h
  cases h
  have K := known_IC (nl := nl) (cn := lvs l) hl.ok.1 hl.ok.2 (F.toNat + 1) (by omega)
  exact K.chk [] t ty F x _ (ctx_nil hF) ⟨scope_at hsc (by simp), hf, small_w hf hs hF⟩ ⟨hyf, by have := small_w hyf hys hF; omega⟩ h0 (by omega) e1
theorem shapeI_ok {c : Core} {F G : Int} {u : Unit} (h : shapeI c F = .ok u G) : G = F := by
  unfold shapeI at h; split at h
  · cases h
  · cases h; rfl
theorem typI_ok {l : List Core} (hl : CoresS l) {c : Core} (hc : CoreS c) {F G : Int} {u : Unit} (h0 : 0 ≤ F) (hF : F ≤ 1000000) (h : typI l c F = .ok u G) : 0 ≤ G ∧ G ≤ F := by
  unfold typI at h; split at h
  · cases h; exact sortM_left hl hc.1 hc.2.1 h0 hF
  · cases h
theorem bodyI_ok {l : List Core} (hl : CoresS l) {c : Core} (hc : CoreS c) {F G : Int} {u : Unit} (h0 : 0 ≤ F) (hF : F ≤ 1000000) (h : bodyI l c F = .ok u G) : 0 ≤ G ∧ G ≤ F := by
  unfold bodyI at h; split at h
  · split at h
    · cases h; exact checkM_left hl hc.2.2.1 hc.2.2.2 hc.1 hc.2.1 h0 hF
    · cases h
  · cases h; exact ⟨h0, Int.le_refl _⟩
theorem addI_parts {l : List Core} {c : Core} {F G : Int} {u : Unit} (h : addI l c F = .ok u G) : shapeI c F = .ok () F ∧ ∃ G1, typI l c F = .ok () G1 ∧ bodyI l c G1 = .ok () G := by
  unfold addI at h
  obtain ⟨_, F1, e1, h2⟩ := RS.bind_inv h
  obtain ⟨_, G1, e2, h3⟩ := RS.bind_inv h2
  obtain rfl := shapeI_ok e1
  exact ⟨e1, G1, e2, h3⟩
theorem addI_er {l : List Core} {c : Core} {F e : Int} (h : addI l c F = .er e) : e ≠ 0 := by
  unfold addI at h
  cases h1 : shapeI c F with
  | er e1 => rw [RS.bind_er h1] at h; cases h; unfold shapeI at h1; split at h1 <;> cases h1; decide
  | ok u G =>
    rw [Ys h1] at h
    cases h2 : typI l c G with
    | er e1 => rw [RS.bind_er h2] at h; cases h; unfold typI at h2; split at h2 <;> cases h2; assumption
    | ok u G =>
      rw [Ys h2] at h
      unfold bodyI at h; split at h
      · split at h <;> cases h; assumption
      · cases h
theorem asks_snoc (l : List Core) (i : Nat) (h : i < l.length) (F : Int) : asks (l.take i) (l.drop i) F = match addI (l.take i) (l.getD i default) F with
    | .ok _ G => asks (l.take (i + 1)) (l.drop (i + 1)) G
    | .er e => (i, e, 0) := by
  rw [drop_getD h, asks, take_succ_getD h]
  have : ((l.take i).length : Int) = i := by rw [List.length_take]; omega
  rw [this]
theorem asked_one (l : List Core) (c : Core) {F : Int} (hF : ¬ BigI F) : askedM (l ++ [c]) l.length F = match addI l c F with
    | .ok _ G => ((l.length : Int) + 1, 0, G)
    | .er e => (l.length, e, 0) := by
  unfold askedM
  rw [if_neg hF, List.take_left, List.drop_left, asks]
  cases addI l c F with
  | ok u G => simp only [asks, List.length_append, List.length_singleton]; push_cast; rfl
  | er e => rfl
theorem addTop_ok {l : List Core} {c : Core} {F G : Int} {u : Unit} (hF : ¬ BigI F) (h : addI l c F = .ok u G) : addTop l c F = (l ++ [c], G, 0) := by
  unfold addTop; rw [asked_one l c hF, h]; rfl
theorem addTop_er {l : List Core} {c : Core} {F e : Int} (hF : ¬ BigI F) (h : addI l c F = .er e) : addTop l c F = ([], 0, e) := by
  unfold addTop; rw [asked_one l c hF, h]; exact if_pos (addI_er h)
theorem asksC_at : ∀ (cs pre : List Core) (F : Int), 0 ≤ (asks pre cs F).1 ∧ (asks pre cs F).1 ≤ pre.length + cs.length
  | [], pre, F => by simp [asks]
  | c :: cs, pre, F => by
    rw [asks]
    cases addI pre c F with
    | ok u G =>
      have := asksC_at cs (pre ++ [c]) G
      simp only [List.length_append, List.length_singleton, List.length_cons, List.length_nil] at this ⊢
      push_cast at this ⊢; omega
    | er e => simp only [List.length_cons]; push_cast; omega
theorem asked_at (l : List Core) (ahead : Nat) (F : Int) : 0 ≤ (askedM l ahead F).1 ∧ (askedM l ahead F).1 ≤ l.length := by
  unfold askedM
  split
  · simp only; omega
  · have := asksC_at (l.drop ahead) (l.take ahead) F
    rw [List.length_take, List.length_drop] at this
    omega
end Sp

/- What cenv reckons: the law's examples, and how they hang together. -/
set_option linter.unusedVariables false
set_option linter.unusedSimpArgs false
set_option maxRecDepth 100000
namespace Sp
open Go
abbrev k1 : Core := ⟨0, .mk 2 0 0 [[⟨0, 0⟩]] [], true, .mk 22 2 0 [] []⟩
abbrev k2 : Core := ⟨0, .mk 3 0 0 [] [], false, .mk 0 0 0 [] []⟩
abbrev k3 : Core := ⟨0, .mk 2 0 0 [[⟨0, 0⟩]] [], false, .mk 0 0 0 [] []⟩
abbrev k4 : Core := ⟨0, .mk 1 0 0 [] [], false, .mk 0 0 0 [] []⟩
theorem ex1 : addTop [] k1 10 = ([k1], 6, 0) := by
  have h : (askedM ([] ++ [k1]) 0 10).2 = (0, 6) := by decide +kernel
  unfold addTop
  rw [if_neg (by rw [show ([] : List Core).length = 0 from rfl, h]; decide), show ([] : List Core).length = 0 from rfl, h]; rfl
theorem ex2 : addTop [] k2 10 = ([], 0, 6) := by
  have h : (askedM ([] ++ [k2]) 0 10).2.1 = 6 := by decide +kernel
  unfold addTop
  rw [if_pos (by rw [show ([] : List Core).length = 0 from rfl, h]; decide), show ([] : List Core).length = 0 from rfl, h]
theorem ex3 : allTop [k3, k4] 10 = (0, 2, 6) := by decide +kernel
theorem k1_ok : CoreS k1 := ⟨by simp [Term.fit, Term.fits], by simp [Term.sz, Term.szs], by simp [Term.fit, Term.fits], by simp [Term.sz, Term.szs]⟩
theorem k2_ok : CoreS k2 := ⟨by simp [Term.fit, Term.fits], by simp [Term.sz, Term.szs], by simp [Term.fit, Term.fits], by simp [Term.sz, Term.szs]⟩
theorem k34_ok : CoresS [k3, k4] := fun c hc => by
  simp only [List.mem_cons, List.not_mem_nil, or_false] at hc
  rcases hc with rfl | rfl
  · exact ⟨by simp [Term.fit, Term.fits], by simp [Term.sz, Term.szs], by simp [Term.fit, Term.fits], by simp [Term.sz, Term.szs]⟩
  · exact ⟨by simp [Term.fit, Term.fits], by simp [Term.sz, Term.szs], by simp [Term.fit, Term.fits], by simp [Term.sz, Term.szs]⟩
theorem cores_nil : CoresS [] := fun c hc => by cases hc
theorem typI_inv {l : List Core} {c : Core} {F G : Int} {u : Unit} (h : typI l c F = .ok u G) : sortM l c.levels [] c.typ F = ((sortM l c.levels [] c.typ F).1, G, 0) := by
  unfold typI at h
  split at h
  · rename_i h0; cases h; ext1; rfl; ext1; rfl; exact h0
  · cases h
theorem bodyI_inv {l : List Core} {c : Core} {F G : Int} {u : Unit} (hh : c.has = true) (h : bodyI l c F = .ok u G) : checkM l c.levels [] c.body c.typ F = ((checkM l c.levels [] c.body c.typ F).1, G, 0) := by
  unfold bodyI at h
  rw [if_pos hh] at h
  split at h
  · rename_i h0; cases h; ext1; rfl; ext1; rfl; exact h0
  · cases h
theorem bodyI_none {l : List Core} {c : Core} {F G : Int} {u : Unit} (hh : c.has = false) (h : bodyI l c F = .ok u G) : G = F := by
  unfold bodyI at h
  rw [if_neg (by rw [hh]; decide)] at h
  cases h; rfl
theorem all_big {l : List Core} {F : Int} (h : BigI F) : allTop l F = (0, 0, 2) := by
  unfold allTop; rw [if_pos h]
  unfold askedM; rw [if_pos h]
theorem asked_zero {l : List Core} {F : Int} (h : ¬ BigI F) : askedM l 0 F = asks [] l F := by
  unfold askedM; rw [if_neg h]; rfl
theorem all_er {l : List Core} {F i e : Int} (h : ¬ BigI F) (ha : asks [] l F = (i, e, 0)) (he : e ≠ 0) : allTop l F = (0, i + 1, e) := by
  unfold allTop; rw [if_neg h, asked_zero h, ha, if_pos he]
theorem all_ok {l : List Core} {F i G : Int} (h : ¬ BigI F) (ha : asks [] l F = (i, 0, G)) : allTop l F = (G, 0, 0) := by
  unfold allTop; rw [if_neg h, asked_zero h, ha, if_neg (by simp)]
end Sp
