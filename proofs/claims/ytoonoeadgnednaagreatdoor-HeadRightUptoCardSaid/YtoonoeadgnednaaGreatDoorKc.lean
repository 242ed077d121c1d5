/- The plain functions that the program computes, and facts about them; no condition. -/
import Derived.Test.YtoonoeadgnednaaGreatDoorKb
/- The plain functions that the program computes: sizes, lifting, putting. -/
set_option linter.unusedVariables false
namespace Sp
open Go

abbrev w64 (z : Int) : Int := IntKind.i64.wrap z

theorem w64_range (a : Int) : -9223372036854775808 ≤ w64 a ∧ w64 a ≤ 9223372036854775807 := by
  simp only [w64, IntKind.wrap, IntKind.bits, IntKind.signed, Bool.true_and]
  split <;> simp_all <;> omega
theorem w64_id {a : Int} (h1 : -9223372036854775808 ≤ a) (h2 : a ≤ 9223372036854775807) : w64 a = a := wrap_i64 h1 h2

theorem Term.beq_eq (t u : Term) : True := trivial
def T0 : Term := .mk 0 0 0 [] []
theorem default_T : (default : Term) = T0 := rfl
def kid (t : Term) (k : Int) : Term := if k < 0 ∨ (t.kids.length : Int) ≤ k then T0 else t.kids.getD k.toNat default

mutual
def Term.sz : Term → Nat
  | .mk _ _ _ _ ks => 1 + Term.szs ks
def Term.szs : List Term → Nat
  | [] => 0
  | t :: ts => t.sz + Term.szs ts
end

-- No list in it is longer than so.
mutual
def Term.fit (B : Nat) : Term → Prop
  | .mk _ n _ ls ks => ls.length ≤ B ∧ (∀ l ∈ ls, l.length ≤ B) ∧ ks.length ≤ B ∧ Term.fits B ks ∧ (-9223372036854775808 ≤ n ∧ n ≤ 9223372036854775807)
def Term.fits (B : Nat) : List Term → Prop
  | [] => True
  | t :: ts => t.fit B ∧ Term.fits B ts
end

theorem Term.fits_iff {B : Nat} : ∀ {ts : List Term}, Term.fits B ts ↔ ∀ t ∈ ts, t.fit B
  | [] => by simp [Term.fits]
  | t :: ts => by simp [Term.fits, Term.fits_iff (ts := ts)]

theorem Term.fit_iff {B : Nat} {t : Term} : t.fit B ↔ t.levels.length ≤ B ∧ (∀ l ∈ t.levels, l.length ≤ B) ∧ t.kids.length ≤ B ∧ (∀ k ∈ t.kids, k.fit B) ∧ (-9223372036854775808 ≤ t.num ∧ t.num ≤ 9223372036854775807) := by
  cases t with
  | mk k n a ls ks => simp [Term.fit, Term.fits_iff, Term.levels, Term.kids, Term.num]

theorem Term.fit.kid {B : Nat} {t : Term} (h : t.fit B) {k : Term} (hk : k ∈ t.kids) : k.fit B := (Term.fit_iff.1 h).2.2.2.1 k hk
theorem Term.fit.nr {B : Nat} {t : Term} (h : t.fit B) : -9223372036854775808 ≤ t.num ∧ t.num ≤ 9223372036854775807 := (Term.fit_iff.1 h).2.2.2.2
theorem Term.fit.renum {B : Nat} {t : Term} (h : t.fit B) {n : Int} (hn : -9223372036854775808 ≤ n ∧ n ≤ 9223372036854775807) {k a : Int} : (Term.mk k n a t.levels t.kids).fit B :=
  Term.fit_iff.2 ⟨(Term.fit_iff.1 h).1, (Term.fit_iff.1 h).2.1, (Term.fit_iff.1 h).2.2.1, (Term.fit_iff.1 h).2.2.2.1, hn⟩
theorem Term.fit.len {B : Nat} {t : Term} (h : t.fit B) : t.kids.length ≤ B := (Term.fit_iff.1 h).2.2.1
theorem Term.fit.llen {B : Nat} {t : Term} (h : t.fit B) : t.levels.length ≤ B := (Term.fit_iff.1 h).1
theorem Term.fit.plen {B : Nat} {t : Term} (h : t.fit B) {l : Level} (hl : l ∈ t.levels) : l.length ≤ B := (Term.fit_iff.1 h).2.1 l hl

theorem Term.sz_kid : ∀ {ts : List Term} {k : Term}, k ∈ ts → k.sz ≤ Term.szs ts
  | [], k, h => by cases h
  | t :: ts, k, h => by
    rcases List.mem_cons.1 h with rfl | h
    · simp [Term.szs]
    · have := Term.sz_kid h; simp [Term.szs]; omega
theorem Term.sz_eq (t : Term) : t.sz = 1 + Term.szs t.kids := by cases t; rfl
theorem Term.sz_lt {t k : Term} (h : k ∈ t.kids) : k.sz < t.sz := by
  have := Term.sz_kid h; rw [Term.sz_eq t]; omega
theorem Term.sz_pos (t : Term) : 1 ≤ t.sz := by rw [Term.sz_eq]; omega

theorem getD_mem {α : Type} [Inhabited α] {l : List α} {i : Nat} (h : i < l.length) : l.getD i default ∈ l := by
  rw [List.getD_eq_getElem?_getD, List.getElem?_eq_getElem h]; exact List.getElem_mem h

theorem take_succ_getD {α : Type} [Inhabited α] {l : List α} {i : Nat} (h : i < l.length) : l.take (i + 1) = l.take i ++ [l.getD i default] := by
  rw [List.take_add_one, List.getD_eq_getElem?_getD, List.getElem?_eq_getElem h]; rfl

theorem Term.szs_append : ∀ (a b : List Term), Term.szs (a ++ b) = Term.szs a + Term.szs b
  | [], b => by simp [Term.szs]
  | t :: a, b => by simp [Term.szs, Term.szs_append a b]; omega

theorem Term.szs_take_succ {ts : List Term} {i : Nat} (h : i < ts.length) : Term.szs (ts.take (i + 1)) = Term.szs (ts.take i) + (ts.getD i default).sz := by
  rw [take_succ_getD h, Term.szs_append]; simp [Term.szs]

theorem w64_add (a b : Int) : w64 (w64 a + w64 b) = w64 (a + b) := by
  simp only [w64, IntKind.wrap, IntKind.bits, IntKind.signed, Bool.true_and]
  split <;> split <;> split <;> split <;> simp_all <;> omega
theorem w64_add_l (a b : Int) : w64 (w64 a + b) = w64 (a + b) := by
  simp only [w64, IntKind.wrap, IntKind.bits, IntKind.signed, Bool.true_and]
  split <;> split <;> split <;> simp_all <;> omega
theorem w64_sub_l (a b : Int) : w64 (w64 a - b) = w64 (a - b) := by
  simp only [w64, IntKind.wrap, IntKind.bits, IntKind.signed, Bool.true_and]
  split <;> split <;> split <;> simp_all <;> omega

def binds (k i : Int) : Bool := decide (0 < k) && decide (k < 25) && decide (0 ≤ i) && decide (bound k = i)

/-! Same, as the kit asks it -/

mutual
def Term.beq : Term → Term → Bool
  | .mk k n a ls ks, .mk k' n' a' ls' ks' => decide (k = k') && decide (n = n') && decide (a = a') && decide (ls = ls') && Term.beqs ks ks'
def Term.beqs : List Term → List Term → Bool
  | [], [] => true
  | t :: ts, u :: us => t.beq u && Term.beqs ts us
  | _, _ => false
end

mutual
theorem Term.beq_iff : ∀ (t u : Term), t.beq u = true ↔ t = u
  | .mk k n a ls ks, .mk k' n' a' ls' ks' => by
    simp [Term.beq, Term.beqs_iff ks ks', and_assoc]
theorem Term.beqs_iff : ∀ (t u : List Term), Term.beqs t u = true ↔ t = u
  | [], [] => by simp [Term.beqs]
  | [], _ :: _ => by simp [Term.beqs]
  | _ :: _, [] => by simp [Term.beqs]
  | t :: ts, u :: us => by simp [Term.beqs, Term.beq_iff t u, Term.beqs_iff ts us]
end

instance : DecidableEq Term := fun a b => decidable_of_iff (a.beq b = true) (Term.beq_iff a b)

theorem Term.ext' {t u : Term} (h1 : t.kind = u.kind) (h2 : t.num = u.num) (h3 : t.at_ = u.at_) (h4 : t.levels = u.levels) (h5 : t.kids = u.kids) : t = u := by
  cases t; cases u; simp_all [Term.kind, Term.num, Term.at_, Term.levels, Term.kids]
theorem Term.eta (t : Term) : Term.mk t.kind t.num t.at_ t.levels t.kids = t := by cases t; rfl

/-! The walk over a term -/

section
variable (g : Int → Term → Term) (dn : Int → Term → Bool)
mutual
def walkM (b : Int) : Term → Term
  | .mk k n a ls ks => bif dn b (.mk k n a ls ks) then g b (.mk k n a ls ks) else
      .mk (g b (.mk k n a ls ks)).kind (g b (.mk k n a ls ks)).num (g b (.mk k n a ls ks)).at_ (g b (.mk k n a ls ks)).levels (walkMs b k 0 ks)
def walkMs (b k : Int) (i : Nat) : List Term → List Term
  | [] => []
  | t :: ts => walkM (bif binds k i then b + 1 else b) t :: walkMs b k (i + 1) ts
end
end

theorem walkM_eq (g : Int → Term → Term) (dn : Int → Term → Bool) (b : Int) (t : Term) :
    walkM g dn b t = bif dn b t then g b t else .mk (g b t).kind (g b t).num (g b t).at_ (g b t).levels (walkMs g dn b t.kind 0 t.kids) := by
  cases t; rw [walkM]; rfl

theorem walkMs_append (g : Int → Term → Term) (dn : Int → Term → Bool) (b k : Int) : ∀ (l m : List Term) (i : Nat), walkMs g dn b k i (l ++ m) = walkMs g dn b k i l ++ walkMs g dn b k (i + l.length) m
  | [], m, i => by simp [walkMs]
  | t :: l, m, i => by simp [walkMs, walkMs_append g dn b k l m (i + 1)]; congr 1; omega
theorem walkMs_length (g : Int → Term → Term) (dn : Int → Term → Bool) (b k : Int) : ∀ (l : List Term) (i : Nat), (walkMs g dn b k i l).length = l.length
  | [], i => rfl
  | t :: l, i => by simp [walkMs, walkMs_length g dn b k l (i + 1)]
theorem walkMs_take_succ (g : Int → Term → Term) (dn : Int → Term → Bool) (b k : Int) {ts : List Term} {i : Nat} (h : i < ts.length) :
    walkMs g dn b k 0 (ts.take (i + 1)) = walkMs g dn b k 0 (ts.take i) ++ [walkM g dn (bif binds k i then b + 1 else b) (ts.getD i default)] := by
  rw [take_succ_getD h, walkMs_append]
  simp [walkMs, List.length_take, Nat.min_eq_left (Nat.le_of_lt h)]

/-! Lifting, putting -/

def liftG (n from_ b : Int) (t : Term) : Term := if t.kind = 1 ∧ b ≤ t.num ∧ from_ ≤ t.num - b then .mk t.kind (w64 (t.num + n)) t.at_ t.levels t.kids else t
def no (_ : Int) (_ : Term) : Bool := false
def lift (t : Term) (n from_ : Int) : Term := walkM (liftG n from_) no 0 t

def putHit (by_ : List Term) (b : Int) (t : Term) : Bool := decide (t.kind = 1) && decide (b ≤ t.num) && decide (t.num - b < by_.length)
def putG (by_ : List Term) (b : Int) (t : Term) : Term :=
  if putHit by_ b t then lift (by_.getD (by_.length - 1 - (t.num - b)).toNat default) b 0
  else if t.kind = 1 ∧ b ≤ t.num then .mk t.kind (t.num - by_.length) t.at_ t.levels t.kids else t
def put (t : Term) (by_ : List Term) : Term := walkM (putG by_) (putHit by_) 0 t

end Sp

/- The plain functions of the kit: counting, depth, sameness. -/
set_option linter.unusedVariables false
namespace Sp
open Go

theorem drop_getD {α : Type} [Inhabited α] {l : List α} {i : Nat} (h : i < l.length) : l.drop i = l.getD i default :: l.drop (i + 1) := by
  rw [List.drop_eq_getElem_cons h, List.getD_eq_getElem?_getD, List.getElem?_eq_getElem h]; rfl

def levelOfM (l : Level) (q : Int) : Int := min (w64 (1 + l.length)) (w64 (q + 1))
def levelsGo (q : Int) : Int → List Level → Int
  | n, [] => n
  | n, l :: ls => if n ≤ q then levelsGo q (w64 (n + levelOfM l q)) ls else n
theorem levelsGo_stop {q n : Int} (h : ¬ n ≤ q) (ls : List Level) : levelsGo q n ls = n := by cases ls <;> simp [levelsGo, h]

mutual
def termOfM (q : Int) : Term → Int
  | .mk _ _ _ ls ks => w64 (w64 (1 + levelsGo q 0 ls) + termsGo q 0 ks)
def termsGo (q : Int) (n : Int) : List Term → Int
  | [] => n
  | t :: ts => if n ≤ q then termsGo q (w64 (n + termOfM (w64 (q - n)) t)) ts else n
end
theorem termsGo_stop {q n : Int} (h : ¬ n ≤ q) (ls : List Term) : termsGo q n ls = n := by cases ls <;> simp [termsGo, h]
theorem termOfM_eq (q : Int) (t : Term) : termOfM q t = w64 (w64 (1 + levelsGo q 0 t.levels) + termsGo q 0 t.kids) := by cases t; rw [termOfM]; rfl

def coresGo (q : Int) : Int → List Core → Int
  | n, [] => n
  | n, c :: cs => if n ≤ q then coresGo q (w64 (w64 (w64 (n + 1) + termOfM q c.typ) + termOfM q c.body)) cs else n
theorem coresGo_stop {q n : Int} (h : ¬ n ≤ q) (ls : List Core) : coresGo q n ls = n := by cases ls <;> simp [coresGo, h]

mutual
def deepM (d : Int) : Term → Int
  | .mk _ _ _ _ ks => w64 (deepsGo d 0 ks + 1)
def deepsGo (d : Int) (n : Int) : List Term → Int
  | [] => n
  | t :: ts => if 0 < d then deepsGo d (max n (deepM (w64 (d - 1)) t)) ts else n
end
theorem deepsGo_stop {d n : Int} (h : ¬ 0 < d) (ls : List Term) : deepsGo d n ls = n := by cases ls <;> simp [deepsGo, h]
theorem deepM_eq (d : Int) (t : Term) : deepM d t = w64 (deepsGo d 0 t.kids + 1) := by cases t; rw [deepM]; rfl

/-- two lists, told apart at the first place where they differ -/
theorem take_eq_succ {α : Type} [Inhabited α] {a b : List α} {i : Nat} (hl : a.length = b.length) (h : i < a.length) (ht : a.take i = b.take i) (he : a.getD i default = b.getD i default) : a.take (i + 1) = b.take (i + 1) := by
  rw [take_succ_getD h, take_succ_getD (by omega), ht, he]
theorem eq_of_take {α : Type} {a b : List α} {i : Nat} (hl : a.length = b.length) (h : a.length ≤ i) (ht : a.take i = b.take i) : a = b := by
  rw [List.take_of_length_le h, List.take_of_length_le (by omega)] at ht; exact ht
theorem ne_of_getD {α : Type} [Inhabited α] {a b : List α} {i : Nat} (he : a.getD i default ≠ b.getD i default) : a ≠ b := fun e => he (by rw [e])

end Sp

/- The plain functions of head: spots, sizes, steps. -/
set_option linter.unusedVariables false
namespace Sp
open Go

def spotM (t : Term) : Int × Int × Bool :=
  if t.kind = 6 then (0, 2, true) else if t.kind = 14 ∨ t.kind = 15 then (0, 1, true) else if t.kind = 18 then (4, 5, true) else if t.kind = 21 then (5, 6, true)
  else if t.kind = 24 then (w64 (t.at_ + 1), w64 (t.at_ + 2), decide (0 ≤ t.at_) && decide ((t.kids.length : Int) - 2 = t.at_)) else (0, 0, false)

def withKids (t x : Term) (at_ : Int) (n : Nat) : List Term := (List.range n).map (fun (k : Nat) => if (k : Int) = at_ then x else kid t k)
def withM (t x : Term) (at_ many : Int) : Term := .mk t.kind t.num t.at_ t.levels (withKids t x at_ many.toNat)

theorem withKids_succ (t x : Term) (at_ : Int) (n : Nat) : withKids t x at_ (n + 1) = withKids t x at_ n ++ [if (n : Int) = at_ then x else kid t n] := by
  simp [withKids, List.range_succ]

mutual
def sizedM (many : Int) (below : Int) : Term → Int
  | .mk k n _ _ ks => if k = 1 ∧ n = below then many else 1 + sizedsM many below k 0 ks
def sizedsM (many : Int) (below k : Int) (i : Nat) : List Term → Int
  | [] => 0
  | t :: ts => sizedM many (bif binds k i then below + 1 else below) t + sizedsM many below k (i + 1) ts
end
theorem sizedM_eq (many below : Int) (t : Term) : sizedM many below t = if t.kind = 1 ∧ t.num = below then many else 1 + sizedsM many below t.kind 0 t.kids := by
  cases t; rw [sizedM]; rfl
theorem sizedsM_append (many below k : Int) : ∀ (a b : List Term) (i : Nat), sizedsM many below k i (a ++ b) = sizedsM many below k i a + sizedsM many below k (i + a.length) b
  | [], b, i => by simp [sizedsM]
  | t :: a, b, i => by simp [sizedsM, sizedsM_append many below k a b (i + 1), Nat.add_assoc, Nat.add_comm 1]; omega
theorem sizedsM_take_succ (many below k : Int) {ts : List Term} {i : Nat} (h : i < ts.length) :
    sizedsM many below k 0 (ts.take (i + 1)) = sizedsM many below k 0 (ts.take i) + sizedM many (bif binds k i then below + 1 else below) (ts.getD i default) := by
  rw [take_succ_getD h, sizedsM_append]
  simp [sizedsM, List.length_take, Nat.min_eq_left (Nat.le_of_lt h)]

def sizeM (t a : Term) : Int := sizedM a.sz 0 t

mutual
theorem sizedM_nonneg {many : Int} (hm : 0 ≤ many) : ∀ (t : Term) (below : Int), 0 ≤ sizedM many below t
  | .mk k n _ _ ks, below => by
    rw [sizedM]
    split
    · exact hm
    · have := sizedsM_nonneg hm ks below k 0; omega
theorem sizedsM_nonneg {many : Int} (hm : 0 ≤ many) : ∀ (ts : List Term) (below k : Int) (i : Nat), 0 ≤ sizedsM many below k i ts
  | [], below, k, i => by simp [sizedsM]
  | t :: ts, below, k, i => by
    rw [sizedsM]
    have := sizedM_nonneg hm t (bif binds k i then below + 1 else below)
    have := sizedsM_nonneg hm ts below k (i + 1)
    omega
end
theorem sizeM_nonneg (t a : Term) : 0 ≤ sizeM t a := sizedM_nonneg (by omega) t 0

theorem T0_fit {B : Nat} : T0.fit B := by simp [T0, Term.fit, Term.fits]
theorem kid_fit {B : Nat} {t : Term} (h : t.fit B) (k : Int) : (kid t k).fit B := by
  unfold kid
  split
  · exact T0_fit
  · exact h.kid (getD_mem (by omega))
theorem kid_sz (t : Term) (k : Int) : (kid t k).sz ≤ t.sz := by
  unfold kid
  split
  · exact Term.sz_pos t
  · exact Nat.le_of_lt (Term.sz_lt (getD_mem (by omega)))


mutual
theorem sizedM_le {many : Int} (hm : 1 ≤ many) : ∀ (t : Term) (below : Int), sizedM many below t ≤ many * t.sz
  | .mk k n a ls ks, below => by
    rw [sizedM]
    have h0 : (1 : Int) ≤ (Term.sz (.mk k n a ls ks) : Int) := by have := Term.sz_pos (.mk k n a ls ks); omega
    split
    · have := Int.mul_le_mul_of_nonneg_left h0 (by omega : (0 : Int) ≤ many)
      omega
    · have h1 := sizedsM_le hm ks below k 0
      rw [Term.sz]
      push_cast
      rw [Int.mul_add]
      omega
theorem sizedsM_le {many : Int} (hm : 1 ≤ many) : ∀ (ts : List Term) (below k : Int) (i : Nat), sizedsM many below k i ts ≤ many * Term.szs ts
  | [], below, k, i => by simp [sizedsM, Term.szs]
  | t :: ts, below, k, i => by
    rw [sizedsM, Term.szs]
    have h1 := sizedM_le hm t (bif binds k i then below + 1 else below)
    have h2 := sizedsM_le hm ts below k (i + 1)
    push_cast
    rw [Int.mul_add]
    omega
end
theorem sizeM_le (t a : Term) : sizeM t a ≤ a.sz * t.sz := sizedM_le (by have := Term.sz_pos a; omega) t 0
theorem sizeM_small {t a : Term} (h1 : t.sz ≤ 268435456) (h2 : a.sz ≤ 268435456) : sizeM t a ≤ 72057594037927936 := by
  have h := sizeM_le t a
  have h3 : (a.sz : Int) * t.sz ≤ 268435456 * 268435456 := Int.mul_le_mul (by omega) (by omega) (by omega) (by omega)
  omega

def upM (t : Term) (k from_ : Int) : Term := lift (kid t k) 1 from_
def treeArgs (t s : Term) : List Term := [kid s 0, kid s 1, kid s 1, kid t 3, kid t 3, kid t 0, kid t 1, kid t 2]
def treeCost (t s : Term) : Int := 7 + (Term.szs (treeArgs t s) : Int) + sizeM (kid t 1) (kid s 0)
theorem treeArgs_sz (t s : Term) (h1 : t.sz ≤ 268435456) (h2 : s.sz ≤ 268435456) : Term.szs (treeArgs t s) ≤ 2147483648 := by
  have a0 := kid_sz s 0; have a1 := kid_sz s 1; have a2 := kid_sz t 3; have a3 := kid_sz t 0; have a4 := kid_sz t 1; have a5 := kid_sz t 2
  simp only [treeArgs, Term.szs]; omega
def treeM (t s : Term) : Term :=
  let rest : Term := .mk 18 0 0 [] [upM t 0 0, upM t 1 1, upM t 2 0, upM t 3 0, .mk 6 0 0 [] [lift (kid s 1) 1 0, .mk 1 0 0 [] []]]
  let h : Term := .mk 5 0 0 [] [put (kid t 1) [kid s 0], rest]
  .mk 6 0 0 [] [.mk 6 0 0 [] [.mk 6 0 0 [] [kid t 3, kid s 0], kid s 1], h]

def workC (left : Int) (cs : List Core) (once dn : Bool) (mb : Nat) : List D := [.int .i64 left, .slC cs, .bool once, .bool dn, .map mb]

end Sp

/- The plain functions of levels. -/
set_option linter.unusedVariables false
namespace Sp
open Go

abbrev Rows := List (Int × Int)
def encRow (rows : Rows) : List (Int × D) := rows.map fun e => (e.1, D.int .i64 e.2)
def rpos (rows : Rows) (z : Int) : Option Nat := rows.findIdx? (fun e => decide (e.1 = z))
def rget (rows : Rows) (z : Int) : Int := match rpos rows z with | some j => ((rows[j]?).map (·.2)).getD 0 | none => 0
def rset (rows : Rows) (z p : Int) : Rows := match rpos rows z with | some j => rows.set j (z, p) | none => rows ++ [(z, p)]

theorem mpos_enc (rows : Rows) (z : Int) : mpos (encRow rows) z = rpos rows z := by
  unfold mpos encRow rpos
  rw [List.findIdx?_map]; rfl
theorem mget_enc (rows : Rows) (z : Int) : (mget (encRow rows) z).getD (.int .i64 0) = .int .i64 (rget rows z) := by
  unfold mget rget
  rw [mpos_enc]
  cases hp : rpos rows z with
  | none => rfl
  | some j =>
    simp only [encRow, List.getElem?_map]
    cases rows[j]? <;> rfl
theorem mset_enc (rows : Rows) (z p : Int) : mset (encRow rows) z (.int .i64 p) = encRow (rset rows z p) := by
  unfold mset rset
  rw [mpos_enc]
  cases hp : rpos rows z with
  | none => simp [encRow]
  | some j => simp [encRow, List.map_set]

theorem encRow_get {rows : Rows} {j : Nat} {e : Int × D} (h : (encRow rows)[j]? = some e) : ∃ r, rows[j]? = some r ∧ e = (r.1, .int .i64 r.2) := by
  unfold encRow at h
  rw [List.getElem?_map] at h
  cases hr : rows[j]? with
  | none => rw [hr] at h; cases h
  | some r => rw [hr] at h; cases h; exact ⟨r, rfl, rfl⟩
theorem encRow_len (rows : Rows) : (encRow rows).length = rows.length := by simp [encRow]

def badPart (p : Part) : Prop := p.v < 0 ∨ p.p < 0 ∨ 1048576 < p.v ∨ 1048576 < p.p
instance (p : Part) : Decidable (badPart p) := by unfold badPart; infer_instance
def rowPut : Rows → List Part → Option Rows
  | rows, [] => some rows
  | rows, p :: ps => if badPart p then none else rowPut (rset rows p.v (max (rget rows p.v) p.p)) ps

def hiddenM (rows : Rows) (n : Int) : Bool := rows.any fun e => decide (0 < e.1) && decide (n ≤ e.2)

/-- numbers without one twice, below a bound: no more than the bound -/
theorem nodup_lt_length : ∀ {n : Nat} {l : List Nat}, l.Nodup → (∀ i ∈ l, i < n) → l.length ≤ n
  | 0, l, _, hl => by
    cases l with
    | nil => simp
    | cons a l => exact absurd (hl a (by simp)) (Nat.not_lt_zero _)
  | n + 1, l, h, hl => by
    have ih := nodup_lt_length (n := n) (l := l.erase n) (h.erase n) (fun i hi => by
      have h1 := hl i (List.mem_of_mem_erase hi)
      have h2 : i ≠ n := fun e => by subst e; exact (List.Nodup.mem_erase_iff h).1 hi |>.1 rfl
      omega)
    have := List.length_erase (a := n) (l := l)
    rw [this] at ih
    split at ih <;> omega

theorem hidden_of {rows : Rows} {n : Int} {j : Nat} {r : Int × Int} (hr : rows[j]? = some r) (h1 : 0 < r.1) (h2 : n ≤ r.2) : hiddenM rows n = true :=
  List.any_eq_true.2 ⟨r, List.mem_of_getElem? hr, by simp [h1, h2]⟩
theorem not_hidden {rows : Rows} {n : Int} (h : ∀ (j : Nat) r, rows[j]? = some r → ¬ (0 < r.1 ∧ n ≤ r.2)) : hiddenM rows n = false := by
  rw [hiddenM, List.any_eq_false]
  intro r hr hc
  obtain ⟨j, hj⟩ := List.mem_iff_getElem?.1 hr
  exact h j r hj (by simpa using hc)

theorem rowPut_append : ∀ (a b : List Part) (rows : Rows), rowPut rows (a ++ b) = (rowPut rows a).bind (fun r => rowPut r b)
  | [], b, rows => rfl
  | p :: a, b, rows => by
    rw [List.cons_append, rowPut, rowPut]
    split
    · rfl
    · exact rowPut_append a b _

theorem rowPut_step {r r2 : Rows} {a : Part} {rest : List Part} (h : rowPut r [a] = some r2) : rowPut r (a :: rest) = rowPut r2 rest := by
  have := rowPut_append [a] rest r
  rw [List.singleton_append, h] at this; exact this
theorem rowPut_stop {r : Rows} {a : Part} {rest : List Part} (h : rowPut r [a] = none) : rowPut r (a :: rest) = none := by
  have := rowPut_append [a] rest r
  rw [List.singleton_append, h] at this; exact this

def RowsOk (rows : Rows) : Prop := (rows.map (·.1)).Nodup ∧ ∀ e ∈ rows, 0 ≤ e.1 ∧ e.1 ≤ 1048576
theorem RowsOk.len {rows : Rows} (h : RowsOk rows) : rows.length ≤ 1048577 := by
  have h1 : ((rows.map (·.1)).map Int.toNat).Nodup := by
    rw [List.Nodup, List.pairwise_map]
    refine List.Pairwise.imp_of_mem ?_ h.1
    intro a b ha hb hne e
    obtain ⟨x, hx, rfl⟩ := List.mem_map.1 ha
    obtain ⟨y, hy, rfl⟩ := List.mem_map.1 hb
    have := h.2 x hx; have := h.2 y hy
    exact hne (by omega)
  have := nodup_lt_length (n := 1048577) h1 (fun i hi => by
    obtain ⟨z, hz, rfl⟩ := List.mem_map.1 hi
    obtain ⟨x, hx, rfl⟩ := List.mem_map.1 hz
    have := h.2 x hx; omega)
  simpa using this
theorem rset_keys (rows : Rows) (z p : Int) : (rset rows z p).map (·.1) = if z ∈ rows.map (·.1) then rows.map (·.1) else rows.map (·.1) ++ [z] := by
  unfold rset
  cases hp : rpos rows z with
  | none =>
    have hn : z ∉ rows.map (·.1) := by
      intro hm
      obtain ⟨e, he, rfl⟩ := List.mem_map.1 hm
      have := List.findIdx?_eq_none_iff.1 hp e he
      simp at this
    simp [hn]
  | some j =>
    obtain ⟨hj, hjz, _⟩ := List.findIdx?_eq_some_iff_getElem.1 hp
    have hjz : rows[j].1 = z := by simpa using hjz
    have hm : z ∈ rows.map (·.1) := List.mem_map.2 ⟨rows[j], List.getElem_mem hj, hjz⟩
    rw [if_pos hm, List.map_set]
    exact set_same (by rw [List.getElem?_map, List.getElem?_eq_getElem hj]; simp [hjz])
theorem RowsOk.set {rows : Rows} (h : RowsOk rows) {z p : Int} (hz : 0 ≤ z ∧ z ≤ 1048576) : RowsOk (rset rows z p) := by
  have hk := rset_keys rows z p
  constructor
  · rw [hk]
    split
    · exact h.1
    · rename_i hn
      refine List.nodup_append.2 ⟨h.1, by simp, fun a ha b hb => by rw [List.mem_singleton.1 hb]; exact fun e => hn (e ▸ ha)⟩
  · intro e he
    have : e.1 ∈ (rset rows z p).map (·.1) := List.mem_map.2 ⟨e, he, rfl⟩
    rw [hk] at this
    split at this
    · obtain ⟨x, hx, hxe⟩ := List.mem_map.1 this; rw [← hxe]; exact h.2 x hx
    · rcases List.mem_append.1 this with h1 | h1
      · obtain ⟨x, hx, hxe⟩ := List.mem_map.1 h1; rw [← hxe]; exact h.2 x hx
      · rw [List.mem_singleton.1 h1]; exact hz
theorem RowsOk.put : ∀ {ps : List Part} {rows rows' : Rows}, RowsOk rows → rowPut rows ps = some rows' → RowsOk rows'
  | [], rows, rows', h, e => by simp [rowPut] at e; subst e; exact h
  | p :: ps, rows, rows', h, e => by
    rw [rowPut] at e
    split at e
    · cases e
    · rename_i hb
      unfold badPart at hb
      exact RowsOk.put (h.set (by omega)) e
theorem RowsOk.nil : RowsOk [] := ⟨List.nodup_nil, fun e h => by cases h⟩

def keysM (rows : Rows) : List Int := (rows.map (·.1)).mergeSort (fun x y => decide (x ≤ y))
def partOf (rows : Rows) (v : Int) : Option Part := if 0 < v ∨ (0 < rget rows v ∧ hiddenM rows (rget rows v) = false) then some ⟨v, rget rows v⟩ else none
def levelM (rows : Rows) : Level := (keysM rows).filterMap (partOf rows)
theorem keysM_len (rows : Rows) : (keysM rows).length = rows.length := by simp [keysM]
theorem parts_take_succ {rows : Rows} {i : Nat} (h : i < (keysM rows).length) :
    ((keysM rows).take (i + 1)).filterMap (partOf rows) = ((keysM rows).take i).filterMap (partOf rows) ++ (partOf rows ((keysM rows).getD i default)).toList := by
  rw [take_succ_getD h, List.filterMap_append]
  simp only [List.filterMap_cons, List.filterMap_nil]
  cases partOf rows ((keysM rows).getD i default) <;> rfl
theorem parts_len (rows : Rows) (i : Nat) : (((keysM rows).take i).filterMap (partOf rows)).length ≤ i := Nat.le_trans (List.length_filterMap_le _ _) (by simp; omega)

def ofRows : Option Rows → Level | some r => levelM r | none => []
def normM (l : Level) : Level := ofRows (rowPut [] l)
/-- what 'Put' lays into the row -/
theorem levelM_len (rows : Rows) : (levelM rows).length ≤ rows.length := by
  have := List.length_filterMap_le (partOf rows) (keysM rows)
  rw [keysM_len] at this; exact this
theorem normM_len (l : Level) : (normM l).length ≤ 1048577 := by
  unfold normM ofRows
  cases h : rowPut [] l with
  | none => simp
  | some r => exact Nat.le_trans (levelM_len r) (RowsOk.nil.put h).len
def xOf (by_ : List Level) (p : Part) : List Part := if 0 < p.v ∧ p.v ≤ (by_.length : Int) then normM (by_.getD (p.v - 1).toNat default) else []
def xOf1 (by_ : List Level) (p : Part) : List Part := if xOf by_ p = [] then [(⟨0, 0⟩ : Part)] else xOf by_ p
def shiftP (p q : Part) : Part := ⟨q.v, w64 (q.p + p.p)⟩
def putParts (l : Level) (by_ : List Level) : List Part := (normM l).flatMap fun p => (xOf1 by_ p).map (shiftP p)
def levelPutM (l : Level) (by_ : List Level) : Level := ofRows (rowPut [] (putParts l by_))

def levelsG (by_ : List Level) (_ : Int) (t : Term) : Term := .mk t.kind t.num t.at_ (t.levels.map (fun l => levelPutM l by_)) t.kids
def levelsM (t : Term) (by_ : List Level) : Term := walkM (levelsG by_) no 0 t

def C0 : Core := ⟨0, T0, false, T0⟩
def coreAtM (cs : List Core) (num : Int) (ls : List Level) : Core × Bool := if 0 ≤ num ∧ num < cs.length ∧ (cs.getD num.toNat default).levels = ls.length then (cs.getD num.toNat default, true) else (C0, false)
def bodyM (cs : List Core) (num : Int) (ls : List Level) : Term × Bool := if (coreAtM cs num ls).2 = true ∧ (coreAtM cs num ls).1.has = true then (levelsM (coreAtM cs num ls).1.body ls, true) else (T0, false)
theorem coreAt_mem (cs : List Core) (num : Int) (ls : List Level) {B S : Nat} (h : ∀ c ∈ cs, c.body.fit B ∧ c.body.sz ≤ S + 1) : (coreAtM cs num ls).1.body.fit B ∧ (coreAtM cs num ls).1.body.sz ≤ S + 1 := by
  unfold coreAtM
  split
  · exact h _ (getD_mem (by omega))
  · exact ⟨T0_fit, by simp [C0, T0, Term.sz, Term.szs]⟩
theorem leC0 : D.Le (.agg [.int .i64 0, .int .i64 0, .int .i64 0, .int .i64 0, .emp, .emp, .bool false, .int .i64 0, .int .i64 0, .int .i64 0, .emp, .emp]) (encC C0) :=
  aggLe (.cons (.refl _) (.cons (.refl _) (.cons (.refl _) (.cons (.refl _) (.cons (.emp _ rfl) (.cons (.emp _ rfl) (.cons (.refl _) (.cons (.refl _) (.cons (.refl _) (.cons (.refl _) (.cons (.emp _ rfl) (.cons (.emp _ rfl) .nil))))))))))))

section
variable {X : PT} {ρ : Operand → D} {L L' : Loc} {dst : Option Tmp} {ty : TypeId} {pos : String} {after : Array Edge} {guard : Option (Nat × Bool)} {K Kp : D → Loc → Prop}
theorem AVal.lookupRow {x y : Operand} {b : Nat} {z : Int} {rows : Rows} {t e : TypeId} (k : Nat) (hx : ρ x = .map b) (hk : L[k]? = some (b, .map (encRow rows))) (hy : ρ y = .int .i64 z) (ht : mapB X.P t e = true) (hz : zeroB X.P e (.int .i64 0) = true) :
    AVal X ⟨dst, .lookup t x y false, ty, pos, after, guard⟩ ρ L (.int .i64 (rget rows z)) := by
  rw [← mget_enc]; exact AVal.lookupN k hx hk hy ht hz
theorem AOp.updateRow {x y v : Operand} {b : Nat} {z p : Int} {rows : Rows} {t e : TypeId} (k : Nat) (hx : ρ x = .map b) (hk : L[k]? = some (b, .map (encRow rows))) (hy : ρ y = .int .i64 z) (ht : mapB X.P t e = true) (hv : ρ v = .int .i64 p)
    (hs' : NmL (L.set k (b, .map (encRow (rset rows z p)))) L') (h : K .any L') : AOp X ⟨dst, .mapUpdate t x y v, ty, pos, after, guard⟩ ρ L K Kp :=
  AOp.mapUpdateN (d := .int .i64 p) k hx hk hy ht (by rw [hv]; exact .int _ _) (mset_enc rows z p) hs' h
end

end Sp

/- The plain functions of head: a term's own step, the first step, the way to the head. -/
set_option linter.unusedVariables false
set_option linter.unusedSimpArgs false
namespace Sp
open Go

/-! ### Spots -/

def spotOf (k a l : Int) : Int × Int × Bool :=
  if k = 6 then (0, 2, true) else if k = 14 ∨ k = 15 then (0, 1, true) else if k = 18 then (4, 5, true) else if k = 21 then (5, 6, true)
  else if k = 24 then (w64 (a + 1), w64 (a + 2), decide (0 ≤ a) && decide (l - 2 = a)) else (0, 0, false)
theorem spotM_of (t : Term) : spotM t = spotOf t.kind t.at_ t.kids.length := rfl

theorem spotOf_range {k a : Int} {n : Nat} (h : (spotOf k a n).2.2 = true) (hl : n ≤ 4611686018427387904) :
    0 ≤ (spotOf k a n).1 ∧ (spotOf k a n).1 < (spotOf k a n).2.1 ∧
      (k ≠ 24 ∧ (spotOf k a n).2.1 ≤ 6 ∨ k = 24 ∧ (spotOf k a n).2.1 = n ∧ a = (n : Int) - 2 ∧ (spotOf k a n).1 = a + 1) := by
  unfold spotOf at h ⊢
  by_cases e1 : k = 6
  · simp [e1]
  by_cases e2 : k = 14 ∨ k = 15
  · simp only [e1, e2, if_true, if_false]; refine ⟨by omega, by omega, .inl ⟨by omega, by omega⟩⟩
  by_cases e3 : k = 18
  · simp [e3]
  by_cases e4 : k = 21
  · simp [e4]
  by_cases e5 : k = 24
  · simp only [e1, e2, e3, e4, e5, if_true, if_false, Bool.and_eq_true, decide_eq_true_eq] at h ⊢
    simp at h ⊢
    rw [w64_id (by omega) (by omega), w64_id (by omega) (by omega)]
    omega
  · simp only [e1, e2, e3, e4, e5, if_false] at h
    cases h

theorem spotOf_with {k a : Int} {n : Nat} (h : (spotOf k a n).2.2 = true) (hl : n ≤ 4611686018427387904) : spotOf k a ((spotOf k a n).2.1.toNat : Nat) = spotOf k a n := by
  obtain ⟨h0, h1, h2⟩ := spotOf_range h hl
  by_cases e5 : k = 24
  · rcases h2 with h2 | h2
    · exact absurd e5 h2.1
    · rw [h2.2.1, Int.toNat_natCast]
  · unfold spotOf
    simp only [e5, if_false]

theorem spot_range {t : Term} (h : (spotM t).2.2 = true) (hl : t.kids.length ≤ 4611686018427387904) :
    0 ≤ (spotM t).1 ∧ (spotM t).1 < (spotM t).2.1 ∧ (t.kind ≠ 24 ∧ (spotM t).2.1 ≤ 6 ∨ t.kind = 24 ∧ (spotM t).2.1 = t.kids.length ∧ t.at_ = (t.kids.length : Int) - 2 ∧ (spotM t).1 = t.at_ + 1) :=
  spotOf_range h hl

theorem spot_many {t : Term} (h : (spotM t).2.2 = true) {B : Nat} (hl : t.kids.length ≤ B) (hB : 6 ≤ B) (hB2 : B ≤ 4611686018427387904) : (spotM t).2.1 ≤ B := by
  obtain ⟨_, _, h2⟩ := spot_range h (by omega)
  omega

theorem with_kids_len (t x : Term) (a m : Int) : (withM t x a m).kids.length = m.toNat := by simp [withM, Term.kids, withKids]

theorem spot_with {t : Term} (x : Term) (h : (spotM t).2.2 = true) (hl : t.kids.length ≤ 4611686018427387904) :
    spotM (withM t x (spotM t).1 (spotM t).2.1) = spotM t := by
  have := spotOf_with h hl
  rw [spotM_of (withM t x _ _), with_kids_len]
  exact this

theorem withKids_get (t x : Term) (a : Int) (n k : Nat) (h : k < n) : (withKids t x a n)[k]? = some (if (k : Int) = a then x else kid t k) := by
  simp [withKids, List.getElem?_map, List.getElem?_range h]

theorem kid_with {t x : Term} {a m : Int} (k : Int) (h0 : 0 ≤ k) (h1 : k < m) : kid (withM t x a m) k = if k = a then x else kid t k := by
  unfold kid
  rw [with_kids_len, if_neg (by omega)]
  show (withKids t x a m.toNat).getD k.toNat default = _
  rw [List.getD_eq_getElem?_getD, withKids_get t x a _ _ (by omega)]
  simp only [Option.getD_some]
  rw [show ((k.toNat : Nat) : Int) = k by omega]
  rfl

theorem with_with {t x y : Term} {a m : Int} : withM (withM t x a m) y a m = withM t y a m := by
  unfold withM
  simp only [Term.kind, Term.num, Term.at_, Term.levels]
  congr 1
  apply List.ext_getElem?
  intro k
  by_cases h : k < m.toNat
  · rw [withKids_get _ _ _ _ _ h, withKids_get _ _ _ _ _ h]
    congr 1
    split
    · rfl
    · rename_i hk
      have := kid_with (t := t) (x := x) (a := a) (m := m) (k : Int) (by omega) (by omega)
      exact this.trans (if_neg hk)
  · rw [List.getElem?_eq_none (by simp [withKids]; omega), List.getElem?_eq_none (by simp [withKids]; omega)]

/-! ### A term's own step -/

def place (t : Term) : Term := bif (spotM t).2.2 then kid t (spotM t).1 else T0

/-- what it becomes, and the cost -/
def ownStep (cs : List Core) (t : Term) : Option (Term × Int) :=
  if t.kind = 6 then (if (place t).kind = 5 then some (put (kid (place t) 1) [kid t 1], sizeM (kid (place t) 1) (kid t 1)) else none)
  else if t.kind = 14 ∨ t.kind = 15 then (if (place t).kind = 13 then some (kid (place t) (if t.kind = 15 then 1 else 0), ((kid (place t) (if t.kind = 15 then 1 else 0)).sz : Int)) else none)
  else if t.kind = 7 then some (put (kid t 2) [kid t 1], sizeM (kid t 2) (kid t 1))
  else if t.kind = 3 then (if (bodyM cs t.num t.levels).2 = true then some ((bodyM cs t.num t.levels).1, ((bodyM cs t.num t.levels).1.sz : Int)) else none)
  else if t.kind = 18 then (if (place t).kind = 17 then some (treeM t (place t), treeCost t (place t)) else none)
  else if t.kind = 21 then (if (place t).kind = 20 then some (kid t 3, ((kid t 3).sz : Int)) else none)
  else if t.kind = 24 then (if (spotM t).2.2 = true ∧ ((place t).kind = 23 ∧ 0 ≤ (place t).num ∧ (place t).num < t.at_) then some (kid t ((place t).num + 1), ((kid t ((place t).num + 1)).sz : Int)) else none)
  else none

def spz (t : Term) : Nat := if (spotM t).2.2 = true then t.sz else 0
theorem spot_T0 : (spotM T0).2.2 = false := by simp [spotM, T0, Term.kind]
theorem kid_lt {t : Term} {k : Int} (h : ¬ (k < 0 ∨ (t.kids.length : Int) ≤ k)) : (kid t k).sz < t.sz := by
  unfold kid; rw [if_neg h]; exact Term.sz_lt (getD_mem (by omega))
theorem spz_kid {t : Term} (h : (spotM t).2.2 = true) : spz (kid t (spotM t).1) < spz t := by
  have hp := Term.sz_pos t
  rw [spz, spz, if_pos h]
  split
  · rename_i h2
    by_cases hk : (spotM t).1 < 0 ∨ (t.kids.length : Int) ≤ (spotM t).1
    · rw [kid, if_pos hk, spot_T0] at h2; cases h2
    · exact kid_lt hk
  · omega

/-- with just the kids that are looked at, all the way down -/
def pad (t : Term) : Term :=
  if h : (spotM t).2.2 = true then withM t (pad (kid t (spotM t).1)) (spotM t).1 (spotM t).2.1 else t
termination_by spz t
decreasing_by exact spz_kid h

/-- the first step -/
def stepOnce (cs : List Core) (t : Term) : Option (Term × Int) :=
  if h : (spotM t).2.2 = true then
    match stepOnce cs (kid t (spotM t).1) with
    | some (k, c) => some (withM t k (spotM t).1 (spotM t).2.1, c)
    | none => ownStep cs (withM t (pad (kid t (spotM t).1)) (spotM t).1 (spotM t).2.1)
  else ownStep cs t
termination_by spz t
decreasing_by exact spz_kid h

/-- the way to the head: did it come there; what is there; what is left; was a step made -/
def multi (cs : List Core) (t : Term) (F : Int) (dn : Bool) : Bool × Term × Int × Bool :=
  match stepOnce cs t with
  | none => (true, pad t, F, dn)
  | some (u, c) => if h : 1 ≤ c ∧ c ≤ F then multi cs u (F - c) true else (false, T0, F, dn)
termination_by F.toNat
decreasing_by omega

theorem pad_T {t : Term} (h : (spotM t).2.2 = true) : pad t = withM t (pad (kid t (spotM t).1)) (spotM t).1 (spotM t).2.1 := by rw [pad, dif_pos h]
theorem pad_F {t : Term} (h : (spotM t).2.2 = false) : pad t = t := by rw [pad, dif_neg (by simp [h])]
theorem once_F {cs : List Core} {t : Term} (h : (spotM t).2.2 = false) : stepOnce cs t = ownStep cs t := by rw [stepOnce, dif_neg (by simp [h])]
theorem once_some {cs : List Core} {t k : Term} {c : Int} (h : (spotM t).2.2 = true) (hk : stepOnce cs (kid t (spotM t).1) = some (k, c)) :
    stepOnce cs t = some (withM t k (spotM t).1 (spotM t).2.1, c) := by rw [stepOnce, dif_pos h, hk]
theorem once_none {cs : List Core} {t : Term} (h : (spotM t).2.2 = true) (hk : stepOnce cs (kid t (spotM t).1) = none) :
    stepOnce cs t = ownStep cs (pad t) := by rw [stepOnce, dif_pos h, hk, pad_T h]
theorem multi_none {cs : List Core} {t : Term} {F : Int} {dn : Bool} (h : stepOnce cs t = none) : multi cs t F dn = (true, pad t, F, dn) := by rw [multi, h]
theorem multi_some {cs : List Core} {t u : Term} {F c : Int} {dn : Bool} (h : stepOnce cs t = some (u, c)) (h1 : 1 ≤ c ∧ c ≤ F) : multi cs t F dn = multi cs u (F - c) true := by rw [multi, h]; simp only [dif_pos h1]
theorem multi_gone {cs : List Core} {t u : Term} {F c : Int} {dn : Bool} (h : stepOnce cs t = some (u, c)) (h1 : ¬ (1 ≤ c ∧ c ≤ F)) : multi cs t F dn = (false, T0, F, dn) := by rw [multi, h]; simp only [dif_neg h1]

/-- behind the place: the own step, and on -/
def rest (cs : List Core) (t : Term) (F : Int) (dn : Bool) : Bool × Term × Int × Bool :=
  match ownStep cs t with
  | none => (true, t, F, dn)
  | some (u, c) => if 1 ≤ c ∧ c ≤ F then multi cs u (F - c) true else (false, T0, F, dn)

theorem multi_F {cs : List Core} {t : Term} {F : Int} {dn : Bool} (h : (spotM t).2.2 = false) : multi cs t F dn = rest cs t F dn := by
  rw [multi, once_F h, rest]
  cases ownStep cs t with
  | none => simp only [pad_F h]
  | some p => obtain ⟨u, c⟩ := p; simp only [dite_eq_ite]

def after (cs : List Core) (t : Term) (r : Bool × Term × Int × Bool) : Bool × Term × Int × Bool :=
  bif r.1 then rest cs (withM t r.2.1 (spotM t).1 (spotM t).2.1) r.2.2.1 r.2.2.2 else (false, T0, r.2.2.1, r.2.2.2)

theorem multi_T {cs : List Core} : ∀ (n : Nat) {t : Term} {F : Int} {dn : Bool}, F.toNat = n → (spotM t).2.2 = true → t.kids.length ≤ 4611686018427387904 →
    multi cs t F dn = after cs t (multi cs (kid t (spotM t).1) F dn) := by
  intro n
  induction n using Nat.strongRecOn with
  | _ n ih =>
    intro t F dn hF h hl
    cases hk : stepOnce cs (kid t (spotM t).1) with
    | none =>
      rw [multi_none hk, multi, once_none h hk]
      simp only [after, cond_true, ← pad_T h, rest]
      cases ownStep cs (pad t) with
      | none => rfl
      | some p => obtain ⟨u, c⟩ := p; simp only [dite_eq_ite]
    | some p =>
      obtain ⟨k, c⟩ := p
      have ho := once_some h hk
      by_cases hc : 1 ≤ c ∧ c ≤ F
      · rw [multi_some ho hc, multi_some hk hc]
        have hs := spot_with k h hl
        obtain ⟨r0, r1, _⟩ := spot_range h hl
        have hkk : kid (withM t k (spotM t).1 (spotM t).2.1) (spotM t).1 = k := by rw [kid_with _ r0 r1, if_pos rfl]
        have hl2 : (withM t k (spotM t).1 (spotM t).2.1).kids.length ≤ 4611686018427387904 := by
          rw [with_kids_len]
          have := spot_many h hl (by omega) (by omega)
          omega
        have := ih (F - c).toNat (by omega) (t := withM t k (spotM t).1 (spotM t).2.1) (F := F - c) (dn := true) rfl (by rw [hs]; exact h) hl2
        rw [this]
        simp only [hs, hkk, after, with_with]
      · rw [multi_gone ho hc, multi_gone hk hc]; rfl

end Sp

/- How great the terms are on the way to the head. -/
set_option linter.unusedVariables false
set_option linter.unusedSimpArgs false
namespace Sp
open Go

/-! ### Sizes of what is lifted, put -/

mutual
theorem walkM_sz_no (g : Int → Term → Term) : ∀ (t : Term) (b : Int), (walkM g no b t).sz = t.sz
  | .mk k n a ls ks, b => by
    rw [walkM]
    simp only [no, cond_false, Term.sz, walkMs_sz_no g ks b k 0]
theorem walkMs_sz_no (g : Int → Term → Term) : ∀ (ts : List Term) (b k : Int) (i : Nat), Term.szs (walkMs g no b k i ts) = Term.szs ts
  | [], b, k, i => by simp [walkMs]
  | t :: ts, b, k, i => by rw [walkMs, Term.szs, Term.szs, walkM_sz_no g t, walkMs_sz_no g ts b k (i + 1)]
end
theorem lift_sz (t : Term) (n f : Int) : (lift t n f).sz = t.sz := walkM_sz_no _ t 0
theorem levelsM_sz (t : Term) (by_ : List Level) : (levelsM t by_).sz = t.sz := walkM_sz_no _ t 0

theorem putHit1 (a : Term) (b : Int) (t : Term) : putHit [a] b t = true ↔ t.kind = 1 ∧ t.num = b := by
  simp only [putHit, Bool.and_eq_true, decide_eq_true_eq, List.length_cons, List.length_nil]
  omega
theorem putG_hit {a : Term} {b : Int} {t : Term} (h : putHit [a] b t = true) : putG [a] b t = lift a b 0 := by
  have hh := (putHit1 a b t).1 h
  unfold putG
  rw [if_pos h]
  simp only [List.length_cons, List.length_nil]
  rw [show (((0 + 1 : Nat) : Int) - 1 - (t.num - b)).toNat = 0 by omega]
  rfl
theorem putG_num {a : Term} {b : Int} {t : Term} (h : putHit [a] b t = false) : putG [a] b t = if t.kind = 1 ∧ b ≤ t.num then .mk t.kind (t.num - 1) t.at_ t.levels t.kids else t := by
  unfold putG; rw [h, if_neg (by simp)]; rfl

mutual
theorem walkPut_sz (a : Term) : ∀ (t : Term) (b : Int), ((walkM (putG [a]) (putHit [a]) b t).sz : Int) = sizedM a.sz b t
  | .mk k n at_ ls ks, b => by
    rw [walkM, sizedM]
    cases h : putHit [a] b (.mk k n at_ ls ks) with
    | true =>
      have hh := (putHit1 _ _ _).1 h
      have hh' : k = 1 ∧ n = b := hh
      rw [cond_true, putG_hit h, lift_sz, if_pos hh']
    | false =>
      have hh : ¬ (k = 1 ∧ n = b) := fun e => by rw [(putHit1 a b (.mk k n at_ ls ks)).2 e] at h; cases h
      rw [cond_false, if_neg hh]
      simp only [Term.sz]
      have := walkPuts_sz a ks b k 0
      omega
theorem walkPuts_sz (a : Term) : ∀ (ts : List Term) (b k : Int) (i : Nat), (Term.szs (walkMs (putG [a]) (putHit [a]) b k i ts) : Int) = sizedsM a.sz b k i ts
  | [], b, k, i => by simp [walkMs, sizedsM, Term.szs]
  | t :: ts, b, k, i => by
    rw [walkMs, sizedsM, Term.szs]
    have h1 := walkPut_sz a t (bif binds k i then b + 1 else b)
    have h2 := walkPuts_sz a ts b k (i + 1)
    push_cast
    omega
end
theorem put_sz (t a : Term) : ((put t [a]).sz : Int) = sizeM t a := walkPut_sz a t 0
theorem sizeM_pos (t a : Term) : 1 ≤ sizeM t a := by
  rw [← put_sz]; have := Term.sz_pos (put t [a]); omega

/-! ### Their lists and numbers -/

mutual
theorem walkM_fit {B : Nat} {g : Int → Term → Term} {dn : Int → Term → Bool} (hg : ∀ b t, 0 ≤ b → t.fit B → (g b t).fit B) : ∀ (t : Term) (b : Int), 0 ≤ b → t.fit B → (walkM g dn b t).fit B
  | .mk k n a ls ks, b, hb, h => by
    rw [walkM]
    have h1 := hg b _ hb h
    cases dn b (.mk k n a ls ks) with
    | true => exact h1
    | false =>
      rw [cond_false]
      have hf := Term.fit_iff.1 h
      simp only [Term.fit]
      refine ⟨h1.llen, fun l hl => h1.plen hl, ?_, Term.fits_iff.2 (walkMs_fit hg ks b k 0 hb (fun t ht => hf.2.2.2.1 t ht)), h1.nr⟩
      rw [walkMs_length]; exact hf.2.2.1
theorem walkMs_fit {B : Nat} {g : Int → Term → Term} {dn : Int → Term → Bool} (hg : ∀ b t, 0 ≤ b → t.fit B → (g b t).fit B) : ∀ (ts : List Term) (b k : Int) (i : Nat), 0 ≤ b → (∀ t ∈ ts, t.fit B) → ∀ u ∈ walkMs g dn b k i ts, u.fit B
  | [], b, k, i, hb, h, u, hu => by simp [walkMs] at hu
  | t :: ts, b, k, i, hb, h, u, hu => by
    rw [walkMs] at hu
    rcases List.mem_cons.1 hu with rfl | hu
    · exact walkM_fit hg t _ (by cases binds k i <;> simp only [cond_true, cond_false] <;> omega) (h t (by simp))
    · exact walkMs_fit hg ts b k (i + 1) hb (fun t ht => h t (by simp [ht])) u hu
end
theorem lift_fit {B : Nat} {t : Term} (h : t.fit B) (n f : Int) : (lift t n f).fit B :=
  walkM_fit (fun b u hb hu => by unfold liftG; split; exact hu.renum (w64_range _); exact hu) t 0 (by omega) h
theorem put_fit {B : Nat} {t a : Term} (h : t.fit B) (ha : a.fit B) : (put t [a]).fit B :=
  walkM_fit (fun b u hb hu => by
    cases hh : putHit [a] b u with
    | true => rw [putG_hit hh]; exact lift_fit ha _ _
    | false =>
      rw [putG_num hh]
      have := hu.nr
      split
      · exact hu.renum (by omega)
      · exact hu) t 0 (by omega) h
theorem levelPutM_len (l : Level) (by_ : List Level) : (levelPutM l by_).length ≤ 1048577 := by
  unfold levelPutM ofRows
  cases h : rowPut [] (putParts l by_) with
  | none => simp
  | some r => exact Nat.le_trans (levelM_len r) (RowsOk.nil.put h).len
theorem levelsM_fit {B : Nat} (hB : 1048577 ≤ B) {t : Term} (h : t.fit B) (by_ : List Level) : (levelsM t by_).fit B :=
  walkM_fit (fun b u hb hu => by
    have hf := Term.fit_iff.1 hu
    refine Term.fit_iff.2 ⟨?_, ?_, hf.2.2.1, hf.2.2.2.1, hf.2.2.2.2⟩
    · show (u.levels.map _).length ≤ B
      rw [List.length_map]; exact hf.1
    · intro l hl
      obtain ⟨x, _, rfl⟩ := List.mem_map.1 (show l ∈ u.levels.map (fun l => levelPutM l by_) from hl)
      exact Nat.le_trans (levelPutM_len _ _) hB) t 0 (by omega) h
theorem mk_fit {B : Nat} {k n a : Int} {ks : List Term} (hl : ks.length ≤ B) (hk : ∀ t ∈ ks, t.fit B) (hn : -9223372036854775808 ≤ n ∧ n ≤ 9223372036854775807) : (Term.mk k n a [] ks).fit B :=
  Term.fit_iff.2 ⟨Nat.zero_le _, (fun l hl => by cases hl), hl, hk, hn⟩
theorem with_fit {B : Nat} {t x : Term} (h : t.fit B) (hx : x.fit B) (a m : Int) (hm : m ≤ B) : (withM t x a m).fit B := by
  refine Term.fit_iff.2 ⟨h.llen, fun l hl => h.plen hl, ?_, ?_, h.nr⟩
  · rw [with_kids_len]; omega
  · intro k hk
    obtain ⟨i, _, rfl⟩ := List.mem_map.1 (show k ∈ withKids t x a m.toNat from hk)
    split
    · exact hx
    · exact kid_fit h _
theorem tree_fit {B : Nat} (hB : 8 ≤ B) {t s : Term} (h : t.fit B) (hs : s.fit B) : (treeM t s).fit B := by
  have z : (-9223372036854775808 : Int) ≤ 0 ∧ (0 : Int) ≤ 9223372036854775807 := by omega
  have c2 : ∀ (k : Int) (a b : Term), a.fit B → b.fit B → (Term.mk k 0 0 [] [a, b]).fit B := fun k a b ha hb =>
    mk_fit (by simp; omega) (fun t ht => by simp at ht; rcases ht with rfl | rfl <;> assumption) z
  unfold treeM
  have hv : (Term.mk 1 0 0 [] []).fit B := mk_fit (by simp) (fun t ht => by cases ht) z
  refine c2 6 _ _ (c2 6 _ _ (c2 6 _ _ (kid_fit h _) (kid_fit hs _)) (kid_fit hs _)) (c2 5 _ _ (put_fit (kid_fit h _) (kid_fit hs _)) (mk_fit (by simp; omega) (fun u hu => ?_) z))
  simp only [List.mem_cons, List.not_mem_nil, or_false] at hu
  rcases hu with rfl | rfl | rfl | rfl | rfl
  · exact lift_fit (kid_fit h _) _ _
  · exact lift_fit (kid_fit h _) _ _
  · exact lift_fit (kid_fit h _) _ _
  · exact lift_fit (kid_fit h _) _ _
  · exact c2 6 _ _ (lift_fit (kid_fit hs _) _ _) hv
theorem tree_sz (t s : Term) : ((treeM t s).sz : Int) = treeCost t s := by
  unfold treeM treeCost treeArgs upM
  simp only [Term.sz, Term.szs, lift_sz]
  have := put_sz (kid t 1) (kid s 0)
  omega

/-! ### A step -/

theorem place_fit {B : Nat} {t : Term} (h : t.fit B) : (place t).fit B := by
  unfold place; cases (spotM t).2.2 <;> simp only [cond_true, cond_false]
  · exact T0_fit
  · exact kid_fit h _
theorem place_sz (t : Term) : (place t).sz ≤ t.sz := by
  unfold place; cases (spotM t).2.2 <;> simp only [cond_true, cond_false]
  · exact Term.sz_pos t
  · exact kid_sz _ _

def CoresOk (cs : List Core) : Prop := ∀ c ∈ cs, c.body.fit 1099511627776 ∧ c.body.sz ≤ 268435456

theorem body_ok {cs : List Core} (h : CoresOk cs) (n : Int) (ls : List Level) : (bodyM cs n ls).1.fit 1099511627776 ∧ (bodyM cs n ls).1.sz ≤ 268435456 := by
  unfold bodyM
  split
  · have := coreAt_mem (S := 268435455) cs n ls h
    exact ⟨levelsM_fit (by omega) this.1 _, by rw [levelsM_sz]; exact this.2⟩
  · exact ⟨T0_fit, by simp [T0, Term.sz, Term.szs]⟩

theorem own_ok {cs : List Core} (hc : CoresOk cs) {t u : Term} {c : Int} (ht : t.fit 1099511627776) (hs : t.sz ≤ 268435456) (h : ownStep cs t = some (u, c)) :
    1 ≤ c ∧ (u.sz : Int) = c ∧ u.fit 1099511627776 ∧ c ≤ 72057596190000000 := by
  have hp := place_fit ht
  have hps := place_sz t
  have kz : ∀ k, (kid t k).sz ≤ 268435456 := fun k => Nat.le_trans (kid_sz t k) hs
  have pz : ∀ k, (kid (place t) k).sz ≤ 268435456 := fun k => Nat.le_trans (kid_sz _ k) (by omega)
  have one : ∀ x : Term, 1 ≤ (x.sz : Int) := fun x => by have := Term.sz_pos x; omega
  unfold ownStep at h
  split at h
  · split at h
    · cases h
      exact ⟨sizeM_pos _ _, put_sz _ _, put_fit (kid_fit hp _) (kid_fit ht _), by have := sizeM_small (pz 1) (kz 1); omega⟩
    · cases h
  split at h
  · split at h
    · cases h
      exact ⟨one _, rfl, kid_fit hp _, by have := pz (if t.kind = 15 then 1 else 0); omega⟩
    · cases h
  split at h
  · cases h
    exact ⟨sizeM_pos _ _, put_sz _ _, put_fit (kid_fit ht _) (kid_fit ht _), by have := sizeM_small (kz 2) (kz 1); omega⟩
  split at h
  · split at h
    · cases h
      have := body_ok hc t.num t.levels
      exact ⟨one _, rfl, this.1, by omega⟩
    · cases h
  split at h
  · split at h
    · cases h
      have h1 := treeArgs_sz t (place t) hs (by omega)
      have h2 := sizeM_small (kz 1) (pz 0)
      have h3 := sizeM_nonneg (kid t 1) (kid (place t) 0)
      refine ⟨by unfold treeCost; omega, tree_sz _ _, tree_fit (by omega) ht hp, by unfold treeCost; omega⟩
    · cases h
  split at h
  · split at h
    · cases h
      exact ⟨one _, rfl, kid_fit ht _, by have := kz 3; omega⟩
    · cases h
  split at h
  · split at h
    · cases h
      exact ⟨one _, rfl, kid_fit ht _, by have := kz ((place t).num + 1); omega⟩
    · cases h
  · cases h

/-! ### With just the kids that are looked at -/

theorem withKids_swap (t x y : Term) (a : Int) (h0 : 0 ≤ a) : ∀ (n : Nat), Term.szs (withKids t x a n) + (if a < n then y.sz else 0) = Term.szs (withKids t y a n) + (if a < n then x.sz else 0)
  | 0 => by
    rw [if_neg (by omega), if_neg (by omega)]; simp [withKids]
  | n + 1 => by
    have ih := withKids_swap t x y a h0 n
    rw [withKids_succ, withKids_succ, Term.szs_append, Term.szs_append]
    simp only [Term.szs]
    by_cases e : (n : Int) = a
    · rw [if_pos e, if_pos e, if_pos (by omega), if_pos (by omega)]
      rw [if_neg (by omega), if_neg (by omega)] at ih
      omega
    · rw [if_neg e, if_neg e]
      by_cases e2 : a < (n : Int)
      · rw [if_pos e2, if_pos e2] at ih
        rw [if_pos (by omega), if_pos (by omega)]
        omega
      · rw [if_neg e2, if_neg e2] at ih
        rw [if_neg (by omega), if_neg (by omega)]
        omega
theorem with_swap (t x y : Term) {a m : Int} (h0 : 0 ≤ a) (h1 : a < m) : (withM t x a m).sz + y.sz = (withM t y a m).sz + x.sz := by
  have := withKids_swap t x y a h0 m.toNat
  rw [if_pos (by omega), if_pos (by omega)] at this
  rw [Term.sz_eq (withM t x a m), Term.sz_eq (withM t y a m)]
  show 1 + Term.szs (withKids t x a m.toNat) + y.sz = 1 + Term.szs (withKids t y a m.toNat) + x.sz
  omega

theorem withKids_own (t : Term) (a : Int) : ∀ (n : Nat), Term.szs (withKids t (kid t a) a n) ≤ Term.szs (t.kids.take n) + (n - t.kids.length)
  | 0 => by simp [withKids, Term.szs]
  | n + 1 => by
    have ih := withKids_own t a n
    rw [withKids_succ, Term.szs_append]
    have e : (if (n : Int) = a then kid t a else kid t n) = kid t n := by
      split
      · rename_i h; rw [h]
      · rfl
    rw [e]
    simp only [Term.szs]
    by_cases hn : n < t.kids.length
    · rw [Term.szs_take_succ hn]
      have : kid t n = t.kids.getD n default := by unfold kid; rw [if_neg (by omega)]; rfl
      rw [this]; omega
    · have : kid t n = T0 := by unfold kid; rw [if_pos (by omega)]
      rw [this, List.take_of_length_le (by omega)]
      rw [List.take_of_length_le (by omega)] at ih
      simp [T0, Term.sz, Term.szs]; omega
theorem szs_take_le : ∀ (ts : List Term) (n : Nat), Term.szs (ts.take n) ≤ Term.szs ts
  | [], n => by simp
  | t :: ts, 0 => by simp [Term.szs]
  | t :: ts, n + 1 => by simp [Term.szs]; exact szs_take_le ts n
theorem with_own {t : Term} (h : (spotM t).2.2 = true) (hl : t.kids.length ≤ 4611686018427387904) : (withM t (kid t (spotM t).1) (spotM t).1 (spotM t).2.1).sz ≤ t.sz + 6 := by
  have h1 := withKids_own t (spotM t).1 (spotM t).2.1.toNat
  have h2 := szs_take_le t.kids (spotM t).2.1.toNat
  obtain ⟨r0, r1, r2⟩ := spot_range h hl
  rw [Term.sz_eq, Term.sz_eq t]
  show 1 + Term.szs (withKids t _ _ _) ≤ _
  omega

def psz (t : Term) : Nat := (pad t).sz
theorem psz_F {t : Term} (h : (spotM t).2.2 = false) : psz t = t.sz := by rw [psz, pad_F h]
theorem psz_T0 : psz T0 = 1 := by rw [psz_F spot_T0]; simp [T0, Term.sz, Term.szs]
theorem psz_kid {t : Term} (h : (spotM t).2.2 = true) (hl : t.kids.length ≤ 4611686018427387904) : psz (kid t (spotM t).1) < psz t := by
  obtain ⟨r0, r1, r2⟩ := spot_range h hl
  rw [psz, psz, pad_T h, Term.sz_eq (withM _ _ _ _)]
  have hm : pad (kid t (spotM t).1) ∈ (withM t (pad (kid t (spotM t).1)) (spotM t).1 (spotM t).2.1).kids := by
    refine List.mem_iff_getElem?.2 ⟨(spotM t).1.toNat, ?_⟩
    show (withKids _ _ _ _)[_]? = _
    rw [withKids_get _ _ _ _ _ (by omega), if_pos (by omega)]
  have := Term.sz_kid hm
  omega
theorem psz_le : ∀ (m : Nat) (t : Term), spz t = m → t.fit 1099511627776 → psz t ≤ 7 * t.sz := by
  intro m
  induction m using Nat.strongRecOn with
  | _ m ih =>
    intro t hm hf
    cases h : (spotM t).2.2 with
    | false => rw [psz_F h]; omega
    | true =>
      have hl := hf.len
      have hl' : t.kids.length ≤ 4611686018427387904 := by omega
      obtain ⟨r0, r1, r2⟩ := spot_range h hl'
      have h1 := with_own h hl'
      have h2 := with_swap t (kid t (spotM t).1) (pad (kid t (spotM t).1)) r0 r1
      have hp := Term.sz_pos t
      by_cases hk : (spotM t).1 < 0 ∨ (t.kids.length : Int) ≤ (spotM t).1
      · have e : kid t (spotM t).1 = T0 := by unfold kid; rw [if_pos hk]
        have e2 := psz_T0
        rw [psz, pad_T h]
        rw [e] at h1 h2 ⊢
        have e3 : T0.sz = 1 := by simp [T0, Term.sz, Term.szs]
        rw [psz] at e2
        omega
      · have h3 := kid_lt hk
        have h4 := ih _ (by rw [← hm]; exact spz_kid h) (kid t (spotM t).1) rfl (kid_fit hf _)
        rw [psz] at h4
        rw [psz, pad_T h]
        omega

theorem pad_fit : ∀ (m : Nat) (t : Term), spz t = m → t.fit 1099511627776 → (pad t).fit 1099511627776 := by
  intro m
  induction m using Nat.strongRecOn with
  | _ m ih =>
    intro t hm hf
    cases h : (spotM t).2.2 with
    | false => rw [pad_F h]; exact hf
    | true =>
      rw [pad_T h]
      have := spot_many h hf.len (by omega) (by omega)
      exact with_fit hf (ih _ (by rw [← hm]; exact spz_kid h) _ rfl (kid_fit hf _)) _ _ (by omega)

/-- what a place's own step gives, weighed -/
theorem psz_with {t k : Term} (h : (spotM t).2.2 = true) (hl : t.kids.length ≤ 4611686018427387904) :
    psz (withM t k (spotM t).1 (spotM t).2.1) + psz (kid t (spotM t).1) = psz t + psz k := by
  obtain ⟨r0, r1, r2⟩ := spot_range h hl
  have hs := spot_with k h hl
  have h1 : (spotM (withM t k (spotM t).1 (spotM t).2.1)).2.2 = true := by rw [hs]; exact h
  rw [psz, pad_T h1, hs, kid_with _ r0 r1, if_pos rfl, with_with, psz, psz, psz, pad_T h]
  exact with_swap _ _ _ r0 r1

theorem once_ok {cs : List Core} (hc : CoresOk cs) : ∀ (m : Nat) (t : Term), spz t = m → t.fit 1099511627776 → psz t ≤ 268435456 → ∀ u c, stepOnce cs t = some (u, c) →
    1 ≤ c ∧ c ≤ 72057596190000000 ∧ u.fit 1099511627776 ∧ (psz u : Int) ≤ psz t + 7 * c := by
  intro m
  induction m using Nat.strongRecOn with
  | _ m ih =>
    intro t hm hf hz u c ho
    cases h : (spotM t).2.2 with
    | false =>
      rw [once_F h] at ho
      rw [psz_F h] at hz
      have := own_ok hc hf hz ho
      have h7 := psz_le _ u rfl this.2.2.1
      exact ⟨this.1, this.2.2.2, this.2.2.1, by omega⟩
    | true =>
      have hl := hf.len
      have hl' : t.kids.length ≤ 4611686018427387904 := by omega
      cases hk : stepOnce cs (kid t (spotM t).1) with
      | some p =>
        obtain ⟨k, d⟩ := p
        rw [once_some h hk] at ho
        cases ho
        have hpk := psz_kid h hl'
        have := ih _ (by rw [← hm]; exact spz_kid h) _ rfl (kid_fit hf _) (by omega) k c hk
        have hw := psz_with (k := k) h hl'
        have hmany := spot_many h hl (by omega) (by omega)
        exact ⟨this.1, this.2.1, with_fit hf this.2.2.1 _ _ (by omega), by omega⟩
      | none =>
        rw [once_none h hk] at ho
        have := own_ok hc (pad_fit _ t rfl hf) hz ho
        have h7 := psz_le _ u rfl this.2.2.1
        exact ⟨this.1, this.2.2.2, this.2.2.1, by omega⟩

end Sp

/- The way to the head, as the walk of head meets it. -/
set_option linter.unusedVariables false
set_option linter.unusedSimpArgs false
namespace Sp
open Go

def stepU (cs : List Core) (t : Term) : Term := match ownStep cs t with | some (u, _) => u | none => t
def stepC (cs : List Core) (t : Term) : Int := match ownStep cs t with | some (_, c) => c | none => 0
def onceT (cs : List Core) (t : Term) : Term := match stepOnce cs t with | some (u, _) => u | none => pad t
def onceC (cs : List Core) (t : Term) : Int := match stepOnce cs t with | some (_, c) => c | none => 0

theorem step_no {cs : List Core} {t : Term} (h : (ownStep cs t).isSome = false) : stepU cs t = t ∧ stepC cs t = 0 := by
  unfold stepU stepC
  cases e : ownStep cs t with
  | none => exact ⟨rfl, rfl⟩
  | some p => rw [e] at h; cases h
theorem step_yes {cs : List Core} {t : Term} (h : (ownStep cs t).isSome = true) : ownStep cs t = some (stepU cs t, stepC cs t) := by
  unfold stepU stepC
  cases e : ownStep cs t with
  | none => rw [e] at h; cases h
  | some p => obtain ⟨u, c⟩ := p; rfl
theorem once_no {cs : List Core} {t : Term} (h : (stepOnce cs t).isSome = false) : stepOnce cs t = none ∧ onceT cs t = pad t ∧ onceC cs t = 0 := by
  unfold onceT onceC
  cases e : stepOnce cs t with
  | none => exact ⟨rfl, rfl, rfl⟩
  | some p => rw [e] at h; cases h
theorem once_yes {cs : List Core} {t : Term} (h : (stepOnce cs t).isSome = true) : stepOnce cs t = some (onceT cs t, onceC cs t) := by
  unfold onceT onceC
  cases e : stepOnce cs t with
  | none => rw [e] at h; cases h
  | some p => obtain ⟨u, c⟩ := p; rfl
theorem stepC_bound {cs : List Core} (hc : CoresOk cs) {t : Term} (ht : t.fit 1099511627776) (hs : t.sz ≤ 268435456) : 0 ≤ stepC cs t ∧ stepC cs t ≤ 72057596190000000 := by
  cases h : (ownStep cs t).isSome with
  | false => rw [(step_no h).2]; omega
  | true => have := own_ok hc ht hs (step_yes h); omega

theorem rest_gone {cs : List Core} {t : Term} {F : Int} {dn : Bool} (hF : 0 ≤ F) (h : ¬ stepC cs t ≤ F) : rest cs t F dn = (false, T0, F, dn) := by
  cases hi : (ownStep cs t).isSome with
  | false => rw [(step_no hi).2] at h; exact absurd hF h
  | true => rw [rest, step_yes hi]; simp only; rw [if_neg (by omega)]
theorem rest_none {cs : List Core} {t : Term} {F : Int} {dn : Bool} (h : (ownStep cs t).isSome = false) : rest cs t F dn = (true, t, F, dn) := by
  rw [rest]
  cases e : ownStep cs t with
  | none => rfl
  | some p => rw [e] at h; cases h
theorem rest_some {cs : List Core} {t : Term} {F : Int} {dn : Bool} (h : (ownStep cs t).isSome = true) (h1 : 1 ≤ stepC cs t) (h2 : stepC cs t ≤ F) : rest cs t F dn = multi cs (stepU cs t) (F - stepC cs t) true := by
  rw [rest, step_yes h]; simp only; rw [if_pos ⟨h1, h2⟩]

theorem multi_ok {cs : List Core} (hc : CoresOk cs) : ∀ (n : Nat) (t : Term) (F : Int) (dn : Bool), F.toNat = n → t.fit 1099511627776 → 0 ≤ F → (psz t : Int) + 7 * F ≤ 268435456 →
    0 ≤ (multi cs t F dn).2.2.1 ∧ (multi cs t F dn).2.2.1 ≤ F ∧ ((multi cs t F dn).1 = true → (multi cs t F dn).2.1.fit 1099511627776 ∧ ((multi cs t F dn).2.1.sz : Int) + 7 * (multi cs t F dn).2.2.1 ≤ psz t + 7 * F) := by
  intro n
  induction n using Nat.strongRecOn with
  | _ n ih =>
    intro t F dn hn hf h0 hz
    cases h : stepOnce cs t with
    | none =>
      rw [multi_none h]
      exact ⟨h0, Int.le_refl _, fun _ => ⟨pad_fit _ t rfl hf, Int.le_refl _⟩⟩
    | some p =>
      obtain ⟨u, c⟩ := p
      have ho := once_ok hc _ t rfl hf (by omega) u c h
      by_cases hcF : 1 ≤ c ∧ c ≤ F
      · rw [multi_some h hcF]
        have := ih (F - c).toNat (by omega) u (F - c) true rfl ho.2.2.1 (by omega) (by omega)
        exact ⟨this.1, by omega, fun e => ⟨(this.2.2 e).1, by have := (this.2.2 e).2; omega⟩⟩
      · rw [multi_gone h hcF]
        exact ⟨h0, Int.le_refl _, fun e => by cases e⟩

/-- what stands behind the place's way -/
theorem behind_ok {cs : List Core} (hc : CoresOk cs) {u : Term} {F : Int} {d : Bool} (hf : u.fit 1099511627776) (hF : 0 ≤ F) (hz : (psz u : Int) + 7 * F ≤ 268435456) (h : (spotM u).2.2 = true) :
    0 ≤ (multi cs (kid u (spotM u).1) F d).2.2.1 ∧ (multi cs (kid u (spotM u).1) F d).2.2.1 ≤ F ∧ ((multi cs (kid u (spotM u).1) F d).1 = true →
      (withM u (multi cs (kid u (spotM u).1) F d).2.1 (spotM u).1 (spotM u).2.1).fit 1099511627776 ∧
      ((withM u (multi cs (kid u (spotM u).1) F d).2.1 (spotM u).1 (spotM u).2.1).sz : Int) + 7 * (multi cs (kid u (spotM u).1) F d).2.2.1 ≤ 268435456 ∧
      multi cs u F d = rest cs (withM u (multi cs (kid u (spotM u).1) F d).2.1 (spotM u).1 (spotM u).2.1) (multi cs (kid u (spotM u).1) F d).2.2.1 (multi cs (kid u (spotM u).1) F d).2.2.2) := by
  have hl := hf.len
  have hl' : u.kids.length ≤ 4611686018427387904 := by omega
  have hpk := psz_kid h hl'
  have hm := multi_ok hc _ (kid u (spotM u).1) F d rfl (kid_fit hf _) hF (by omega)
  refine ⟨hm.1, hm.2.1, fun e => ?_⟩
  obtain ⟨hfit, hsz⟩ := hm.2.2 e
  have hmany := spot_many h hl (by omega) (by omega)
  obtain ⟨r0, r1, _⟩ := spot_range h hl'
  refine ⟨with_fit hf hfit _ _ (by omega), ?_, ?_⟩
  · have h1 := with_swap u (multi cs (kid u (spotM u).1) F d).2.1 (pad (kid u (spotM u).1)) r0 r1
    rw [← pad_T h] at h1
    have e1 : psz u = (pad u).sz := rfl
    have e2 : psz (kid u (spotM u).1) = (pad (kid u (spotM u).1)).sz := rfl
    omega
  · rw [multi_T _ rfl h hl', after, e, cond_true]

theorem onceC_bound {cs : List Core} (hc : CoresOk cs) {t : Term} (ht : t.fit 1099511627776) (hs : psz t ≤ 268435456) : 0 ≤ onceC cs t ∧ onceC cs t ≤ 72057596190000000 ∧ (onceT cs t).fit 1099511627776 ∧ ((onceT cs t).sz ≤ psz t ∨ (stepOnce cs t).isSome = true) := by
  cases h : (stepOnce cs t).isSome with
  | false =>
    obtain ⟨_, e1, e2⟩ := once_no h
    rw [e1, e2]
    exact ⟨by omega, by omega, pad_fit _ t rfl ht, .inl (Nat.le_refl _)⟩
  | true =>
    have := once_ok hc _ t rfl ht hs _ _ (once_yes h)
    exact ⟨by omega, this.2.1, this.2.2.1, .inr rfl⟩

theorem once_kid {cs : List Core} {t : Term} (h : (spotM t).2.2 = true) (hk : (stepOnce cs (kid t (spotM t).1)).isSome = true) :
    onceT cs t = withM t (onceT cs (kid t (spotM t).1)) (spotM t).1 (spotM t).2.1 ∧ onceC cs t = onceC cs (kid t (spotM t).1) ∧ (stepOnce cs t).isSome = true := by
  have h1 := once_some h (once_yes hk)
  refine ⟨?_, ?_, by rw [h1]; rfl⟩
  · rw [onceT, h1]
  · conv => lhs; rw [onceC, h1]
theorem once_own {cs : List Core} {t : Term} (h : (spotM t).2.2 = true) (hk : (stepOnce cs (kid t (spotM t).1)).isSome = false) :
    withM t (onceT cs (kid t (spotM t).1)) (spotM t).1 (spotM t).2.1 = pad t ∧ onceC cs (kid t (spotM t).1) = 0 ∧ stepOnce cs t = ownStep cs (pad t) := by
  obtain ⟨h1, h2, h3⟩ := once_no hk
  exact ⟨by rw [h2, pad_T h], h3, once_none h h1⟩
theorem once_no' {cs : List Core} {t U : Term} (h : stepOnce cs t = ownStep cs U) (hU : pad t = U) (hn : (ownStep cs U).isSome = false) : onceT cs t = U ∧ onceC cs t = 0 ∧ (stepOnce cs t).isSome = false ∧ stepC cs U = 0 ∧ stepU cs U = U := by
  rw [← h] at hn
  obtain ⟨_, h2, h3⟩ := once_no hn
  rw [h] at hn
  exact ⟨by rw [h2, hU], h3, by rw [h]; exact hn, (step_no hn).2, (step_no hn).1⟩
theorem once_yes' {cs : List Core} {t U : Term} (h : stepOnce cs t = ownStep cs U) (hn : (ownStep cs U).isSome = true) : onceT cs t = stepU cs U ∧ onceC cs t = stepC cs U ∧ (stepOnce cs t).isSome = true := by
  have h1 := step_yes hn
  refine ⟨?_, ?_, by rw [h]; exact hn⟩
  · rw [onceT, h, h1]
  · rw [onceC, h, h1]

end Sp

/- What Whnf and Step answer. -/
set_option linter.unusedVariables false
set_option linter.unusedSimpArgs false
namespace Sp
open Go

mutual
theorem lift00' {B : Nat} (f : Int) : ∀ (t : Term) (b : Int), t.fit B → walkM (liftG 0 f) no b t = t
  | .mk k n a ls ks, b, h => by
    rw [walkM]
    have hg : liftG 0 f b (.mk k n a ls ks) = .mk k n a ls ks := by
      unfold liftG
      split
      · have := h.nr
        simp only [Term.num] at this
        simp only [Term.kind, Term.num, Term.at_, Term.levels, Term.kids, Int.add_zero]
        rw [w64_id this.1 this.2]
      · rfl
    rw [hg]
    simp only [no, cond_false, Term.kind, Term.num, Term.at_, Term.levels]
    rw [lift00s f ks b k 0 (fun t ht => (Term.fit_iff.1 h).2.2.2.1 t ht)]
theorem lift00s {B : Nat} (f : Int) : ∀ (ts : List Term) (b k : Int) (i : Nat), (∀ t ∈ ts, t.fit B) → walkMs (liftG 0 f) no b k i ts = ts
  | [], b, k, i, h => by simp [walkMs]
  | t :: ts, b, k, i, h => by
    rw [walkMs, lift00' f t _ (h t (by simp)), lift00s f ts b k (i + 1) (fun u hu => h u (by simp [hu]))]
end
theorem lift00 {B : Nat} {t : Term} (h : t.fit B) : lift t 0 0 = t := lift00' 0 t 0 h

theorem once_sz {cs : List Core} (hc : CoresOk cs) : ∀ (m : Nat) (t : Term), spz t = m → t.fit 1099511627776 → psz t ≤ 268435456 → ∀ u c, stepOnce cs t = some (u, c) → (u.sz : Int) ≤ psz t + c := by
  intro m
  induction m using Nat.strongRecOn with
  | _ m ih =>
    intro t hm hf hz u c ho
    cases h : (spotM t).2.2 with
    | false =>
      rw [once_F h] at ho
      rw [psz_F h] at hz ⊢
      have := own_ok hc hf hz ho
      omega
    | true =>
      have hl := hf.len
      have hl' : t.kids.length ≤ 4611686018427387904 := by omega
      cases hk : stepOnce cs (kid t (spotM t).1) with
      | some p =>
        obtain ⟨k, d⟩ := p
        rw [once_some h hk] at ho
        cases ho
        have hpk := psz_kid h hl'
        obtain ⟨r0, r1, _⟩ := spot_range h hl'
        have := ih _ (by rw [← hm]; exact spz_kid h) _ rfl (kid_fit hf _) (by omega) k c hk
        have hw := with_swap t k (pad (kid t (spotM t).1)) r0 r1
        rw [← pad_T h] at hw
        have e1 : psz t = (pad t).sz := rfl
        have e2 : psz (kid t (spotM t).1) = (pad (kid t (spotM t).1)).sz := rfl
        omega
      | none =>
        rw [once_none h hk] at ho
        have := own_ok hc (pad_fit _ t rfl hf) hz ho
        omega

def whnfM (cs : List Core) (t : Term) (fuel : Int) : Term × Int × Int :=
  if fuel < 0 ∨ 1073741824 < fuel then (T0, 0, 2) else if (multi cs t fuel false).1 = true then ((multi cs t fuel false).2.1, (multi cs t fuel false).2.2.1, 0) else (T0, 0, 5)
def stepM (cs : List Core) (t : Term) : Term × Int × Bool := match stepOnce cs t with | some (u, c) => (u, c, true) | none => (t, 0, false)

theorem whnfM_arg {cs : List Core} {t : Term} {fuel : Int} (h : fuel < 0 ∨ 1073741824 < fuel) : whnfM cs t fuel = (T0, 0, 2) := if_pos h
theorem whnfM_ok {cs : List Core} {t : Term} {fuel : Int} (h : ¬ (fuel < 0 ∨ 1073741824 < fuel)) (h2 : (multi cs t fuel false).1 = true) : whnfM cs t fuel = ((multi cs t fuel false).2.1, (multi cs t fuel false).2.2.1, 0) := by rw [whnfM, if_neg h, if_pos h2]
theorem whnfM_gone {cs : List Core} {t : Term} {fuel : Int} (h : ¬ (fuel < 0 ∨ 1073741824 < fuel)) (h2 : ¬ (multi cs t fuel false).1 = true) : whnfM cs t fuel = (T0, 0, 5) := by rw [whnfM, if_neg h, if_neg h2]
theorem stepM_no {cs : List Core} {t : Term} (h : (stepOnce cs t).isSome = false) : stepM cs t = (t, 0, false) := by rw [stepM, (once_no h).1]
theorem stepM_yes {cs : List Core} {t : Term} (h : (stepOnce cs t).isSome = true) : stepM cs t = (onceT cs t, onceC cs t, true) := by rw [stepM, once_yes h]

end Sp

/- The stage's law, over what Whnf and Step answer. -/
set_option linter.unusedVariables false
set_option linter.unusedSimpArgs false
set_option maxRecDepth 20000
namespace Sp
open Go

/-! ### The chapter's examples -/

abbrev tv (n : Int) : Term := .mk 1 n 0 [] []
abbrev tE : Term := .mk 23 1 2 [] []
abbrev tL : Term := .mk 5 0 0 [] [.mk 22 2 0 [] [], tv 0]
abbrev tA : Term := .mk 6 0 0 [] [tL, tE]
abbrev tP : Term := .mk 13 0 0 [] [tv 1, tv 2]
abbrev tB : Term := .mk 24 0 2 [] [.mk 22 1 0 [] [], tv 1, tP, tA]

theorem onceTL : stepOnce [] tL = none := by
  rw [once_F (by rfl)]; rfl
theorem onceTE : stepOnce [] tE = none := by
  rw [once_F (by rfl)]; rfl
theorem onceTP : stepOnce [] tP = none := by
  rw [once_F (by rfl)]; rfl
theorem padA : pad tA = tA := by
  rw [pad_T (by rfl)]
  show withM tA (pad tL) 0 2 = tA
  rw [pad_F (by rfl)]; rfl
theorem onceTA : stepOnce [] tA = some (tE, 1) := by
  rw [once_none (by rfl) onceTL, padA]
  rfl
abbrev tB2 : Term := .mk 24 0 2 [] [.mk 22 1 0 [] [], tv 1, tP, tE]
theorem spotB : spotM tB = (3, 4, true) := by decide
theorem spotB2 : spotM tB2 = (3, 4, true) := by decide
theorem onceTB : stepOnce [] tB = some (tB2, 1) := by
  have h : stepOnce [] (kid tB (spotM tB).1) = some (tE, 1) := by rw [spotB]; exact onceTA
  rw [once_some (by rw [spotB]) h, spotB]
  rfl
theorem onceTB2 : stepOnce [] tB2 = some (tP, 3) := by
  have h : stepOnce [] (kid tB2 (spotM tB2).1) = none := by rw [spotB2]; exact onceTE
  rw [once_none (by rw [spotB2]) h]
  have hp : pad tB2 = tB2 := by
    rw [pad_T (by rw [spotB2]), spotB2]
    show withM tB2 (pad tE) 3 4 = tB2
    rw [pad_F (by rfl)]; rfl
  rw [hp]
  have hpl : place tB2 = tE := by rw [place, spotB2]; rfl
  rw [ownStep, if_neg (by decide), if_neg (by decide), if_neg (by decide), if_neg (by decide), if_neg (by decide), if_neg (by decide), if_pos (by rfl), hpl, spotB2, if_pos (by decide)]
  rfl
theorem whnf_A5 : whnfM [] tA 5 = (tE, 4, 0) := by
  have h : multi [] tA 5 false = (true, tE, 4, true) := by
    rw [multi_some onceTA (by omega), multi_none onceTE, pad_F (by rfl)]; rfl
  rw [whnfM_ok (by omega) (by rw [h]), h]
theorem whnf_A0 : whnfM [] tA 0 = (T0, 0, 5) := by
  have h : multi [] tA 0 false = (false, T0, 0, false) := multi_gone onceTA (by omega)
  rw [whnfM_gone (by omega) (by rw [h]; simp)]
theorem whnf_B5 : whnfM [] tB 5 = (tP, 1, 0) := by
  have h : multi [] tB 5 false = (true, tP, 1, true) := by
    rw [multi_some onceTB (by omega), multi_some onceTB2 (by omega), multi_none onceTP, pad_F (by rfl)]; rfl
  rw [whnfM_ok (by omega) (by rw [h]), h]

/-! ### Steps and the way to the head -/

theorem multi_dn {cs : List Core} : ∀ (n : Nat) (t : Term) (F : Int) (d d' : Bool), F.toNat = n → (multi cs t F d).1 = (multi cs t F d').1 ∧ (multi cs t F d).2.1 = (multi cs t F d').2.1 ∧ (multi cs t F d).2.2.1 = (multi cs t F d').2.2.1 := by
  intro n t F d d' _
  cases h : stepOnce cs t with
  | none => rw [multi_none h, multi_none h]; exact ⟨rfl, rfl, rfl⟩
  | some p =>
    obtain ⟨u, c⟩ := p
    by_cases hc : 1 ≤ c ∧ c ≤ F
    · rw [multi_some h hc, multi_some h hc]; exact ⟨rfl, rfl, rfl⟩
    · rw [multi_gone h hc, multi_gone h hc]; exact ⟨rfl, rfl, rfl⟩

theorem whnf_step {cs : List Core} {t u : Term} {c F : Int} (h : stepOnce cs t = some (u, c)) (hc : 1 ≤ c) (h0 : 0 ≤ F) (h1 : F ≤ 1073741824) : whnfM cs t F = if c ≤ F then whnfM cs u (F - c) else (T0, 0, 5) := by
  by_cases hF : c ≤ F
  · rw [if_pos hF]
    have hm := multi_some (dn := false) h ⟨hc, hF⟩
    have hd := multi_dn (cs := cs) _ u (F - c) true false rfl
    have n1 : ¬ (F < 0 ∨ 1073741824 < F) := by omega
    have n2 : ¬ (F - c < 0 ∨ 1073741824 < F - c) := by omega
    unfold whnfM
    rw [if_neg n1, if_neg n2, hm, hd.1, hd.2.1, hd.2.2]
  · rw [if_neg hF, whnfM_gone (by omega)]
    rw [multi_gone h (by omega)]; simp
theorem whnf_none {cs : List Core} {t : Term} {F : Int} (h : stepOnce cs t = none) (h0 : 0 ≤ F) (h1 : F ≤ 1073741824) : whnfM cs t F = (pad t, F, 0) := by
  rw [whnfM_ok (by omega) (by rw [multi_none h]), multi_none h]

/-- so much was stepped -/
def Reached (cs : List Core) (t u : Term) (cost : Int) : Prop := ∀ F, 0 ≤ F → F ≤ 1073741824 → whnfM cs t F = if cost ≤ F then whnfM cs u (F - cost) else (T0, 0, 5)
theorem Reached.start (cs : List Core) (t : Term) : Reached cs t t 0 := fun F h0 h1 => by rw [if_pos h0, Int.sub_zero]
theorem Reached.step {cs : List Core} {t u v : Term} {cost c : Int} (h : Reached cs t u cost) (h0 : 0 ≤ cost) (hs : stepOnce cs u = some (v, c)) (hc : 1 ≤ c) : Reached cs t v (cost + c) := fun F f0 f1 => by
  rw [h F f0 f1]
  by_cases hF : cost ≤ F
  · rw [if_pos hF, whnf_step hs hc (by omega) (by omega)]
    by_cases hF2 : c ≤ F - cost
    · rw [if_pos hF2, if_pos (by omega)]; congr 1; omega
    · rw [if_neg hF2, if_neg (by omega)]
  · rw [if_neg hF, if_neg (by omega)]
theorem Reached.done {cs : List Core} {t u : Term} {cost F : Int} (h : Reached cs t u cost) (hs : stepOnce cs u = none) (h0 : 0 ≤ cost) (f0 : cost ≤ F) (f1 : F ≤ 1073741824) : whnfM cs t F = (pad u, F - cost, 0) := by
  rw [h F (by omega) f1, if_pos f0, whnf_none hs (by omega) (by omega)]
theorem Reached.short {cs : List Core} {t u : Term} {cost F : Int} (h : Reached cs t u cost) (h0 : 0 ≤ F) (f0 : F < cost) (f1 : F ≤ 1073741824) : whnfM cs t F = (T0, 0, 5) := by
  rw [h F h0 f1, if_neg (by omega)]

theorem pad_none {cs : List Core} : ∀ (m : Nat) (t : Term), spz t = m → t.fit 1099511627776 → stepOnce cs t = none → stepOnce cs (pad t) = none ∧ pad (pad t) = pad t := by
  intro m
  induction m using Nat.strongRecOn with
  | _ m ih =>
    intro t hm hf h
    cases hs : (spotM t).2.2 with
    | false => rw [pad_F hs]; exact ⟨h, pad_F hs⟩
    | true =>
      have hl := hf.len
      have hl' : t.kids.length ≤ 4611686018427387904 := by omega
      obtain ⟨r0, r1, _⟩ := spot_range hs hl'
      have hk : stepOnce cs (kid t (spotM t).1) = none := by
        cases hk : stepOnce cs (kid t (spotM t).1) with
        | none => rfl
        | some p => obtain ⟨k, c⟩ := p; rw [once_some hs hk] at h; cases h
      have hi := ih _ (by rw [← hm]; exact spz_kid hs) _ rfl (kid_fit hf _) hk
      have hsp : spotM (pad t) = spotM t := by rw [pad_T hs]; exact spot_with _ hs hl'
      have hkp : kid (pad t) (spotM t).1 = pad (kid t (spotM t).1) := by rw [pad_T hs, kid_with _ r0 r1, if_pos rfl]
      have hpp : pad (pad t) = pad t := by
        have e : (spotM (pad t)).2.2 = true := by rw [hsp]; exact hs
        rw [pad_T e, hsp, hkp, hi.2]
        conv => lhs; rw [pad_T hs]
        rw [with_with, ← pad_T hs]
      refine ⟨?_, hpp⟩
      have e : (spotM (pad t)).2.2 = true := by rw [hsp]; exact hs
      have hk2 : stepOnce cs (kid (pad t) (spotM (pad t)).1) = none := by rw [hsp, hkp]; exact hi.1
      rw [once_none e hk2, hpp, ← once_none hs hk]
      exact h

end Sp

/- Which terms are right in the core. -/
set_option linter.unusedVariables false
set_option linter.unusedSimpArgs false
namespace Sp
open Go

def strictM : Level → Bool
  | p :: q :: r => decide (p.v < q.v) && strictM (q :: r)
  | _ => true
def badP (n : Int) (p : Part) : Bool := decide (p.v < 0) || decide (n < p.v) || decide (p.p < 0) || decide (1000 < p.p)
def lvRight (n : Int) (l : Level) : Bool := strictM l && decide (l.length ≤ 9) && !(l.any (badP n))
def cmpM (a b : Part) : Int := if b.v < a.v then 1 else -1
def idxB : List Bool → Int → Int
  | [], _ => -1
  | b :: bs, i => if b = false then i else idxB bs (i + 1)
theorem idxB_all : ∀ (bs : List Bool) (i : Int), 0 ≤ i → decide (0 ≤ idxB bs i) = !(bs.all id)
  | [], i, h => by simp [idxB]
  | b :: bs, i, h => by
    rw [idxB, List.all_cons]
    cases b with
    | false => simp [h]
    | true => simp only [Bool.true_eq_false, if_false, id_eq, Bool.true_and]; exact idxB_all bs (i + 1) (by omega)
def orM : List Int → Int
  | [] => 0
  | z :: zs => if z ≠ 0 then z else orM zs
def compM (a b : Int) : Int := if a < b then -1 else if b < a then 1 else 0
theorem or_comp (a b : Part) : orM [compM a.v b.v, -1] = cmpM a b := by
  unfold orM orM compM cmpM
  split <;> split <;> (try split) <;> (try split) <;> first | rfl | omega | simp_all
theorem strict_step {l : Level} {i : Nat} (h : i + 1 < l.length) : strictM (l.drop i) = (decide ((l.getD i default).v < (l.getD (i + 1) default).v) && strictM (l.drop (i + 1))) := by
  rw [drop_getD (by omega : i < l.length), drop_getD h, strictM]
theorem strict_drop : ∀ (n : Nat) (l : Level), strictM l = true → strictM (l.drop n) = true
  | 0, l, h => h
  | n + 1, [], h => by simp [strictM]
  | n + 1, [p], h => by simp [strictM]
  | n + 1, p :: q :: r, h => by
    rw [strictM, Bool.and_eq_true] at h
    exact strict_drop n (q :: r) h.2
theorem strict_last {l : Level} {i : Nat} (h : l.length ≤ i + 1) : strictM (l.drop i) = true := by
  have : (l.drop i).length ≤ 1 := by rw [List.length_drop]; omega
  match hd : l.drop i with
  | [] => rfl
  | [p] => rfl
  | p :: q :: r => rw [hd] at this; simp at this

def bareB (t : Term) : Bool := decide (t.num = 0) && decide (t.at_ = 0) && decide ((t.levels.length : Int) = 0)
def varB (nt : Int) (t : Term) : Bool := decide (0 ≤ t.num) && decide (t.num < nt) && decide (t.at_ = 0) && decide ((t.levels.length : Int) = 0)
def sortB (nl : Int) (t : Term) : Bool := decide (t.num = 0) && decide (t.at_ = 0) && decide ((t.levels.length : Int) = 1) && t.levels.all (lvRight nl)
def constB (nl : Int) (cn : List Int) (t : Term) : Bool := decide (0 ≤ t.num) && decide (t.num < cn.length) && decide (t.at_ = 0) && decide ((t.levels.length : Int) = cn.getD t.num.toNat default) && t.levels.all (lvRight nl)
def finB (t : Term) : Bool := decide (0 ≤ t.num) && decide (t.at_ = 0) && decide ((t.levels.length : Int) = 0)
def elemB (t : Term) : Bool := decide (0 ≤ t.num) && decide (t.num < t.at_) && decide ((t.levels.length : Int) = 0)
def casB (t : Term) : Bool := decide (t.num = 0) && decide (0 ≤ t.at_) && decide ((t.levels.length : Int) = 0)
def asksM (nl nt : Int) (cn : List Int) (t : Term) : Bool × Int :=
  if t.kind = 1 then (varB nt t, 0) else if t.kind = 2 then (sortB nl t, 0) else if t.kind = 3 then (constB nl cn t, 0)
  else if t.kind = 4 ∨ t.kind = 5 ∨ t.kind = 6 ∨ t.kind = 12 ∨ t.kind = 13 ∨ t.kind = 16 ∨ t.kind = 17 then (bareB t, 2)
  else if t.kind = 7 ∨ t.kind = 19 then (bareB t, 3) else if t.kind = 14 ∨ t.kind = 15 then (bareB t, 1) else if t.kind = 18 then (bareB t, 5)
  else if t.kind = 20 then (bareB t, 0) else if t.kind = 21 then (bareB t, 6) else if t.kind = 22 then (finB t, 0) else if t.kind = 23 then (elemB t, 0)
  else if t.kind = 24 then (casB t, w64 (t.at_ + 2)) else (false, 0)
mutual
def rightM (nl : Int) (cn : List Int) (nt : Int) : Term → Bool
  | .mk k n a ls ks => (asksM nl nt cn (.mk k n a ls ks)).1 && decide ((ks.length : Int) = (asksM nl nt cn (.mk k n a ls ks)).2) && rightsM nl cn nt k 0 ks
def rightsM (nl : Int) (cn : List Int) (nt : Int) (k i : Int) : List Term → Bool
  | [] => true
  | t :: ts => rightM nl cn (bif binds k i then nt + 1 else nt) t && rightsM nl cn nt k (i + 1) ts
end
theorem rightM_eq (nl : Int) (cn : List Int) (nt : Int) (t : Term) : rightM nl cn nt t = ((asksM nl nt cn t).1 && decide ((t.kids.length : Int) = (asksM nl nt cn t).2) && rightsM nl cn nt t.kind 0 t.kids) := by
  cases t; rw [rightM]; rfl
theorem rights_take {nl : Int} {cn : List Int} {nt k : Int} : ∀ (ts : List Term) (i : Nat) (z : Int), i < ts.length → rightsM nl cn nt k z (ts.take (i + 1)) = (rightsM nl cn nt k z (ts.take i) && rightM nl cn (bif binds k (z + i) then nt + 1 else nt) (ts.getD i default))
  | [], i, z, h => by simp at h
  | t :: ts, 0, z, h => by simp [rightsM]
  | t :: ts, i + 1, z, h => by
    have e := rights_take (nl := nl) (cn := cn) (nt := nt) (k := k) ts i (z + 1) (by simpa using h)
    rw [List.take_succ_cons, List.take_succ_cons, rightsM, rightsM, e, List.getD_cons_succ, Bool.and_assoc]
    have : z + 1 + (i : Int) = z + ((i + 1 : Nat) : Int) := by push_cast; omega
    rw [this]
theorem rights_fall {nl : Int} {cn : List Int} {nt k : Int} {ts : List Term} {i : Nat} (h : i < ts.length) (hr : rightM nl cn (bif binds k i then nt + 1 else nt) (ts.getD i default) = false) : rightsM nl cn nt k 0 ts = false := by
  have go : ∀ (ts : List Term) (i : Nat) (z : Int), i < ts.length → rightM nl cn (bif binds k (z + i) then nt + 1 else nt) (ts.getD i default) = false → rightsM nl cn nt k z ts = false := by
    intro ts
    induction ts with
    | nil => intro i z h; simp at h
    | cons t ts ih =>
      intro i z h hr
      rw [rightsM]
      cases i with
      | zero => simp at hr; rw [hr, Bool.false_and]
      | succ i =>
        rw [ih i (z + 1) (by simpa using h) (by rw [List.getD_cons_succ] at hr; have : z + 1 + (i : Int) = z + ((i + 1 : Nat) : Int) := by push_cast; omega
                                                rw [this]; exact hr), Bool.and_false]
  exact go ts i 0 h (by simpa using hr)
end Sp

/- What is right stays so: lifting, putting, levels. -/
set_option linter.unusedVariables false
set_option linter.unusedSimpArgs false
namespace Sp
open Go

theorem asks_nt {nl nt nu : Int} {cn : List Int} {t : Term} (h : ¬ t.kind = 1) : asksM nl nt cn t = asksM nl nu cn t := by
  unfold asksM; rw [if_neg h, if_neg h]
theorem asks_kids {nl nt : Int} {cn : List Int} {k n a : Int} {ls : List Level} {ks us : List Term} : asksM nl nt cn (.mk k n a ls ks) = asksM nl nt cn (.mk k n a ls us) := rfl
theorem asks_var {nl nt : Int} {cn : List Int} {t : Term} (h : t.kind = 1) : asksM nl nt cn t = (varB nt t, 0) := by unfold asksM; rw [if_pos h]
theorem varB_iff {nt : Int} {t : Term} : varB nt t = true ↔ 0 ≤ t.num ∧ t.num < nt ∧ t.at_ = 0 ∧ t.levels.length = 0 := by
  simp only [varB, Bool.and_eq_true, decide_eq_true_eq]; omega

theorem right_iff {nl : Int} {cn : List Int} {nt : Int} {t : Term} : rightM nl cn nt t = true ↔ (asksM nl nt cn t).1 = true ∧ (t.kids.length : Int) = (asksM nl nt cn t).2 ∧ rightsM nl cn nt t.kind 0 t.kids = true := by
  rw [rightM_eq]; simp [and_assoc]

section
variable {nl : Int} {cn : List Int}
mutual
theorem right_mono : ∀ (t : Term) (nt nu : Int), nt ≤ nu → rightM nl cn nt t = true → rightM nl cn nu t = true
  | .mk k n a ls ks, nt, nu, h, hr => by
    rw [rightM, Bool.and_eq_true, Bool.and_eq_true] at hr ⊢
    by_cases hk : k = 1
    · have e1 := asks_var (nl := nl) (nt := nt) (cn := cn) (t := .mk k n a ls ks) hk
      have e2 := asks_var (nl := nl) (nt := nu) (cn := cn) (t := .mk k n a ls ks) hk
      rw [e1] at hr
      rw [e2]
      have h1 := varB_iff.1 hr.1.1
      exact ⟨⟨varB_iff.2 ⟨h1.1, by have := h1.2.1; omega, h1.2.2⟩, hr.1.2⟩, rights_mono ks k 0 nt nu h hr.2⟩
    · rw [asks_nt (nl := nl) (nt := nu) (nu := nt) (cn := cn) (t := .mk k n a ls ks) hk]
      exact ⟨hr.1, rights_mono ks k 0 nt nu h hr.2⟩
theorem rights_mono : ∀ (ts : List Term) (k i : Int) (nt nu : Int), nt ≤ nu → rightsM nl cn nt k i ts = true → rightsM nl cn nu k i ts = true
  | [], _, _, _, _, _, _ => by simp [rightsM]
  | t :: ts, k, i, nt, nu, h, hr => by
    rw [rightsM, Bool.and_eq_true] at hr ⊢
    refine ⟨right_mono t _ _ ?_ hr.1, rights_mono ts k (i + 1) nt nu h hr.2⟩
    cases binds k i with
    | true => simp only [cond_true]; omega
    | false => exact h
end

mutual
theorem lift_right' (n f : Int) (h0 : 0 ≤ n) : ∀ (t : Term) (b nt : Int), nt + n + t.sz ≤ 4611686018427387904 → rightM nl cn nt t = true → rightM nl cn (nt + n) (walkM (liftG n f) no b t) = true
  | .mk k num a ls ks, b, nt, hb, hr => by
    rw [walkM]
    simp only [no, cond_false]
    rw [rightM, Bool.and_eq_true, Bool.and_eq_true] at hr
    have hks := lifts_right' n f h0 ks b k 0 nt (by simp only [Term.sz] at hb; omega) hr.2
    by_cases hk : k = 1
    · rw [asks_var (t := .mk k num a ls ks) hk] at hr
      have h1 := varB_iff.1 hr.1.1
      simp only [Term.num, Term.at_, Term.levels] at h1
      have hg : ∃ m, (liftG n f b (.mk k num a ls ks)) = .mk k m a ls ks ∧ 0 ≤ m ∧ m < nt + n := by
        unfold liftG
        split
        · refine ⟨w64 (num + n), rfl, ?_, ?_⟩ <;> rw [w64_id (by omega) (by simp only [Term.sz] at hb; omega)] <;> omega
        · exact ⟨num, rfl, h1.1, by omega⟩
      obtain ⟨m, hm, m0, m1⟩ := hg
      rw [hm]
      simp only [Term.kind, Term.num, Term.at_, Term.levels]
      rw [rightM, asks_var (t := .mk k m a ls _) hk, Bool.and_eq_true, Bool.and_eq_true]
      refine ⟨⟨varB_iff.2 ⟨m0, m1, h1.2.2⟩, ?_⟩, hks⟩
      rw [walkMs_length]; exact hr.1.2
    · have hg : liftG n f b (.mk k num a ls ks) = .mk k num a ls ks := by
        unfold liftG; rw [if_neg (fun e => hk e.1)]
      rw [hg]
      simp only [Term.kind, Term.num, Term.at_, Term.levels]
      rw [rightM, asks_nt (nl := nl) (nt := nt + n) (nu := nt) (cn := cn) (t := .mk k num a ls _) hk, asks_kids (us := ks), Bool.and_eq_true, Bool.and_eq_true, walkMs_length]
      exact ⟨hr.1, hks⟩
theorem lifts_right' (n f : Int) (h0 : 0 ≤ n) : ∀ (ts : List Term) (b k : Int) (i : Nat) (nt : Int), nt + n + 1 + Term.szs ts ≤ 4611686018427387904 → rightsM nl cn nt k i ts = true → rightsM nl cn (nt + n) k i (walkMs (liftG n f) no b k i ts) = true
  | [], _, _, _, _, _, _ => by simp [walkMs, rightsM]
  | t :: ts, b, k, i, nt, hb, hr => by
    rw [rightsM, Bool.and_eq_true] at hr
    rw [walkMs, rightsM, Bool.and_eq_true]
    simp only [Term.szs] at hb
    have h2 := lifts_right' n f h0 ts b k (i + 1) nt (by omega) (by rw [show ((i + 1 : Nat) : Int) = (i : Int) + 1 by push_cast; rfl]; exact hr.2)
    refine ⟨?_, by rw [show ((i + 1 : Nat) : Int) = (i : Int) + 1 by push_cast; rfl] at h2; exact h2⟩
    cases hbi : binds k i with
    | true =>
      rw [hbi] at hr
      have := lift_right' n f h0 t (b + 1) (nt + 1) (by omega) hr.1
      rw [show nt + 1 + n = nt + n + 1 by omega] at this
      exact this
    | false =>
      rw [hbi] at hr
      exact lift_right' n f h0 t b nt (by omega) hr.1
end
theorem lift_right {t : Term} {n f nt : Int} (h0 : 0 ≤ n) (hb : nt + n + t.sz ≤ 4611686018427387904) (h : rightM nl cn nt t = true) : rightM nl cn (nt + n) (lift t n f) = true := lift_right' n f h0 t 0 nt hb h

mutual
theorem put_right' {x : Term} {nt : Int} (hn : 0 ≤ nt) (hx : rightM nl cn nt x = true) : ∀ (t : Term) (b : Int), 0 ≤ b → nt + b + t.sz + x.sz ≤ 4611686018427387904 → rightM nl cn (nt + 1 + b) t = true → rightM nl cn (nt + b) (walkM (putG [x]) (putHit [x]) b t) = true
  | .mk k num a ls ks, b, h0, hb, hr => by
    rw [walkM]
    cases hh : putHit [x] b (.mk k num a ls ks) with
    | true =>
      rw [cond_true, putG_hit hh]
      exact lift_right h0 (by simp only [Term.sz] at hb; omega) hx
    | false =>
      rw [cond_false, putG_num hh]
      rw [rightM, Bool.and_eq_true, Bool.and_eq_true] at hr
      have hks := puts_right' hn hx ks b k 0 h0 (by simp only [Term.sz] at hb; omega) hr.2
      by_cases hk : k = 1
      · rw [asks_var (t := .mk k num a ls ks) hk] at hr
        have h1 := varB_iff.1 hr.1.1
        simp only [Term.num, Term.at_, Term.levels] at h1
        have hne : ¬ num = b := fun e => by rw [(putHit1 x b (.mk k num a ls ks)).2 ⟨hk, e⟩] at hh; cases hh
        have hg : ∃ m, (if (Term.mk k num a ls ks).kind = 1 ∧ b ≤ (Term.mk k num a ls ks).num then Term.mk (Term.mk k num a ls ks).kind ((Term.mk k num a ls ks).num - 1) (Term.mk k num a ls ks).at_ (Term.mk k num a ls ks).levels (Term.mk k num a ls ks).kids else .mk k num a ls ks) = .mk k m a ls ks ∧ 0 ≤ m ∧ m < nt + b := by
          by_cases hbn : b ≤ num
          · exact ⟨num - 1, if_pos ⟨hk, hbn⟩, by omega, by omega⟩
          · exact ⟨num, if_neg (fun e => hbn e.2), h1.1, by omega⟩
        obtain ⟨m, hm, m0, m1⟩ := hg
        rw [hm]
        simp only [Term.kind, Term.num, Term.at_, Term.levels]
        rw [rightM, asks_var (t := .mk k m a ls _) hk, Bool.and_eq_true, Bool.and_eq_true]
        refine ⟨⟨varB_iff.2 ⟨m0, m1, h1.2.2⟩, ?_⟩, hks⟩
        rw [walkMs_length]; exact hr.1.2
      · rw [if_neg (fun e => hk e.1)]
        simp only [Term.kind, Term.num, Term.at_, Term.levels]
        rw [rightM, asks_nt (nl := nl) (nt := nt + b) (nu := nt + 1 + b) (cn := cn) (t := .mk k num a ls _) hk, asks_kids (us := ks), Bool.and_eq_true, Bool.and_eq_true, walkMs_length]
        exact ⟨hr.1, hks⟩
theorem puts_right' {x : Term} {nt : Int} (hn : 0 ≤ nt) (hx : rightM nl cn nt x = true) : ∀ (ts : List Term) (b k : Int) (i : Nat), 0 ≤ b → nt + b + 1 + Term.szs ts + x.sz ≤ 4611686018427387904 → rightsM nl cn (nt + 1 + b) k i ts = true → rightsM nl cn (nt + b) k i (walkMs (putG [x]) (putHit [x]) b k i ts) = true
  | [], _, _, _, _, _, _ => by simp [walkMs, rightsM]
  | t :: ts, b, k, i, h0, hb, hr => by
    rw [rightsM, Bool.and_eq_true] at hr
    rw [walkMs, rightsM, Bool.and_eq_true]
    simp only [Term.szs] at hb
    have h2 := puts_right' hn hx ts b k (i + 1) h0 (by omega) (by rw [show ((i + 1 : Nat) : Int) = (i : Int) + 1 by push_cast; rfl]; exact hr.2)
    refine ⟨?_, by rw [show ((i + 1 : Nat) : Int) = (i : Int) + 1 by push_cast; rfl] at h2; exact h2⟩
    cases hbi : binds k i with
    | true =>
      rw [hbi] at hr
      have := put_right' hn hx t (b + 1) (by omega) (by omega) (by rw [show nt + 1 + (b + 1) = nt + 1 + b + 1 by omega]; exact hr.1)
      rw [show nt + (b + 1) = nt + b + 1 by omega] at this
      exact this
    | false =>
      rw [hbi] at hr
      exact put_right' hn hx t b h0 (by omega) hr.1
end
theorem put_right {t x : Term} {nt : Int} (hn : 0 ≤ nt) (hb : nt + t.sz + x.sz ≤ 4611686018427387904) (hx : rightM nl cn nt x = true) (h : rightM nl cn (nt + 1) t = true) : rightM nl cn nt (put t [x]) = true := by
  have := put_right' hn hx t 0 (Int.le_refl _) (by omega) (by rw [Int.add_zero]; exact h)
  rwa [Int.add_zero] at this

theorem kid_right {t : Term} {nt : Int} (h : rightM nl cn nt t = true) {i : Int} (h0 : 0 ≤ i) (h1 : i < t.kids.length) : rightM nl cn (bif binds t.kind i then nt + 1 else nt) (kid t i) = true := by
  have hr := (right_iff.1 h).2.2
  unfold kid
  rw [if_neg (by omega)]
  cases e : rightM nl cn (bif binds t.kind i then nt + 1 else nt) (t.kids.getD i.toNat default) with
  | true => rfl
  | false =>
    have := rights_fall (nl := nl) (cn := cn) (nt := nt) (k := t.kind) (ts := t.kids) (i := i.toNat) (by omega) (by rw [show ((i.toNat : Nat) : Int) = i by omega]; exact e)
    rw [this] at hr; cases hr
end
end Sp

/- Levels put into levels stay right. -/
set_option linter.unusedVariables false
set_option linter.unusedSimpArgs false
namespace Sp
open Go

/-- parts within bounds -/
def PB (n P : Int) (ps : List Part) : Prop := ∀ p ∈ ps, 0 ≤ p.v ∧ p.v ≤ n ∧ 0 ≤ p.p ∧ p.p ≤ P
def RB (n P : Int) (rows : Rows) : Prop := RowsOk rows ∧ ∀ e ∈ rows, e.1 ≤ n ∧ 0 ≤ e.2 ∧ e.2 ≤ P
theorem rget_bd {n P : Int} {rows : Rows} (hP : 0 ≤ P) (h : RB n P rows) (z : Int) : 0 ≤ rget rows z ∧ rget rows z ≤ P := by
  unfold rget
  cases rpos rows z with
  | none => exact ⟨Int.le_refl _, hP⟩
  | some j =>
    simp only
    cases hj : rows[j]? with
    | none => simpa using hP
    | some r =>
      have := h.2 r (List.mem_of_getElem? hj)
      simpa using this.2
theorem rset_mem {rows : Rows} {z p : Int} {e : Int × Int} (h : e ∈ rset rows z p) : e ∈ rows ∨ e = (z, p) := by
  unfold rset at h
  cases hp : rpos rows z with
  | none => rw [hp] at h; simpa using h
  | some j =>
    rw [hp] at h
    exact List.mem_or_eq_of_mem_set h
theorem rowPut_bd {n P : Int} (hn : n ≤ 8) (hP : 0 ≤ P ∧ P ≤ 1000) : ∀ (ps : List Part) (rows : Rows), PB n P ps → RB n P rows → ∃ r, rowPut rows ps = some r ∧ RB n P r
  | [], rows, _, h => ⟨rows, rfl, h⟩
  | p :: ps, rows, hp, h => by
    have h1 := hp p (by simp)
    have hb : ¬ badPart p := by unfold badPart; omega
    rw [rowPut, if_neg hb]
    refine rowPut_bd hn hP ps _ (fun q hq => hp q (by simp [hq])) ⟨h.1.set (by omega), fun e he => ?_⟩
    rcases rset_mem he with he | rfl
    · exact h.2 e he
    · have := rget_bd hP.1 h p.v
      simp only
      omega
theorem RB.nil (n P : Int) : RB n P [] := ⟨RowsOk.nil, fun e h => by cases h⟩

theorem strict_of : ∀ (l : Level), (l.map (·.v)).Pairwise (· < ·) → strictM l = true
  | [], _ => rfl
  | [p], _ => rfl
  | p :: q :: r, h => by
    rw [List.map_cons, List.map_cons, List.pairwise_cons] at h
    rw [strictM, Bool.and_eq_true]
    refine ⟨decide_eq_true (h.1 q.v (by simp)), strict_of (q :: r) ?_⟩
    rw [List.map_cons]; exact h.2
theorem partOf_some {rows : Rows} {v : Int} {q : Part} (h : partOf rows v = some q) : q.v = v ∧ q.p = rget rows v := by
  unfold partOf at h
  split at h
  · cases h; exact ⟨rfl, rfl⟩
  · cases h
theorem keys_strict {rows : Rows} (h : RowsOk rows) : (keysM rows).Pairwise (· < ·) := by
  have hs : (keysM rows).Pairwise (fun x y => decide (x ≤ y) = true) := List.pairwise_mergeSort (by simp; omega) (by simp; omega) _
  have hd : (keysM rows).Pairwise (· ≠ ·) := by
    have hp : (keysM rows).Perm (rows.map (·.1)) := List.mergeSort_perm _ _
    exact (hp.nodup_iff).2 h.1
  refine (hs.and hd).imp ?_
  rintro a b ⟨h1, h2⟩
  simp at h1
  omega
theorem keys_mem {rows : Rows} {z : Int} (h : z ∈ keysM rows) : ∃ e ∈ rows, e.1 = z := by
  have hp : (keysM rows).Perm (rows.map (·.1)) := List.mergeSort_perm _ _
  obtain ⟨e, he, hz⟩ := List.mem_map.1 (hp.mem_iff.1 h)
  exact ⟨e, he, hz⟩
theorem levelM_bd {n P : Int} {rows : Rows} (hn : n ≤ 8) (hP : 0 ≤ P) (h : RB n P rows) : strictM (levelM rows) = true ∧ (levelM rows).length ≤ 9 ∧ PB n P (levelM rows) := by
  refine ⟨strict_of _ ?_, ?_, fun q hq => ?_⟩
  · unfold levelM
    rw [List.pairwise_map]
    refine List.Pairwise.filterMap (f := partOf rows) (R := (· < ·)) (fun a b hab q hq r hr => ?_) (keys_strict h.1)
    have h1 := partOf_some hq
    have h2 := partOf_some hr
    rw [h1.1, h2.1]; exact hab
  · refine Nat.le_trans (levelM_len rows) ?_
    have h1 : ((rows.map (·.1)).map Int.toNat).Nodup := by
      rw [List.Nodup, List.pairwise_map]
      refine List.Pairwise.imp_of_mem ?_ h.1.1
      intro a b ha hb hne e
      obtain ⟨x, hx, rfl⟩ := List.mem_map.1 ha
      obtain ⟨y, hy, rfl⟩ := List.mem_map.1 hb
      have := h.1.2 x hx; have := h.1.2 y hy
      exact hne (by omega)
    have := nodup_lt_length (n := 9) h1 (fun i hi => by
      obtain ⟨z, hz, rfl⟩ := List.mem_map.1 hi
      obtain ⟨x, hx, rfl⟩ := List.mem_map.1 hz
      have h3 := h.1.2 x hx; have h4 := h.2 x hx; omega)
    simpa using this
  · obtain ⟨z, hz, hq⟩ := List.mem_filterMap.1 hq
    obtain ⟨e, he, rfl⟩ := keys_mem hz
    have h1 := partOf_some hq
    have h2 := rget_bd hP h e.1
    have h3 := h.1.2 e he
    have h4 := h.2 e he
    rw [h1.1, h1.2]
    exact ⟨h3.1, h4.1, h2⟩
theorem norm_bd {n P : Int} (hn : n ≤ 8) (hP : 0 ≤ P ∧ P ≤ 1000) {ps : List Part} (h : PB n P ps) : strictM (ofRows (rowPut [] ps)) = true ∧ (ofRows (rowPut [] ps)).length ≤ 9 ∧ PB n P (ofRows (rowPut [] ps)) := by
  obtain ⟨r, e, hr⟩ := rowPut_bd hn hP ps [] h (RB.nil n P)
  rw [e]
  exact levelM_bd hn hP.1 hr

theorem lvRight_iff {n : Int} {l : Level} : lvRight n l = true ↔ strictM l = true ∧ l.length ≤ 9 ∧ PB n 1000 l := by
  simp only [lvRight, Bool.and_eq_true, decide_eq_true_eq, Bool.not_eq_true', List.any_eq_false, badP, Bool.or_eq_true, not_or, PB, and_assoc]
  constructor
  · rintro ⟨a, b, c⟩
    exact ⟨a, b, fun p hp => by have := c p hp; omega⟩
  · rintro ⟨a, b, c⟩
    exact ⟨a, b, fun p hp => by have := c p hp; omega⟩
def lowL (l : Level) : Bool := l.all fun p => decide (p.p ≤ 400)
theorem low_bd {n : Int} {l : Level} (h : lvRight n l = true) (hl : lowL l = true) : PB n 400 l := fun p hp => by
  have h1 := (lvRight_iff.1 h).2.2 p hp
  have h2 := List.all_eq_true.1 hl p hp
  simp only [decide_eq_true_eq] at h2
  omega
theorem levelPut_right {nb nl : Int} (h00 : 0 ≤ nl) {l : Level} {by_ : List Level} (hnb : nb ≤ 8) (hnl : nl ≤ 8) (h : PB nb 400 l) (hb : ∀ x ∈ by_, PB nl 400 x) : lvRight nl (levelPutM l by_) = true := by
  have h0 : 0 ≤ nl ∨ nl < 0 := by omega
  have hN := (norm_bd hnb (by omega) h).2.2
  have hp : PB nl 800 (putParts l by_) ∨ nl < 0 := by
    rcases h0 with h0 | h0
    · left
      intro p hp
      obtain ⟨q, hq, hp⟩ := List.mem_flatMap.1 hp
      obtain ⟨x, hx, rfl⟩ := List.mem_map.1 hp
      have h1 := hN q hq
      have hxb : 0 ≤ x.v ∧ x.v ≤ nl ∧ 0 ≤ x.p ∧ x.p ≤ 400 := by
        unfold xOf1 at hx
        split at hx
        · rw [List.mem_singleton.1 hx]; simp only; omega
        · unfold xOf at hx
          split at hx
          · rename_i hv
            exact (norm_bd hnl (by omega) (hb _ (getD_mem (by omega)))).2.2 x hx
          · cases hx
      simp only [shiftP]
      rw [w64_id (by omega) (by omega)]
      omega
    · right; exact h0
  rcases hp with hp | hneg
  · have := norm_bd hnl (by omega) hp
    exact lvRight_iff.2 ⟨this.1, this.2.1, fun p hq => by have := this.2.2 p hq; omega⟩
  · -- no variable is below 0: every level among by_ is empty; not asked
    exact absurd hneg (by omega)
end Sp

/- What is right in the core is so behind each step. -/
set_option linter.unusedVariables false
set_option linter.unusedSimpArgs false
set_option maxRecDepth 20000
namespace Sp
open Go

mutual
def lowT : Term → Bool
  | .mk k n a ls ks => ls.all lowL && lowTs ks
def lowTs : List Term → Bool
  | [] => true
  | t :: ts => lowT t && lowTs ts
end
theorem lowT_eq (t : Term) : lowT t = (t.levels.all lowL && lowTs t.kids) := by cases t; rw [lowT]; rfl
theorem lowTs_iff : ∀ {ts : List Term}, lowTs ts = true ↔ ∀ t ∈ ts, lowT t = true
  | [] => by simp [lowTs]
  | t :: ts => by rw [lowTs, Bool.and_eq_true, lowTs_iff]; simp
theorem lowT_T0 : lowT T0 = true := by simp [T0, lowT, lowTs]
theorem low_kid {t : Term} (h : lowT t = true) (i : Int) : lowT (kid t i) = true := by
  rw [lowT_eq, Bool.and_eq_true] at h
  unfold kid
  split
  · exact lowT_T0
  · exact lowTs_iff.1 h.2 _ (getD_mem (by omega))

def asksF (k : Int) (vB sB cB bB fB eB kB : Bool) (w : Int) : Bool × Int :=
  if k = 1 then (vB, 0) else if k = 2 then (sB, 0) else if k = 3 then (cB, 0)
  else if k = 4 ∨ k = 5 ∨ k = 6 ∨ k = 12 ∨ k = 13 ∨ k = 16 ∨ k = 17 then (bB, 2)
  else if k = 7 ∨ k = 19 then (bB, 3) else if k = 14 ∨ k = 15 then (bB, 1) else if k = 18 then (bB, 5)
  else if k = 20 then (bB, 0) else if k = 21 then (bB, 6) else if k = 22 then (fB, 0) else if k = 23 then (eB, 0)
  else if k = 24 then (kB, w) else (false, 0)
theorem asks_F (nl nt : Int) (cn : List Int) (t : Term) : asksM nl nt cn t = asksF t.kind (varB nt t) (sortB nl t) (constB nl cn t) (bareB t) (finB t) (elemB t) (casB t) (w64 (t.at_ + 2)) := rfl
theorem asksF_mono {k w : Int} {vB sB cB bB fB eB kB vC sC cC bC fC eC kC : Bool} (h1 : vB = true → vC = true) (h2 : sB = true → sC = true) (h3 : cB = true → cC = true) (h4 : bB = true → bC = true) (h5 : fB = true → fC = true) (h6 : eB = true → eC = true) (h7 : kB = true → kC = true)
    (h : (asksF k vB sB cB bB fB eB kB w).1 = true) : asksF k vC sC cC bC fC eC kC w = (true, (asksF k vB sB cB bB fB eB kB w).2) := by
  unfold asksF at h ⊢
  by_cases c1 : k = 1
  · rw [if_pos c1] at h ⊢; rw [if_pos c1, h1 h]
  rw [if_neg c1] at h ⊢; rw [if_neg c1]
  by_cases c2 : k = 2
  · rw [if_pos c2] at h ⊢; rw [if_pos c2, h2 h]
  rw [if_neg c2] at h ⊢; rw [if_neg c2]
  by_cases c3 : k = 3
  · rw [if_pos c3] at h ⊢; rw [if_pos c3, h3 h]
  rw [if_neg c3] at h ⊢; rw [if_neg c3]
  by_cases c4 : k = 4 ∨ k = 5 ∨ k = 6 ∨ k = 12 ∨ k = 13 ∨ k = 16 ∨ k = 17
  · rw [if_pos c4] at h ⊢; rw [if_pos c4, h4 h]
  rw [if_neg c4] at h ⊢; rw [if_neg c4]
  by_cases c5 : k = 7 ∨ k = 19
  · rw [if_pos c5] at h ⊢; rw [if_pos c5, h4 h]
  rw [if_neg c5] at h ⊢; rw [if_neg c5]
  by_cases c6 : k = 14 ∨ k = 15
  · rw [if_pos c6] at h ⊢; rw [if_pos c6, h4 h]
  rw [if_neg c6] at h ⊢; rw [if_neg c6]
  by_cases c7 : k = 18
  · rw [if_pos c7] at h ⊢; rw [if_pos c7, h4 h]
  rw [if_neg c7] at h ⊢; rw [if_neg c7]
  by_cases c8 : k = 20
  · rw [if_pos c8] at h ⊢; rw [if_pos c8, h4 h]
  rw [if_neg c8] at h ⊢; rw [if_neg c8]
  by_cases c9 : k = 21
  · rw [if_pos c9] at h ⊢; rw [if_pos c9, h4 h]
  rw [if_neg c9] at h ⊢; rw [if_neg c9]
  by_cases c10 : k = 22
  · rw [if_pos c10] at h ⊢; rw [if_pos c10, h5 h]
  rw [if_neg c10] at h ⊢; rw [if_neg c10]
  by_cases c11 : k = 23
  · rw [if_pos c11] at h ⊢; rw [if_pos c11, h6 h]
  rw [if_neg c11] at h ⊢; rw [if_neg c11]
  by_cases c12 : k = 24
  · rw [if_pos c12] at h ⊢; rw [if_pos c12, h7 h]
  rw [if_neg c12] at h; cases h

section
variable {cn : List Int}
theorem asks_levels {nb nl nt k n a : Int} {ls : List Level} {ks us : List Term} {by_ : List Level} (h0 : 0 ≤ nl) (hnb : nb ≤ 8) (hnl : nl ≤ 8) (hb : ∀ x ∈ by_, PB nl 400 x) (hl : ls.all lowL = true)
    (h : (asksM nb nt cn (.mk k n a ls ks)).1 = true) : asksM nl nt cn (.mk k n a (ls.map fun l => levelPutM l by_) us) = (true, (asksM nb nt cn (.mk k n a ls ks)).2) := by
  have hlen : (ls.map fun l => levelPutM l by_).length = ls.length := List.length_map _
  have hall : ls.all (lvRight nb) = true → (ls.map fun l => levelPutM l by_).all (lvRight nl) = true := fun e => by
    rw [List.all_eq_true]
    intro x hx
    obtain ⟨l, hm, rfl⟩ := List.mem_map.1 hx
    exact levelPut_right h0 hnb hnl (low_bd (List.all_eq_true.1 e l hm) (List.all_eq_true.1 hl l hm)) hb
  rw [asks_F] at h ⊢
  refine asksF_mono ?_ ?_ ?_ ?_ ?_ ?_ ?_ h
  · simp only [varB, Term.num, Term.at_, Term.levels, hlen]; exact fun e => e
  · simp only [sortB, Term.num, Term.at_, Term.levels, hlen, Bool.and_eq_true]; exact fun e => ⟨e.1, hall e.2⟩
  · simp only [constB, Term.num, Term.at_, Term.levels, hlen, Bool.and_eq_true]; exact fun e => ⟨e.1, hall e.2⟩
  · simp only [bareB, Term.num, Term.at_, Term.levels, hlen]; exact fun e => e
  · simp only [finB, Term.num, Term.at_, Term.levels, hlen]; exact fun e => e
  · simp only [elemB, Term.num, Term.at_, Term.levels, hlen]; exact fun e => e
  · simp only [casB, Term.num, Term.at_, Term.levels, hlen]; exact fun e => e

mutual
theorem levels_right' {nb nl : Int} {by_ : List Level} (h0 : 0 ≤ nl) (hnb : nb ≤ 8) (hnl : nl ≤ 8) (hb : ∀ x ∈ by_, PB nl 400 x) : ∀ (t : Term) (b nt : Int), lowT t = true → rightM nb cn nt t = true → rightM nl cn nt (walkM (levelsG by_) no b t) = true
  | .mk k n a ls ks, b, nt, hl, hr => by
    rw [walkM]
    simp only [no, cond_false]
    rw [lowT, Bool.and_eq_true] at hl
    rw [rightM, Bool.and_eq_true, Bool.and_eq_true] at hr
    have hks := levelss_right' h0 hnb hnl hb ks b k 0 nt hl.2 hr.2
    have ha := asks_levels (us := walkMs (levelsG by_) no b k 0 ks) h0 hnb hnl hb hl.1 hr.1.1
    show rightM nl cn nt (.mk k n a (ls.map fun l => levelPutM l by_) (walkMs (levelsG by_) no b k 0 ks)) = true
    rw [rightM, ha, Bool.and_eq_true, Bool.and_eq_true, walkMs_length]
    exact ⟨⟨rfl, hr.1.2⟩, hks⟩
theorem levelss_right' {nb nl : Int} {by_ : List Level} (h0 : 0 ≤ nl) (hnb : nb ≤ 8) (hnl : nl ≤ 8) (hb : ∀ x ∈ by_, PB nl 400 x) : ∀ (ts : List Term) (b k : Int) (i : Nat) (nt : Int), lowTs ts = true → rightsM nb cn nt k i ts = true → rightsM nl cn nt k i (walkMs (levelsG by_) no b k i ts) = true
  | [], _, _, _, _, _, _ => by simp [walkMs, rightsM]
  | t :: ts, b, k, i, nt, hl, hr => by
    rw [lowTs, Bool.and_eq_true] at hl
    rw [rightsM, Bool.and_eq_true] at hr
    rw [walkMs, rightsM, Bool.and_eq_true]
    have h2 := levelss_right' h0 hnb hnl hb ts b k (i + 1) nt hl.2 (by rw [show ((i + 1 : Nat) : Int) = (i : Int) + 1 by push_cast; rfl]; exact hr.2)
    exact ⟨levels_right' h0 hnb hnl hb t _ _ hl.1 hr.1, by rw [show ((i + 1 : Nat) : Int) = (i : Int) + 1 by push_cast; rfl] at h2; exact h2⟩
end

/-! ### One step -/

variable {nl nt : Int}
theorem kidR {t : Term} (h : rightM nl cn nt t = true) {i : Int} (hb : binds t.kind i = false) (h0 : 0 ≤ i) (h1 : i < t.kids.length) : rightM nl cn nt (kid t i) = true := by
  have := kid_right h h0 h1; rwa [hb] at this
theorem kidB {t : Term} (h : rightM nl cn nt t = true) {i : Int} (hb : binds t.kind i = true) (h0 : 0 ≤ i) (h1 : i < t.kids.length) : rightM nl cn (nt + 1) (kid t i) = true := by
  have := kid_right h h0 h1; rwa [hb] at this
theorem lenR {t : Term} (h : rightM nl cn nt t = true) {m : Int} (hm : (asksM nl nt cn t).2 = m) : (t.kids.length : Int) = m := by
  rw [← hm]; exact (right_iff.1 h).2.1
theorem rights_of {k : Int} : ∀ (ts : List Term) (z : Int), (∀ i : Nat, i < ts.length → rightM nl cn (bif binds k (z + i) then nt + 1 else nt) (ts.getD i default) = true) → rightsM nl cn nt k z ts = true
  | [], z, _ => by simp [rightsM]
  | t :: ts, z, h => by
    rw [rightsM, Bool.and_eq_true]
    refine ⟨by have := h 0 (by simp); simpa using this, rights_of ts (z + 1) (fun i hi => ?_)⟩
    have := h (i + 1) (by simpa using hi)
    rw [List.getD_cons_succ, show z + ((i + 1 : Nat) : Int) = z + 1 + (i : Int) by push_cast; omega] at this
    exact this
theorem app_right {x y : Term} (hx : rightM nl cn nt x = true) (hy : rightM nl cn nt y = true) : rightM nl cn nt (.mk 6 0 0 [] [x, y]) = true := by
  rw [rightM, rightsM, rightsM, rightsM]
  have b0 : binds 6 0 = false := by rfl
  have b1 : binds 6 (0 + 1) = false := by rfl
  rw [b0, b1, cond_false, hx, hy]; rfl
theorem lam_right {x y : Term} (hx : rightM nl cn nt x = true) (hy : rightM nl cn (nt + 1) y = true) : rightM nl cn nt (.mk 5 0 0 [] [x, y]) = true := by
  rw [rightM, rightsM, rightsM, rightsM]
  have b0 : binds 5 0 = false := by rfl
  have b1 : binds 5 (0 + 1) = true := by rfl
  rw [b0, b1, cond_false, cond_true, hx, hy]; rfl
theorem rec_right {a b p s x : Term} (ha : rightM nl cn nt a = true) (hb : rightM nl cn (nt + 1) b = true) (hp : rightM nl cn nt p = true) (hs : rightM nl cn nt s = true) (hx : rightM nl cn nt x = true) : rightM nl cn nt (.mk 18 0 0 [] [a, b, p, s, x]) = true := by
  rw [rightM, rightsM, rightsM, rightsM, rightsM, rightsM, rightsM]
  have b0 : binds 18 0 = false := by rfl
  have b1 : binds 18 (0 + 1) = true := by rfl
  have b2 : binds 18 (0 + 1 + 1) = false := by rfl
  have b3 : binds 18 (0 + 1 + 1 + 1) = false := by rfl
  have b4 : binds 18 (0 + 1 + 1 + 1 + 1) = false := by rfl
  rw [b0, b1, b2, b3, b4, cond_false, cond_true, ha, hb, hp, hs, hx]; rfl
theorem v0_right (h : 0 ≤ nt) : rightM nl cn (nt + 1) (.mk 1 0 0 [] []) = true := by
  rw [rightM, rightsM, asks_var (t := .mk 1 0 0 [] []) rfl, Bool.and_true, Bool.and_eq_true]
  exact ⟨varB_iff.2 ⟨Int.le_refl _, by simp only [Term.num]; omega, rfl, rfl⟩, rfl⟩
end
end Sp

/- What is right in the core is so behind each step: the step. -/
set_option linter.unusedVariables false
set_option linter.unusedSimpArgs false
set_option maxRecDepth 20000
namespace Sp
open Go

def CoresR (cs : List Core) (cn : List Int) : Prop := cn = cs.map (·.levels) ∧ ∀ c ∈ cs, 0 ≤ c.levels ∧ c.levels ≤ 8 ∧ (c.has = true → rightM c.levels cn 0 c.body = true) ∧ lowT c.body = true

section
variable {cs : List Core} {cn : List Int} {nl nt : Int}
theorem asks_at {t : Term} {k : Int} (hk : t.kind = k) : asksM nl nt cn t = asksF k (varB nt t) (sortB nl t) (constB nl cn t) (bareB t) (finB t) (elemB t) (casB t) (w64 (t.at_ + 2)) := by
  subst hk; rfl
theorem len_at {t : Term} {k m : Int} (h : rightM nl cn nt t = true) (hk : t.kind = k) (hm : ∀ vB sB cB bB fB eB kB w, (asksF k vB sB cB bB fB eB kB w).2 = m) : (t.kids.length : Int) = m :=
  lenR h (by rw [asks_at hk]; exact hm _ _ _ _ _ _ _ _)
theorem body_right (hc : CoresR cs cn) (h0 : 0 ≤ nl) (hnl : nl ≤ 8) (hnt : 0 ≤ nt) {num : Int} {ls : List Level} (hb : (bodyM cs num ls).2 = true) (hls : ls.all (lvRight nl) = true) (hlow : ls.all lowL = true) : rightM nl cn nt (bodyM cs num ls).1 = true := by
  unfold bodyM at hb ⊢
  split at hb
  · rename_i hx
    rw [if_pos hx]
    unfold coreAtM at hx ⊢
    split at hx
    · rename_i hn
      rw [if_pos hn]
      have hm := hc.2 _ (getD_mem (l := cs) (i := num.toNat) (by omega))
      have hr := hm.2.2.1 hx.2
      refine right_mono _ 0 nt hnt ?_
      exact levels_right' h0 hm.2.1 hnl (fun x hx => low_bd (List.all_eq_true.1 hls x hx) (List.all_eq_true.1 hlow x hx)) _ 0 0 hm.2.2.2 hr
    · simp [C0] at hx
  · cases hb

theorem own_right (hc : CoresR cs cn) (h0 : 0 ≤ nl) (hnl : nl ≤ 8) (hnt : 0 ≤ nt) (hnt2 : nt ≤ 1099511627776) {t : Term} (hs : t.sz ≤ 1099511627776) (hlen : t.kids.length ≤ 1099511627776) (hr : rightM nl cn nt t = true) (hlow : lowT t = true) {u : Term} {c : Int} (h : ownStep cs t = some (u, c)) : rightM nl cn nt u = true := by
  have hk1 := fun k => kid_sz t k
  have put_ok : ∀ {a x : Term}, a.sz ≤ 1099511627776 → x.sz ≤ 1099511627776 → rightM nl cn (nt + 1) a = true → rightM nl cn nt x = true → rightM nl cn nt (put a [x]) = true := fun ha hx h1 h2 => put_right hnt (by omega) h2 h1
  unfold ownStep at h
  by_cases k6 : t.kind = 6
  · rw [if_pos k6] at h
    have hl := len_at (m := 2) hr k6 (fun _ _ _ _ _ _ _ _ => rfl)
    have hsp : spotM t = (0, 2, true) := by rw [spotM_of, k6]; rfl
    have hp : place t = kid t 0 := by rw [place, hsp]; rfl
    have r0 := kidR hr (i := 0) (by rw [k6]; rfl) (by omega) (by omega)
    have r1 := kidR hr (i := 1) (by rw [k6]; rfl) (by omega) (by omega)
    rw [hp] at h
    split at h
    · rename_i k5
      cases h
      have hl5 := len_at (m := 2) r0 k5 (fun _ _ _ _ _ _ _ _ => rfl)
      have r2 := kidB r0 (i := 1) (by rw [k5]; rfl) (by omega) (by omega)
      exact put_ok (by have := kid_sz (kid t 0) 1; have := hk1 0; omega) (by have := hk1 1; omega) r2 r1
    · cases h
  rw [if_neg k6] at h
  by_cases k14 : t.kind = 14 ∨ t.kind = 15
  · rw [if_pos k14] at h
    have hl : (t.kids.length : Int) = 1 := by
      rcases k14 with k | k
      · exact len_at hr k (fun _ _ _ _ _ _ _ _ => rfl)
      · exact len_at hr k (fun _ _ _ _ _ _ _ _ => rfl)
    have hsp : spotM t = (0, 1, true) := by
      rw [spotM_of]
      rcases k14 with k | k <;> rw [k] <;> rfl
    have hp : place t = kid t 0 := by rw [place, hsp]; rfl
    have r0 : rightM nl cn nt (kid t 0) = true := by
      rcases k14 with k | k
      · exact kidR hr (by rw [k]; rfl) (by omega) (by omega)
      · exact kidR hr (by rw [k]; rfl) (by omega) (by omega)
    rw [hp] at h
    split at h
    · rename_i k13
      cases h
      have hl5 := len_at (m := 2) r0 k13 (fun _ _ _ _ _ _ _ _ => rfl)
      split
      · exact kidR r0 (by rw [k13]; rfl) (by omega) (by omega)
      · exact kidR r0 (by rw [k13]; rfl) (by omega) (by omega)
    · cases h
  rw [if_neg k14] at h
  by_cases k7 : t.kind = 7
  · rw [if_pos k7] at h
    cases h
    have hl := len_at (m := 3) hr k7 (fun _ _ _ _ _ _ _ _ => rfl)
    exact put_ok (by have := hk1 2; omega) (by have := hk1 1; omega) (kidB hr (by rw [k7]; rfl) (by omega) (by omega)) (kidR hr (by rw [k7]; rfl) (by omega) (by omega))
  rw [if_neg k7] at h
  by_cases k3 : t.kind = 3
  · rw [if_pos k3] at h
    split at h
    · rename_i hb
      cases h
      have ha := (right_iff.1 hr).1
      rw [asks_at k3] at ha
      have hcb : constB nl cn t = true := ha
      simp only [constB, Bool.and_eq_true] at hcb
      rw [lowT_eq, Bool.and_eq_true] at hlow
      exact body_right hc h0 hnl hnt hb hcb.2 hlow.1
    · cases h
  rw [if_neg k3] at h
  by_cases k18 : t.kind = 18
  · rw [if_pos k18] at h
    have hl := len_at (m := 5) hr k18 (fun _ _ _ _ _ _ _ _ => rfl)
    have hsp : spotM t = (4, 5, true) := by rw [spotM_of, k18]; rfl
    have hp : place t = kid t 4 := by rw [place, hsp]; rfl
    have r4 := kidR hr (i := 4) (by rw [k18]; rfl) (by omega) (by omega)
    have r0 := kidR hr (i := 0) (by rw [k18]; rfl) (by omega) (by omega)
    have r2 := kidR hr (i := 2) (by rw [k18]; rfl) (by omega) (by omega)
    have r3 := kidR hr (i := 3) (by rw [k18]; rfl) (by omega) (by omega)
    have r1 := kidB hr (i := 1) (by rw [k18]; rfl) (by omega) (by omega)
    rw [hp] at h
    split at h
    · rename_i k17
      cases h
      have hl5 := len_at (m := 2) r4 k17 (fun _ _ _ _ _ _ _ _ => rfl)
      have s0 := kidR r4 (i := 0) (by rw [k17]; rfl) (by omega) (by omega)
      have s1 := kidR r4 (i := 1) (by rw [k17]; rfl) (by omega) (by omega)
      have z0 := kid_sz (kid t 4) 0
      have z1 := kid_sz (kid t 4) 1
      have z4 := hk1 4
      have up : ∀ {x : Term} {f m : Int}, x.sz ≤ 1099511627776 → m ≤ 1099511627777 → rightM nl cn m x = true → rightM nl cn (m + 1) (lift x 1 f) = true := fun hx hm h => lift_right (by omega) (by omega) h
      unfold treeM upM
      refine app_right (app_right (app_right r3 s0) s1) (lam_right (put_ok (by have := hk1 1; omega) (by omega) r1 s0) (rec_right ?_ ?_ ?_ ?_ ?_))
      · exact up (by have := hk1 0; omega) (by omega) r0
      · exact up (by have := hk1 1; omega) (by omega) r1
      · exact up (by have := hk1 2; omega) (by omega) r2
      · exact up (by have := hk1 3; omega) (by omega) r3
      · exact app_right (up (by omega) (by omega) s1) (v0_right hnt)
    · cases h
  rw [if_neg k18] at h
  by_cases k21 : t.kind = 21
  · rw [if_pos k21] at h
    have hl := len_at (m := 6) hr k21 (fun _ _ _ _ _ _ _ _ => rfl)
    split at h
    · cases h
      exact kidR hr (by rw [k21]; rfl) (by omega) (by omega)
    · cases h
  rw [if_neg k21] at h
  by_cases k24 : t.kind = 24
  · rw [if_pos k24] at h
    split at h
    · rename_i hx
      cases h
      have hsr := spot_range hx.1 (by omega)
      have hb : ∀ i : Int, binds t.kind i = false := fun i => by
        rw [k24]
        have : bound 24 = -1 := by rfl
        simp only [binds, this]
        by_cases hi : 0 ≤ i
        · rw [decide_eq_false (show ¬ (-1 : Int) = i by omega), Bool.and_false]
        · rw [decide_eq_false hi, Bool.and_false, Bool.false_and]
      exact kidR hr (hb _) (by omega) (by omega)
    · cases h
  rw [if_neg k24] at h
  cases h

theorem spot_binds {t : Term} (h : (spotM t).2.2 = true) : binds t.kind (spotM t).1 = false := by
  rw [spotM_of] at h ⊢
  unfold spotOf at h ⊢
  by_cases e1 : t.kind = 6
  · rw [if_pos e1, e1]; rfl
  rw [if_neg e1] at h ⊢
  by_cases e2 : t.kind = 14 ∨ t.kind = 15
  · rw [if_pos e2]; rcases e2 with e | e <;> rw [e] <;> rfl
  rw [if_neg e2] at h ⊢
  by_cases e3 : t.kind = 18
  · rw [if_pos e3, e3]; rfl
  rw [if_neg e3] at h ⊢
  by_cases e4 : t.kind = 21
  · rw [if_pos e4, e4]; rfl
  rw [if_neg e4] at h ⊢
  by_cases e5 : t.kind = 24
  · rw [if_pos e5, e5]
    have : bound 24 = -1 := by rfl
    simp only [binds, this]
    by_cases hi : 0 ≤ w64 (t.at_ + 1)
    · rw [decide_eq_false (show ¬ (-1 : Int) = w64 (t.at_ + 1) by omega), Bool.and_false]
    · rw [decide_eq_false hi, Bool.and_false, Bool.false_and]
  · rw [if_neg e5] at h; cases h
theorem spot_len {t : Term} (hr : rightM nl cn nt t = true) (h : (spotM t).2.2 = true) (hl : t.kids.length ≤ 1099511627776) : (spotM t).2.1 = t.kids.length := by
  have hsr := spot_range h (by omega)
  by_cases e1 : t.kind = 6
  · rw [len_at (m := 2) hr e1 (fun _ _ _ _ _ _ _ _ => rfl), spotM_of, e1]; rfl
  by_cases e2 : t.kind = 14
  · rw [len_at (m := 1) hr e2 (fun _ _ _ _ _ _ _ _ => rfl), spotM_of, e2]; rfl
  by_cases e3 : t.kind = 15
  · rw [len_at (m := 1) hr e3 (fun _ _ _ _ _ _ _ _ => rfl), spotM_of, e3]; rfl
  by_cases e4 : t.kind = 18
  · rw [len_at (m := 5) hr e4 (fun _ _ _ _ _ _ _ _ => rfl), spotM_of, e4]; rfl
  by_cases e5 : t.kind = 21
  · rw [len_at (m := 6) hr e5 (fun _ _ _ _ _ _ _ _ => rfl), spotM_of, e5]; rfl
  by_cases e6 : t.kind = 24
  · rcases hsr.2.2 with h2 | h2
    · exact absurd e6 h2.1
    · exact h2.2.1
  · rw [spotM_of] at h
    unfold spotOf at h
    rw [if_neg e1, if_neg (by omega), if_neg e4, if_neg e5, if_neg e6] at h
    cases h

theorem with_right {t x : Term} (hr : rightM nl cn nt t = true) (h : (spotM t).2.2 = true) (hl : t.kids.length ≤ 1099511627776) (hx : rightM nl cn nt x = true) : rightM nl cn nt (withM t x (spotM t).1 (spotM t).2.1) = true := by
  have hsl := spot_len hr h hl
  have h3 := right_iff.1 hr
  have hb := spot_binds h
  have hlen : (withKids t x (spotM t).1 (spotM t).2.1.toNat).length = t.kids.length := by simp [withKids]; omega
  rw [withM, rightM]
  have ha : asksM nl nt cn (.mk t.kind t.num t.at_ t.levels (withKids t x (spotM t).1 (spotM t).2.1.toNat)) = asksM nl nt cn t := rfl
  rw [ha, Bool.and_eq_true, Bool.and_eq_true, hlen]
  refine ⟨⟨h3.1, decide_eq_true h3.2.1⟩, rights_of _ 0 (fun i hi => ?_)⟩
  have hi2 : i < t.kids.length := by omega
  have hg := withKids_get t x (spotM t).1 (spotM t).2.1.toNat i (by omega)
  rw [List.getD_eq_getElem?_getD, hg, Option.getD_some, Int.zero_add]
  split
  · rename_i e
    rw [e, hb]; exact hx
  · exact kid_right hr (by omega) (by omega)
theorem with_low {t x : Term} (ht : lowT t = true) (hx : lowT x = true) (a m : Int) : lowT (withM t x a m) = true := by
  have h := ht
  rw [lowT_eq, Bool.and_eq_true] at h
  rw [lowT_eq, Bool.and_eq_true]
  refine ⟨h.1, lowTs_iff.2 (fun y hy => ?_)⟩
  obtain ⟨i, hi⟩ := List.mem_iff_getElem?.1 hy
  have hy2 : y ∈ withKids t x a m.toNat := hy
  unfold withKids at hy2
  obtain ⟨k, _, rfl⟩ := List.mem_map.1 hy2
  split
  · exact hx
  · exact low_kid ht _

theorem pad_right : ∀ (m : Nat) (t : Term), spz t = m → t.fit 1099511627776 → rightM nl cn nt t = true → lowT t = true → rightM nl cn nt (pad t) = true ∧ lowT (pad t) = true := by
  intro m
  induction m using Nat.strongRecOn with
  | _ m ih =>
    intro t hm hf hr hl
    cases h : (spotM t).2.2 with
    | false => rw [pad_F h]; exact ⟨hr, hl⟩
    | true =>
      have hlen := hf.len
      have hsr := spot_range h (by omega)
      have hsl := spot_len hr h hlen
      have hk := kidR hr (spot_binds h) hsr.1 (by omega)
      have hi := ih _ (by rw [← hm]; exact spz_kid h) _ rfl (kid_fit hf _) hk (low_kid hl _)
      rw [pad_T h]
      exact ⟨with_right hr h hlen hi.1, with_low hl hi.2 _ _⟩

theorem step_right (hc : CoresR cs cn) (h0 : 0 ≤ nl) (hnl : nl ≤ 8) (hnt : 0 ≤ nt) (hnt2 : nt ≤ 1099511627776) : ∀ (m : Nat) (t : Term), spz t = m → t.fit 1099511627776 → 7 * t.sz ≤ 1099511627776 → rightM nl cn nt t = true → lowT t = true → ∀ u c, stepOnce cs t = some (u, c) → rightM nl cn nt u = true := by
  intro m
  induction m using Nat.strongRecOn with
  | _ m ih =>
    intro t hm hf hs hr hl u c h
    have hlen := hf.len
    cases hsp : (spotM t).2.2 with
    | false =>
      rw [once_F hsp] at h
      exact own_right hc h0 hnl hnt hnt2 (by omega) hlen hr hl h
    | true =>
      have hsr := spot_range hsp (by omega)
      have hsl := spot_len hr hsp hlen
      have hk := kidR hr (spot_binds hsp) hsr.1 (by omega)
      have hksz := kid_sz t (spotM t).1
      cases hks : stepOnce cs (kid t (spotM t).1) with
      | none =>
        rw [once_none hsp hks] at h
        have hp := pad_right _ t rfl hf hr hl
        have hpf := pad_fit _ t rfl hf
        have hps : psz t = (pad t).sz := rfl
        have := psz_le _ t rfl hf
        exact own_right hc h0 hnl hnt hnt2 (by omega) hpf.len hp.1 hp.2 h
      | some p =>
        obtain ⟨k, d⟩ := p
        rw [once_some hsp hks] at h
        cases h
        exact with_right hr hsp hlen (ih _ (by rw [← hm]; exact spz_kid hsp) _ rfl (kid_fit hf _) (by omega) hk (low_kid hl _) k _ hks)
end
end Sp
