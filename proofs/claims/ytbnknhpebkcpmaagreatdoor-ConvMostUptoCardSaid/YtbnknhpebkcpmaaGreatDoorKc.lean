/- The plain functions that the program computes, and facts about them; no condition. -/
import Derived.Test.YtbnknhpebkcpmaaGreatDoorKb
/- The plain functions that the program computes: sizes, lifting, putting. -/
set_option linter.unusedVariables false
namespace Sp
open Go

abbrev w64 (z : Int) : Int := IntKind.i64.wrap z

theorem w64_range (a : Int) : -9223372036854775808 ≤ w64 a ∧ w64 a ≤ 9223372036854775807 := by
  simp only [w64, IntKind.wrap, IntKind.bits, IntKind.signed, Bool.true_and]
  split <;> simp_all <;> omega
theorem w64_id {a : Int} (h1 : -9223372036854775808 ≤ a) (h2 : a ≤ 9223372036854775807) : w64 a = a := wrap_i64 h1 h2

theorem Term.beq_eq (t u : Term) : True := trivial
def T0 : Term := .mk 0 0 0 [] []
theorem default_T : (default : Term) = T0 := rfl
def kid (t : Term) (k : Int) : Term := if k < 0 ∨ (t.kids.length : Int) ≤ k then T0 else t.kids.getD k.toNat default

mutual
def Term.sz : Term → Nat
  | .mk _ _ _ _ ks => 1 + Term.szs ks
def Term.szs : List Term → Nat
  | [] => 0
  | t :: ts => t.sz + Term.szs ts
end

-- No list in it is longer than so.
mutual
def Term.fit (B : Nat) : Term → Prop
  | .mk _ n _ ls ks => ls.length ≤ B ∧ (∀ l ∈ ls, l.length ≤ B) ∧ ks.length ≤ B ∧ Term.fits B ks ∧ (-9223372036854775808 ≤ n ∧ n ≤ 9223372036854775807)
def Term.fits (B : Nat) : List Term → Prop
  | [] => True
  | t :: ts => t.fit B ∧ Term.fits B ts
end

theorem Term.fits_iff {B : Nat} : ∀ {ts : List Term}, Term.fits B ts ↔ ∀ t ∈ ts, t.fit B
  | [] => by simp [Term.fits]
  | t :: ts => by simp [Term.fits, Term.fits_iff (ts := ts)]

theorem Term.fit_iff {B : Nat} {t : Term} : t.fit B ↔ t.levels.length ≤ B ∧ (∀ l ∈ t.levels, l.length ≤ B) ∧ t.kids.length ≤ B ∧ (∀ k ∈ t.kids, k.fit B) ∧ (-9223372036854775808 ≤ t.num ∧ t.num ≤ 9223372036854775807) := by
  cases t with
  | mk k n a ls ks => simp [Term.fit, Term.fits_iff, Term.levels, Term.kids, Term.num]

theorem Term.fit.kid {B : Nat} {t : Term} (h : t.fit B) {k : Term} (hk : k ∈ t.kids) : k.fit B := (Term.fit_iff.1 h).2.2.2.1 k hk
theorem Term.fit.nr {B : Nat} {t : Term} (h : t.fit B) : -9223372036854775808 ≤ t.num ∧ t.num ≤ 9223372036854775807 := (Term.fit_iff.1 h).2.2.2.2
theorem Term.fit.renum {B : Nat} {t : Term} (h : t.fit B) {n : Int} (hn : -9223372036854775808 ≤ n ∧ n ≤ 9223372036854775807) {k a : Int} : (Term.mk k n a t.levels t.kids).fit B :=
  Term.fit_iff.2 ⟨(Term.fit_iff.1 h).1, (Term.fit_iff.1 h).2.1, (Term.fit_iff.1 h).2.2.1, (Term.fit_iff.1 h).2.2.2.1, hn⟩
theorem Term.fit.len {B : Nat} {t : Term} (h : t.fit B) : t.kids.length ≤ B := (Term.fit_iff.1 h).2.2.1
theorem Term.fit.llen {B : Nat} {t : Term} (h : t.fit B) : t.levels.length ≤ B := (Term.fit_iff.1 h).1
theorem Term.fit.plen {B : Nat} {t : Term} (h : t.fit B) {l : Level} (hl : l ∈ t.levels) : l.length ≤ B := (Term.fit_iff.1 h).2.1 l hl

theorem Term.sz_kid : ∀ {ts : List Term} {k : Term}, k ∈ ts → k.sz ≤ Term.szs ts
  | [], k, h => by cases h
  | t :: ts, k, h => by
    rcases List.mem_cons.1 h with rfl | h
    · simp [Term.szs]
    · have := Term.sz_kid h; simp [Term.szs]; omega
theorem Term.sz_eq (t : Term) : t.sz = 1 + Term.szs t.kids := by cases t; rfl
theorem Term.sz_lt {t k : Term} (h : k ∈ t.kids) : k.sz < t.sz := by
  have := Term.sz_kid h; rw [Term.sz_eq t]; omega
theorem Term.sz_pos (t : Term) : 1 ≤ t.sz := by rw [Term.sz_eq]; omega

theorem getD_mem {α : Type} [Inhabited α] {l : List α} {i : Nat} (h : i < l.length) : l.getD i default ∈ l := by
  rw [List.getD_eq_getElem?_getD, List.getElem?_eq_getElem h]; exact List.getElem_mem h

theorem take_succ_getD {α : Type} [Inhabited α] {l : List α} {i : Nat} (h : i < l.length) : l.take (i + 1) = l.take i ++ [l.getD i default] := by
  rw [List.take_add_one, List.getD_eq_getElem?_getD, List.getElem?_eq_getElem h]; rfl

theorem Term.szs_append : ∀ (a b : List Term), Term.szs (a ++ b) = Term.szs a + Term.szs b
  | [], b => by simp [Term.szs]
  | t :: a, b => by simp [Term.szs, Term.szs_append a b]; omega

theorem Term.szs_take_succ {ts : List Term} {i : Nat} (h : i < ts.length) : Term.szs (ts.take (i + 1)) = Term.szs (ts.take i) + (ts.getD i default).sz := by
  rw [take_succ_getD h, Term.szs_append]; simp [Term.szs]

theorem w64_add (a b : Int) : w64 (w64 a + w64 b) = w64 (a + b) := by
  simp only [w64, IntKind.wrap, IntKind.bits, IntKind.signed, Bool.true_and]
  split <;> split <;> split <;> split <;> simp_all <;> omega
theorem w64_add_l (a b : Int) : w64 (w64 a + b) = w64 (a + b) := by
  simp only [w64, IntKind.wrap, IntKind.bits, IntKind.signed, Bool.true_and]
  split <;> split <;> split <;> simp_all <;> omega
theorem w64_sub_l (a b : Int) : w64 (w64 a - b) = w64 (a - b) := by
  simp only [w64, IntKind.wrap, IntKind.bits, IntKind.signed, Bool.true_and]
  split <;> split <;> split <;> simp_all <;> omega

def binds (k i : Int) : Bool := decide (0 < k) && decide (k < 25) && decide (0 ≤ i) && decide (bound k = i)

/-! Same, as the kit asks it -/

mutual
def Term.beq : Term → Term → Bool
  | .mk k n a ls ks, .mk k' n' a' ls' ks' => decide (k = k') && decide (n = n') && decide (a = a') && decide (ls = ls') && Term.beqs ks ks'
def Term.beqs : List Term → List Term → Bool
  | [], [] => true
  | t :: ts, u :: us => t.beq u && Term.beqs ts us
  | _, _ => false
end

mutual
theorem Term.beq_iff : ∀ (t u : Term), t.beq u = true ↔ t = u
  | .mk k n a ls ks, .mk k' n' a' ls' ks' => by
    simp [Term.beq, Term.beqs_iff ks ks', and_assoc]
theorem Term.beqs_iff : ∀ (t u : List Term), Term.beqs t u = true ↔ t = u
  | [], [] => by simp [Term.beqs]
  | [], _ :: _ => by simp [Term.beqs]
  | _ :: _, [] => by simp [Term.beqs]
  | t :: ts, u :: us => by simp [Term.beqs, Term.beq_iff t u, Term.beqs_iff ts us]
end

instance : DecidableEq Term := fun a b => decidable_of_iff (a.beq b = true) (Term.beq_iff a b)

theorem Term.ext' {t u : Term} (h1 : t.kind = u.kind) (h2 : t.num = u.num) (h3 : t.at_ = u.at_) (h4 : t.levels = u.levels) (h5 : t.kids = u.kids) : t = u := by
  cases t; cases u; simp_all [Term.kind, Term.num, Term.at_, Term.levels, Term.kids]
theorem Term.eta (t : Term) : Term.mk t.kind t.num t.at_ t.levels t.kids = t := by cases t; rfl

/-! The walk over a term -/

section
variable (g : Int → Term → Term) (dn : Int → Term → Bool)
mutual
def walkM (b : Int) : Term → Term
  | .mk k n a ls ks => bif dn b (.mk k n a ls ks) then g b (.mk k n a ls ks) else
      .mk (g b (.mk k n a ls ks)).kind (g b (.mk k n a ls ks)).num (g b (.mk k n a ls ks)).at_ (g b (.mk k n a ls ks)).levels (walkMs b k 0 ks)
def walkMs (b k : Int) (i : Nat) : List Term → List Term
  | [] => []
  | t :: ts => walkM (bif binds k i then b + 1 else b) t :: walkMs b k (i + 1) ts
end
end

theorem walkM_eq (g : Int → Term → Term) (dn : Int → Term → Bool) (b : Int) (t : Term) :
    walkM g dn b t = bif dn b t then g b t else .mk (g b t).kind (g b t).num (g b t).at_ (g b t).levels (walkMs g dn b t.kind 0 t.kids) := by
  cases t; rw [walkM]; rfl

theorem walkMs_append (g : Int → Term → Term) (dn : Int → Term → Bool) (b k : Int) : ∀ (l m : List Term) (i : Nat), walkMs g dn b k i (l ++ m) = walkMs g dn b k i l ++ walkMs g dn b k (i + l.length) m
  | [], m, i => by simp [walkMs]
  | t :: l, m, i => by simp [walkMs, walkMs_append g dn b k l m (i + 1)]; congr 1; omega
theorem walkMs_length (g : Int → Term → Term) (dn : Int → Term → Bool) (b k : Int) : ∀ (l : List Term) (i : Nat), (walkMs g dn b k i l).length = l.length
  | [], i => rfl
  | t :: l, i => by simp [walkMs, walkMs_length g dn b k l (i + 1)]
theorem walkMs_take_succ (g : Int → Term → Term) (dn : Int → Term → Bool) (b k : Int) {ts : List Term} {i : Nat} (h : i < ts.length) :
    walkMs g dn b k 0 (ts.take (i + 1)) = walkMs g dn b k 0 (ts.take i) ++ [walkM g dn (bif binds k i then b + 1 else b) (ts.getD i default)] := by
  rw [take_succ_getD h, walkMs_append]
  simp [walkMs, List.length_take, Nat.min_eq_left (Nat.le_of_lt h)]

/-! Lifting, putting -/

def liftG (n from_ b : Int) (t : Term) : Term := if t.kind = 1 ∧ b ≤ t.num ∧ from_ ≤ t.num - b then .mk t.kind (w64 (t.num + n)) t.at_ t.levels t.kids else t
def no (_ : Int) (_ : Term) : Bool := false
def lift (t : Term) (n from_ : Int) : Term := walkM (liftG n from_) no 0 t

def putHit (by_ : List Term) (b : Int) (t : Term) : Bool := decide (t.kind = 1) && decide (b ≤ t.num) && decide (t.num - b < by_.length)
def putG (by_ : List Term) (b : Int) (t : Term) : Term :=
  if putHit by_ b t then lift (by_.getD (by_.length - 1 - (t.num - b)).toNat default) b 0
  else if t.kind = 1 ∧ b ≤ t.num then .mk t.kind (t.num - by_.length) t.at_ t.levels t.kids else t
def put (t : Term) (by_ : List Term) : Term := walkM (putG by_) (putHit by_) 0 t

end Sp

/- The plain functions of the kit: counting, depth, sameness. -/
set_option linter.unusedVariables false
namespace Sp
open Go

theorem drop_getD {α : Type} [Inhabited α] {l : List α} {i : Nat} (h : i < l.length) : l.drop i = l.getD i default :: l.drop (i + 1) := by
  rw [List.drop_eq_getElem_cons h, List.getD_eq_getElem?_getD, List.getElem?_eq_getElem h]; rfl

def levelOfM (l : Level) (q : Int) : Int := min (w64 (1 + l.length)) (w64 (q + 1))
def levelsGo (q : Int) : Int → List Level → Int
  | n, [] => n
  | n, l :: ls => if n ≤ q then levelsGo q (w64 (n + levelOfM l q)) ls else n
theorem levelsGo_stop {q n : Int} (h : ¬ n ≤ q) (ls : List Level) : levelsGo q n ls = n := by cases ls <;> simp [levelsGo, h]

mutual
def termOfM (q : Int) : Term → Int
  | .mk _ _ _ ls ks => w64 (w64 (1 + levelsGo q 0 ls) + termsGo q 0 ks)
def termsGo (q : Int) (n : Int) : List Term → Int
  | [] => n
  | t :: ts => if n ≤ q then termsGo q (w64 (n + termOfM (w64 (q - n)) t)) ts else n
end
theorem termsGo_stop {q n : Int} (h : ¬ n ≤ q) (ls : List Term) : termsGo q n ls = n := by cases ls <;> simp [termsGo, h]
theorem termOfM_eq (q : Int) (t : Term) : termOfM q t = w64 (w64 (1 + levelsGo q 0 t.levels) + termsGo q 0 t.kids) := by cases t; rw [termOfM]; rfl

def coresGo (q : Int) : Int → List Core → Int
  | n, [] => n
  | n, c :: cs => if n ≤ q then coresGo q (w64 (w64 (w64 (n + 1) + termOfM q c.typ) + termOfM q c.body)) cs else n
theorem coresGo_stop {q n : Int} (h : ¬ n ≤ q) (ls : List Core) : coresGo q n ls = n := by cases ls <;> simp [coresGo, h]

mutual
def deepM (d : Int) : Term → Int
  | .mk _ _ _ _ ks => w64 (deepsGo d 0 ks + 1)
def deepsGo (d : Int) (n : Int) : List Term → Int
  | [] => n
  | t :: ts => if 0 < d then deepsGo d (max n (deepM (w64 (d - 1)) t)) ts else n
end
theorem deepsGo_stop {d n : Int} (h : ¬ 0 < d) (ls : List Term) : deepsGo d n ls = n := by cases ls <;> simp [deepsGo, h]
theorem deepM_eq (d : Int) (t : Term) : deepM d t = w64 (deepsGo d 0 t.kids + 1) := by cases t; rw [deepM]; rfl

/-- two lists, told apart at the first place where they differ -/
theorem take_eq_succ {α : Type} [Inhabited α] {a b : List α} {i : Nat} (hl : a.length = b.length) (h : i < a.length) (ht : a.take i = b.take i) (he : a.getD i default = b.getD i default) : a.take (i + 1) = b.take (i + 1) := by
  rw [take_succ_getD h, take_succ_getD (by omega), ht, he]
theorem eq_of_take {α : Type} {a b : List α} {i : Nat} (hl : a.length = b.length) (h : a.length ≤ i) (ht : a.take i = b.take i) : a = b := by
  rw [List.take_of_length_le h, List.take_of_length_le (by omega)] at ht; exact ht
theorem ne_of_getD {α : Type} [Inhabited α] {a b : List α} {i : Nat} (he : a.getD i default ≠ b.getD i default) : a ≠ b := fun e => he (by rw [e])

end Sp

/- The plain functions of head: spots, sizes, steps. -/
set_option linter.unusedVariables false
namespace Sp
open Go

def spotM (t : Term) : Int × Int × Bool :=
  if t.kind = 6 then (0, 2, true) else if t.kind = 14 ∨ t.kind = 15 then (0, 1, true) else if t.kind = 18 then (4, 5, true) else if t.kind = 21 then (5, 6, true)
  else if t.kind = 24 then (w64 (t.at_ + 1), w64 (t.at_ + 2), decide (0 ≤ t.at_) && decide ((t.kids.length : Int) - 2 = t.at_)) else (0, 0, false)

def withKids (t x : Term) (at_ : Int) (n : Nat) : List Term := (List.range n).map (fun (k : Nat) => if (k : Int) = at_ then x else kid t k)
def withM (t x : Term) (at_ many : Int) : Term := .mk t.kind t.num t.at_ t.levels (withKids t x at_ many.toNat)

theorem withKids_succ (t x : Term) (at_ : Int) (n : Nat) : withKids t x at_ (n + 1) = withKids t x at_ n ++ [if (n : Int) = at_ then x else kid t n] := by
  simp [withKids, List.range_succ]

mutual
def sizedM (many : Int) (below : Int) : Term → Int
  | .mk k n _ _ ks => if k = 1 ∧ n = below then many else 1 + sizedsM many below k 0 ks
def sizedsM (many : Int) (below k : Int) (i : Nat) : List Term → Int
  | [] => 0
  | t :: ts => sizedM many (bif binds k i then below + 1 else below) t + sizedsM many below k (i + 1) ts
end
theorem sizedM_eq (many below : Int) (t : Term) : sizedM many below t = if t.kind = 1 ∧ t.num = below then many else 1 + sizedsM many below t.kind 0 t.kids := by
  cases t; rw [sizedM]; rfl
theorem sizedsM_append (many below k : Int) : ∀ (a b : List Term) (i : Nat), sizedsM many below k i (a ++ b) = sizedsM many below k i a + sizedsM many below k (i + a.length) b
  | [], b, i => by simp [sizedsM]
  | t :: a, b, i => by simp [sizedsM, sizedsM_append many below k a b (i + 1), Nat.add_assoc, Nat.add_comm 1]; omega
theorem sizedsM_take_succ (many below k : Int) {ts : List Term} {i : Nat} (h : i < ts.length) :
    sizedsM many below k 0 (ts.take (i + 1)) = sizedsM many below k 0 (ts.take i) + sizedM many (bif binds k i then below + 1 else below) (ts.getD i default) := by
  rw [take_succ_getD h, sizedsM_append]
  simp [sizedsM, List.length_take, Nat.min_eq_left (Nat.le_of_lt h)]

def sizeM (t a : Term) : Int := sizedM a.sz 0 t

mutual
theorem sizedM_nonneg {many : Int} (hm : 0 ≤ many) : ∀ (t : Term) (below : Int), 0 ≤ sizedM many below t
  | .mk k n _ _ ks, below => by
    rw [sizedM]
    split
    · exact hm
    · have := sizedsM_nonneg hm ks below k 0; omega
theorem sizedsM_nonneg {many : Int} (hm : 0 ≤ many) : ∀ (ts : List Term) (below k : Int) (i : Nat), 0 ≤ sizedsM many below k i ts
  | [], below, k, i => by simp [sizedsM]
  | t :: ts, below, k, i => by
    rw [sizedsM]
    have := sizedM_nonneg hm t (bif binds k i then below + 1 else below)
    have := sizedsM_nonneg hm ts below k (i + 1)
    omega
end
theorem sizeM_nonneg (t a : Term) : 0 ≤ sizeM t a := sizedM_nonneg (by omega) t 0

theorem T0_fit {B : Nat} : T0.fit B := by simp [T0, Term.fit, Term.fits]
theorem kid_fit {B : Nat} {t : Term} (h : t.fit B) (k : Int) : (kid t k).fit B := by
  unfold kid
  split
  · exact T0_fit
  · exact h.kid (getD_mem (by omega))
theorem kid_sz (t : Term) (k : Int) : (kid t k).sz ≤ t.sz := by
  unfold kid
  split
  · exact Term.sz_pos t
  · exact Nat.le_of_lt (Term.sz_lt (getD_mem (by omega)))


mutual
theorem sizedM_le {many : Int} (hm : 1 ≤ many) : ∀ (t : Term) (below : Int), sizedM many below t ≤ many * t.sz
  | .mk k n a ls ks, below => by
    rw [sizedM]
    have h0 : (1 : Int) ≤ (Term.sz (.mk k n a ls ks) : Int) := by have := Term.sz_pos (.mk k n a ls ks); omega
    split
    · have := Int.mul_le_mul_of_nonneg_left h0 (by omega : (0 : Int) ≤ many)
      omega
    · have h1 := sizedsM_le hm ks below k 0
      rw [Term.sz]
      push_cast
      rw [Int.mul_add]
      omega
theorem sizedsM_le {many : Int} (hm : 1 ≤ many) : ∀ (ts : List Term) (below k : Int) (i : Nat), sizedsM many below k i ts ≤ many * Term.szs ts
  | [], below, k, i => by simp [sizedsM, Term.szs]
  | t :: ts, below, k, i => by
    rw [sizedsM, Term.szs]
    have h1 := sizedM_le hm t (bif binds k i then below + 1 else below)
    have h2 := sizedsM_le hm ts below k (i + 1)
    push_cast
    rw [Int.mul_add]
    omega
end
theorem sizeM_le (t a : Term) : sizeM t a ≤ a.sz * t.sz := sizedM_le (by have := Term.sz_pos a; omega) t 0
theorem sizeM_small {t a : Term} (h1 : t.sz ≤ 268435456) (h2 : a.sz ≤ 268435456) : sizeM t a ≤ 72057594037927936 := by
  have h := sizeM_le t a
  have h3 : (a.sz : Int) * t.sz ≤ 268435456 * 268435456 := Int.mul_le_mul (by omega) (by omega) (by omega) (by omega)
  omega

def upM (t : Term) (k from_ : Int) : Term := lift (kid t k) 1 from_
def treeArgs (t s : Term) : List Term := [kid s 0, kid s 1, kid s 1, kid t 3, kid t 3, kid t 0, kid t 1, kid t 2]
def treeCost (t s : Term) : Int := 7 + (Term.szs (treeArgs t s) : Int) + sizeM (kid t 1) (kid s 0)
theorem treeArgs_sz (t s : Term) (h1 : t.sz ≤ 268435456) (h2 : s.sz ≤ 268435456) : Term.szs (treeArgs t s) ≤ 2147483648 := by
  have a0 := kid_sz s 0; have a1 := kid_sz s 1; have a2 := kid_sz t 3; have a3 := kid_sz t 0; have a4 := kid_sz t 1; have a5 := kid_sz t 2
  simp only [treeArgs, Term.szs]; omega
def treeM (t s : Term) : Term :=
  let rest : Term := .mk 18 0 0 [] [upM t 0 0, upM t 1 1, upM t 2 0, upM t 3 0, .mk 6 0 0 [] [lift (kid s 1) 1 0, .mk 1 0 0 [] []]]
  let h : Term := .mk 5 0 0 [] [put (kid t 1) [kid s 0], rest]
  .mk 6 0 0 [] [.mk 6 0 0 [] [.mk 6 0 0 [] [kid t 3, kid s 0], kid s 1], h]

def workC (left : Int) (cs : List Core) (once dn : Bool) (mb : Nat) : List D := [.int .i64 left, .slC cs, .bool once, .bool dn, .map mb]

end Sp

/- The plain functions of levels. -/
set_option linter.unusedVariables false
namespace Sp
open Go

abbrev Rows := List (Int × Int)
def encRow (rows : Rows) : List (Int × D) := rows.map fun e => (e.1, D.int .i64 e.2)
def rpos (rows : Rows) (z : Int) : Option Nat := rows.findIdx? (fun e => decide (e.1 = z))
def rget (rows : Rows) (z : Int) : Int := match rpos rows z with | some j => ((rows[j]?).map (·.2)).getD 0 | none => 0
def rset (rows : Rows) (z p : Int) : Rows := match rpos rows z with | some j => rows.set j (z, p) | none => rows ++ [(z, p)]

theorem mpos_enc (rows : Rows) (z : Int) : mpos (encRow rows) z = rpos rows z := by
  unfold mpos encRow rpos
  rw [List.findIdx?_map]; rfl
theorem mget_enc (rows : Rows) (z : Int) : (mget (encRow rows) z).getD (.int .i64 0) = .int .i64 (rget rows z) := by
  unfold mget rget
  rw [mpos_enc]
  cases hp : rpos rows z with
  | none => rfl
  | some j =>
    simp only [encRow, List.getElem?_map]
    cases rows[j]? <;> rfl
theorem mset_enc (rows : Rows) (z p : Int) : mset (encRow rows) z (.int .i64 p) = encRow (rset rows z p) := by
  unfold mset rset
  rw [mpos_enc]
  cases hp : rpos rows z with
  | none => simp [encRow]
  | some j => simp [encRow, List.map_set]

theorem encRow_get {rows : Rows} {j : Nat} {e : Int × D} (h : (encRow rows)[j]? = some e) : ∃ r, rows[j]? = some r ∧ e = (r.1, .int .i64 r.2) := by
  unfold encRow at h
  rw [List.getElem?_map] at h
  cases hr : rows[j]? with
  | none => rw [hr] at h; cases h
  | some r => rw [hr] at h; cases h; exact ⟨r, rfl, rfl⟩
theorem encRow_len (rows : Rows) : (encRow rows).length = rows.length := by simp [encRow]

def badPart (p : Part) : Prop := p.v < 0 ∨ p.p < 0 ∨ 1048576 < p.v ∨ 1048576 < p.p
instance (p : Part) : Decidable (badPart p) := by unfold badPart; infer_instance
def rowPut : Rows → List Part → Option Rows
  | rows, [] => some rows
  | rows, p :: ps => if badPart p then none else rowPut (rset rows p.v (max (rget rows p.v) p.p)) ps

def hiddenM (rows : Rows) (n : Int) : Bool := rows.any fun e => decide (0 < e.1) && decide (n ≤ e.2)

/-- numbers without one twice, below a bound: no more than the bound -/
theorem nodup_lt_length : ∀ {n : Nat} {l : List Nat}, l.Nodup → (∀ i ∈ l, i < n) → l.length ≤ n
  | 0, l, _, hl => by
    cases l with
    | nil => simp
    | cons a l => exact absurd (hl a (by simp)) (Nat.not_lt_zero _)
  | n + 1, l, h, hl => by
    have ih := nodup_lt_length (n := n) (l := l.erase n) (h.erase n) (fun i hi => by
      have h1 := hl i (List.mem_of_mem_erase hi)
      have h2 : i ≠ n := fun e => by subst e; exact (List.Nodup.mem_erase_iff h).1 hi |>.1 rfl
      omega)
    have := List.length_erase (a := n) (l := l)
    rw [this] at ih
    split at ih <;> omega

theorem hidden_of {rows : Rows} {n : Int} {j : Nat} {r : Int × Int} (hr : rows[j]? = some r) (h1 : 0 < r.1) (h2 : n ≤ r.2) : hiddenM rows n = true :=
  List.any_eq_true.2 ⟨r, List.mem_of_getElem? hr, by simp [h1, h2]⟩
theorem not_hidden {rows : Rows} {n : Int} (h : ∀ (j : Nat) r, rows[j]? = some r → ¬ (0 < r.1 ∧ n ≤ r.2)) : hiddenM rows n = false := by
  rw [hiddenM, List.any_eq_false]
  intro r hr hc
  obtain ⟨j, hj⟩ := List.mem_iff_getElem?.1 hr
  exact h j r hj (by simpa using hc)

theorem rowPut_append : ∀ (a b : List Part) (rows : Rows), rowPut rows (a ++ b) = (rowPut rows a).bind (fun r => rowPut r b)
  | [], b, rows => rfl
  | p :: a, b, rows => by
    rw [List.cons_append, rowPut, rowPut]
    split
    · rfl
    · exact rowPut_append a b _

theorem rowPut_step {r r2 : Rows} {a : Part} {rest : List Part} (h : rowPut r [a] = some r2) : rowPut r (a :: rest) = rowPut r2 rest := by
  have := rowPut_append [a] rest r
  rw [List.singleton_append, h] at this; exact this
theorem rowPut_stop {r : Rows} {a : Part} {rest : List Part} (h : rowPut r [a] = none) : rowPut r (a :: rest) = none := by
  have := rowPut_append [a] rest r
  rw [List.singleton_append, h] at this; exact this

def RowsOk (rows : Rows) : Prop := (rows.map (·.1)).Nodup ∧ ∀ e ∈ rows, 0 ≤ e.1 ∧ e.1 ≤ 1048576
theorem RowsOk.len {rows : Rows} (h : RowsOk rows) : rows.length ≤ 1048577 := by
  have h1 : ((rows.map (·.1)).map Int.toNat).Nodup := by
    rw [List.Nodup, List.pairwise_map]
    refine List.Pairwise.imp_of_mem ?_ h.1
    intro a b ha hb hne e
    obtain ⟨x, hx, rfl⟩ := List.mem_map.1 ha
    obtain ⟨y, hy, rfl⟩ := List.mem_map.1 hb
    have := h.2 x hx; have := h.2 y hy
    exact hne (by omega)
  have := nodup_lt_length (n := 1048577) h1 (fun i hi => by
    obtain ⟨z, hz, rfl⟩ := List.mem_map.1 hi
    obtain ⟨x, hx, rfl⟩ := List.mem_map.1 hz
    have := h.2 x hx; omega)
  simpa using this
theorem rset_keys (rows : Rows) (z p : Int) : (rset rows z p).map (·.1) = if z ∈ rows.map (·.1) then rows.map (·.1) else rows.map (·.1) ++ [z] := by
  unfold rset
  cases hp : rpos rows z with
  | none =>
    have hn : z ∉ rows.map (·.1) := by
      intro hm
      obtain ⟨e, he, rfl⟩ := List.mem_map.1 hm
      have := List.findIdx?_eq_none_iff.1 hp e he
      simp at this
    simp [hn]
  | some j =>
    obtain ⟨hj, hjz, _⟩ := List.findIdx?_eq_some_iff_getElem.1 hp
    have hjz : rows[j].1 = z := by simpa using hjz
    have hm : z ∈ rows.map (·.1) := List.mem_map.2 ⟨rows[j], List.getElem_mem hj, hjz⟩
    rw [if_pos hm, List.map_set]
    exact set_same (by rw [List.getElem?_map, List.getElem?_eq_getElem hj]; simp [hjz])
theorem RowsOk.set {rows : Rows} (h : RowsOk rows) {z p : Int} (hz : 0 ≤ z ∧ z ≤ 1048576) : RowsOk (rset rows z p) := by
  have hk := rset_keys rows z p
  constructor
  · rw [hk]
    split
    · exact h.1
    · rename_i hn
      refine List.nodup_append.2 ⟨h.1, by simp, fun a ha b hb => by rw [List.mem_singleton.1 hb]; exact fun e => hn (e ▸ ha)⟩
  · intro e he
    have : e.1 ∈ (rset rows z p).map (·.1) := List.mem_map.2 ⟨e, he, rfl⟩
    rw [hk] at this
    split at this
    · obtain ⟨x, hx, hxe⟩ := List.mem_map.1 this; rw [← hxe]; exact h.2 x hx
    · rcases List.mem_append.1 this with h1 | h1
      · obtain ⟨x, hx, hxe⟩ := List.mem_map.1 h1; rw [← hxe]; exact h.2 x hx
      · rw [List.mem_singleton.1 h1]; exact hz
theorem RowsOk.put : ∀ {ps : List Part} {rows rows' : Rows}, RowsOk rows → rowPut rows ps = some rows' → RowsOk rows'
  | [], rows, rows', h, e => by simp [rowPut] at e; subst e; exact h
  | p :: ps, rows, rows', h, e => by
    rw [rowPut] at e
    split at e
    · cases e
    · rename_i hb
      unfold badPart at hb
      exact RowsOk.put (h.set (by omega)) e
theorem RowsOk.nil : RowsOk [] := ⟨List.nodup_nil, fun e h => by cases h⟩

def keysM (rows : Rows) : List Int := (rows.map (·.1)).mergeSort (fun x y => decide (x ≤ y))
def partOf (rows : Rows) (v : Int) : Option Part := if 0 < v ∨ (0 < rget rows v ∧ hiddenM rows (rget rows v) = false) then some ⟨v, rget rows v⟩ else none
def levelM (rows : Rows) : Level := (keysM rows).filterMap (partOf rows)
theorem keysM_len (rows : Rows) : (keysM rows).length = rows.length := by simp [keysM]
theorem parts_take_succ {rows : Rows} {i : Nat} (h : i < (keysM rows).length) :
    ((keysM rows).take (i + 1)).filterMap (partOf rows) = ((keysM rows).take i).filterMap (partOf rows) ++ (partOf rows ((keysM rows).getD i default)).toList := by
  rw [take_succ_getD h, List.filterMap_append]
  simp only [List.filterMap_cons, List.filterMap_nil]
  cases partOf rows ((keysM rows).getD i default) <;> rfl
theorem parts_len (rows : Rows) (i : Nat) : (((keysM rows).take i).filterMap (partOf rows)).length ≤ i := Nat.le_trans (List.length_filterMap_le _ _) (by simp; omega)

def ofRows : Option Rows → Level | some r => levelM r | none => []
def normM (l : Level) : Level := ofRows (rowPut [] l)
/-- what 'Put' lays into the row -/
theorem levelM_len (rows : Rows) : (levelM rows).length ≤ rows.length := by
  have := List.length_filterMap_le (partOf rows) (keysM rows)
  rw [keysM_len] at this; exact this
theorem normM_len (l : Level) : (normM l).length ≤ 1048577 := by
  unfold normM ofRows
  cases h : rowPut [] l with
  | none => simp
  | some r => exact Nat.le_trans (levelM_len r) (RowsOk.nil.put h).len
def xOf (by_ : List Level) (p : Part) : List Part := if 0 < p.v ∧ p.v ≤ (by_.length : Int) then normM (by_.getD (p.v - 1).toNat default) else []
def xOf1 (by_ : List Level) (p : Part) : List Part := if xOf by_ p = [] then [(⟨0, 0⟩ : Part)] else xOf by_ p
def shiftP (p q : Part) : Part := ⟨q.v, w64 (q.p + p.p)⟩
def putParts (l : Level) (by_ : List Level) : List Part := (normM l).flatMap fun p => (xOf1 by_ p).map (shiftP p)
def levelPutM (l : Level) (by_ : List Level) : Level := ofRows (rowPut [] (putParts l by_))

def levelsG (by_ : List Level) (_ : Int) (t : Term) : Term := .mk t.kind t.num t.at_ (t.levels.map (fun l => levelPutM l by_)) t.kids
def levelsM (t : Term) (by_ : List Level) : Term := walkM (levelsG by_) no 0 t

def C0 : Core := ⟨0, T0, false, T0⟩
def coreAtM (cs : List Core) (num : Int) (ls : List Level) : Core × Bool := if 0 ≤ num ∧ num < cs.length ∧ (cs.getD num.toNat default).levels = ls.length then (cs.getD num.toNat default, true) else (C0, false)
def bodyM (cs : List Core) (num : Int) (ls : List Level) : Term × Bool := if (coreAtM cs num ls).2 = true ∧ (coreAtM cs num ls).1.has = true then (levelsM (coreAtM cs num ls).1.body ls, true) else (T0, false)
theorem coreAt_mem (cs : List Core) (num : Int) (ls : List Level) {B S : Nat} (h : ∀ c ∈ cs, c.body.fit B ∧ c.body.sz ≤ S + 1) : (coreAtM cs num ls).1.body.fit B ∧ (coreAtM cs num ls).1.body.sz ≤ S + 1 := by
  unfold coreAtM
  split
  · exact h _ (getD_mem (by omega))
  · exact ⟨T0_fit, by simp [C0, T0, Term.sz, Term.szs]⟩
theorem leC0 : D.Le (.agg [.int .i64 0, .int .i64 0, .int .i64 0, .int .i64 0, .emp, .emp, .bool false, .int .i64 0, .int .i64 0, .int .i64 0, .emp, .emp]) (encC C0) :=
  aggLe (.cons (.refl _) (.cons (.refl _) (.cons (.refl _) (.cons (.refl _) (.cons (.emp _ rfl) (.cons (.emp _ rfl) (.cons (.refl _) (.cons (.refl _) (.cons (.refl _) (.cons (.refl _) (.cons (.emp _ rfl) (.cons (.emp _ rfl) .nil))))))))))))

section
variable {X : PT} {ρ : Operand → D} {L L' : Loc} {dst : Option Tmp} {ty : TypeId} {pos : String} {after : Array Edge} {guard : Option (Nat × Bool)} {K Kp : D → Loc → Prop}
theorem AVal.lookupRow {x y : Operand} {b : Nat} {z : Int} {rows : Rows} {t e : TypeId} (k : Nat) (hx : ρ x = .map b) (hk : L[k]? = some (b, .map (encRow rows))) (hy : ρ y = .int .i64 z) (ht : mapB X.P t e = true) (hz : zeroB X.P e (.int .i64 0) = true) :
    AVal X ⟨dst, .lookup t x y false, ty, pos, after, guard⟩ ρ L (.int .i64 (rget rows z)) := by
  rw [← mget_enc]; exact AVal.lookupN k hx hk hy ht hz
theorem AOp.updateRow {x y v : Operand} {b : Nat} {z p : Int} {rows : Rows} {t e : TypeId} (k : Nat) (hx : ρ x = .map b) (hk : L[k]? = some (b, .map (encRow rows))) (hy : ρ y = .int .i64 z) (ht : mapB X.P t e = true) (hv : ρ v = .int .i64 p)
    (hs' : NmL (L.set k (b, .map (encRow (rset rows z p)))) L') (h : K .any L') : AOp X ⟨dst, .mapUpdate t x y v, ty, pos, after, guard⟩ ρ L K Kp :=
  AOp.mapUpdateN (d := .int .i64 p) k hx hk hy ht (by rw [hv]; exact .int _ _) (mset_enc rows z p) hs' h
end

end Sp

/- The plain functions of head: a term's own step, the first step, the way to the head. -/
set_option linter.unusedVariables false
set_option linter.unusedSimpArgs false
namespace Sp
open Go

/-! ### Spots -/

def spotOf (k a l : Int) : Int × Int × Bool :=
  if k = 6 then (0, 2, true) else if k = 14 ∨ k = 15 then (0, 1, true) else if k = 18 then (4, 5, true) else if k = 21 then (5, 6, true)
  else if k = 24 then (w64 (a + 1), w64 (a + 2), decide (0 ≤ a) && decide (l - 2 = a)) else (0, 0, false)
theorem spotM_of (t : Term) : spotM t = spotOf t.kind t.at_ t.kids.length := rfl

theorem spotOf_range {k a : Int} {n : Nat} (h : (spotOf k a n).2.2 = true) (hl : n ≤ 4611686018427387904) :
    0 ≤ (spotOf k a n).1 ∧ (spotOf k a n).1 < (spotOf k a n).2.1 ∧
      (k ≠ 24 ∧ (spotOf k a n).2.1 ≤ 6 ∨ k = 24 ∧ (spotOf k a n).2.1 = n ∧ a = (n : Int) - 2 ∧ (spotOf k a n).1 = a + 1) := by
  unfold spotOf at h ⊢
  by_cases e1 : k = 6
  · simp [e1]
  by_cases e2 : k = 14 ∨ k = 15
  · simp only [e1, e2, if_true, if_false]; refine ⟨by omega, by omega, .inl ⟨by omega, by omega⟩⟩
  by_cases e3 : k = 18
  · simp [e3]
  by_cases e4 : k = 21
  · simp [e4]
  by_cases e5 : k = 24
  · simp only [e1, e2, e3, e4, e5, if_true, if_false, Bool.and_eq_true, decide_eq_true_eq] at h ⊢
    simp at h ⊢
    rw [w64_id (by omega) (by omega), w64_id (by omega) (by omega)]
    omega
  · simp only [e1, e2, e3, e4, e5, if_false] at h
    cases h

theorem spotOf_with {k a : Int} {n : Nat} (h : (spotOf k a n).2.2 = true) (hl : n ≤ 4611686018427387904) : spotOf k a ((spotOf k a n).2.1.toNat : Nat) = spotOf k a n := by
  obtain ⟨h0, h1, h2⟩ := spotOf_range h hl
  by_cases e5 : k = 24
  · rcases h2 with h2 | h2
    · exact absurd e5 h2.1
    · rw [h2.2.1, Int.toNat_natCast]
  · unfold spotOf
    simp only [e5, if_false]

theorem spot_range {t : Term} (h : (spotM t).2.2 = true) (hl : t.kids.length ≤ 4611686018427387904) :
    0 ≤ (spotM t).1 ∧ (spotM t).1 < (spotM t).2.1 ∧ (t.kind ≠ 24 ∧ (spotM t).2.1 ≤ 6 ∨ t.kind = 24 ∧ (spotM t).2.1 = t.kids.length ∧ t.at_ = (t.kids.length : Int) - 2 ∧ (spotM t).1 = t.at_ + 1) :=
  spotOf_range h hl

theorem spot_many {t : Term} (h : (spotM t).2.2 = true) {B : Nat} (hl : t.kids.length ≤ B) (hB : 6 ≤ B) (hB2 : B ≤ 4611686018427387904) : (spotM t).2.1 ≤ B := by
  obtain ⟨_, _, h2⟩ := spot_range h (by omega)
  omega

theorem with_kids_len (t x : Term) (a m : Int) : (withM t x a m).kids.length = m.toNat := by simp [withM, Term.kids, withKids]

theorem spot_with {t : Term} (x : Term) (h : (spotM t).2.2 = true) (hl : t.kids.length ≤ 4611686018427387904) :
    spotM (withM t x (spotM t).1 (spotM t).2.1) = spotM t := by
  have := spotOf_with h hl
  rw [spotM_of (withM t x _ _), with_kids_len]
  exact this

theorem withKids_get (t x : Term) (a : Int) (n k : Nat) (h : k < n) : (withKids t x a n)[k]? = some (if (k : Int) = a then x else kid t k) := by
  simp [withKids, List.getElem?_map, List.getElem?_range h]

theorem kid_with {t x : Term} {a m : Int} (k : Int) (h0 : 0 ≤ k) (h1 : k < m) : kid (withM t x a m) k = if k = a then x else kid t k := by
  unfold kid
  rw [with_kids_len, if_neg (by omega)]
  show (withKids t x a m.toNat).getD k.toNat default = _
  rw [List.getD_eq_getElem?_getD, withKids_get t x a _ _ (by omega)]
  simp only [Option.getD_some]
  rw [show ((k.toNat : Nat) : Int) = k by omega]
  rfl

theorem with_with {t x y : Term} {a m : Int} : withM (withM t x a m) y a m = withM t y a m := by
  unfold withM
  simp only [Term.kind, Term.num, Term.at_, Term.levels]
  congr 1
  apply List.ext_getElem?
  intro k
  by_cases h : k < m.toNat
  · rw [withKids_get _ _ _ _ _ h, withKids_get _ _ _ _ _ h]
    congr 1
    split
    · rfl
    · rename_i hk
      have := kid_with (t := t) (x := x) (a := a) (m := m) (k : Int) (by omega) (by omega)
      exact this.trans (if_neg hk)
  · rw [List.getElem?_eq_none (by simp [withKids]; omega), List.getElem?_eq_none (by simp [withKids]; omega)]

/-! ### A term's own step -/

def place (t : Term) : Term := bif (spotM t).2.2 then kid t (spotM t).1 else T0

/-- what it becomes, and the cost -/
def ownStep (cs : List Core) (t : Term) : Option (Term × Int) :=
  if t.kind = 6 then (if (place t).kind = 5 then some (put (kid (place t) 1) [kid t 1], sizeM (kid (place t) 1) (kid t 1)) else none)
  else if t.kind = 14 ∨ t.kind = 15 then (if (place t).kind = 13 then some (kid (place t) (if t.kind = 15 then 1 else 0), ((kid (place t) (if t.kind = 15 then 1 else 0)).sz : Int)) else none)
  else if t.kind = 7 then some (put (kid t 2) [kid t 1], sizeM (kid t 2) (kid t 1))
  else if t.kind = 3 then (if (bodyM cs t.num t.levels).2 = true then some ((bodyM cs t.num t.levels).1, ((bodyM cs t.num t.levels).1.sz : Int)) else none)
  else if t.kind = 18 then (if (place t).kind = 17 then some (treeM t (place t), treeCost t (place t)) else none)
  else if t.kind = 21 then (if (place t).kind = 20 then some (kid t 3, ((kid t 3).sz : Int)) else none)
  else if t.kind = 24 then (if (spotM t).2.2 = true ∧ ((place t).kind = 23 ∧ 0 ≤ (place t).num ∧ (place t).num < t.at_) then some (kid t ((place t).num + 1), ((kid t ((place t).num + 1)).sz : Int)) else none)
  else none

def spz (t : Term) : Nat := if (spotM t).2.2 = true then t.sz else 0
theorem spot_T0 : (spotM T0).2.2 = false := by simp [spotM, T0, Term.kind]
theorem kid_lt {t : Term} {k : Int} (h : ¬ (k < 0 ∨ (t.kids.length : Int) ≤ k)) : (kid t k).sz < t.sz := by
  unfold kid; rw [if_neg h]; exact Term.sz_lt (getD_mem (by omega))
theorem spz_kid {t : Term} (h : (spotM t).2.2 = true) : spz (kid t (spotM t).1) < spz t := by
  have hp := Term.sz_pos t
  rw [spz, spz, if_pos h]
  split
  · rename_i h2
    by_cases hk : (spotM t).1 < 0 ∨ (t.kids.length : Int) ≤ (spotM t).1
    · rw [kid, if_pos hk, spot_T0] at h2; cases h2
    · exact kid_lt hk
  · omega

/-- with just the kids that are looked at, all the way down -/
def pad (t : Term) : Term :=
  if h : (spotM t).2.2 = true then withM t (pad (kid t (spotM t).1)) (spotM t).1 (spotM t).2.1 else t
termination_by spz t
decreasing_by exact spz_kid h

/-- the first step -/
def stepOnce (cs : List Core) (t : Term) : Option (Term × Int) :=
  if h : (spotM t).2.2 = true then
    match stepOnce cs (kid t (spotM t).1) with
    | some (k, c) => some (withM t k (spotM t).1 (spotM t).2.1, c)
    | none => ownStep cs (withM t (pad (kid t (spotM t).1)) (spotM t).1 (spotM t).2.1)
  else ownStep cs t
termination_by spz t
decreasing_by exact spz_kid h

/-- the way to the head: did it come there; what is there; what is left; was a step made -/
def multi (cs : List Core) (t : Term) (F : Int) (dn : Bool) : Bool × Term × Int × Bool :=
  match stepOnce cs t with
  | none => (true, pad t, F, dn)
  | some (u, c) => if h : 1 ≤ c ∧ c ≤ F then multi cs u (F - c) true else (false, T0, F, dn)
termination_by F.toNat
decreasing_by omega

theorem pad_T {t : Term} (h : (spotM t).2.2 = true) : pad t = withM t (pad (kid t (spotM t).1)) (spotM t).1 (spotM t).2.1 := by rw [pad, dif_pos h]
theorem pad_F {t : Term} (h : (spotM t).2.2 = false) : pad t = t := by rw [pad, dif_neg (by simp [h])]
theorem once_F {cs : List Core} {t : Term} (h : (spotM t).2.2 = false) : stepOnce cs t = ownStep cs t := by rw [stepOnce, dif_neg (by simp [h])]
theorem once_some {cs : List Core} {t k : Term} {c : Int} (h : (spotM t).2.2 = true) (hk : stepOnce cs (kid t (spotM t).1) = some (k, c)) :
    stepOnce cs t = some (withM t k (spotM t).1 (spotM t).2.1, c) := by rw [stepOnce, dif_pos h, hk]
theorem once_none {cs : List Core} {t : Term} (h : (spotM t).2.2 = true) (hk : stepOnce cs (kid t (spotM t).1) = none) :
    stepOnce cs t = ownStep cs (pad t) := by rw [stepOnce, dif_pos h, hk, pad_T h]
theorem multi_none {cs : List Core} {t : Term} {F : Int} {dn : Bool} (h : stepOnce cs t = none) : multi cs t F dn = (true, pad t, F, dn) := by rw [multi, h]
theorem multi_some {cs : List Core} {t u : Term} {F c : Int} {dn : Bool} (h : stepOnce cs t = some (u, c)) (h1 : 1 ≤ c ∧ c ≤ F) : multi cs t F dn = multi cs u (F - c) true := by rw [multi, h]; simp only [dif_pos h1]
theorem multi_gone {cs : List Core} {t u : Term} {F c : Int} {dn : Bool} (h : stepOnce cs t = some (u, c)) (h1 : ¬ (1 ≤ c ∧ c ≤ F)) : multi cs t F dn = (false, T0, F, dn) := by rw [multi, h]; simp only [dif_neg h1]

/-- behind the place: the own step, and on -/
def rest (cs : List Core) (t : Term) (F : Int) (dn : Bool) : Bool × Term × Int × Bool :=
  match ownStep cs t with
  | none => (true, t, F, dn)
  | some (u, c) => if 1 ≤ c ∧ c ≤ F then multi cs u (F - c) true else (false, T0, F, dn)

theorem multi_F {cs : List Core} {t : Term} {F : Int} {dn : Bool} (h : (spotM t).2.2 = false) : multi cs t F dn = rest cs t F dn := by
  rw [multi, once_F h, rest]
  cases ownStep cs t with
  | none => simp only [pad_F h]
  | some p => obtain ⟨u, c⟩ := p; simp only [dite_eq_ite]

def after (cs : List Core) (t : Term) (r : Bool × Term × Int × Bool) : Bool × Term × Int × Bool :=
  bif r.1 then rest cs (withM t r.2.1 (spotM t).1 (spotM t).2.1) r.2.2.1 r.2.2.2 else (false, T0, r.2.2.1, r.2.2.2)

theorem multi_T {cs : List Core} : ∀ (n : Nat) {t : Term} {F : Int} {dn : Bool}, F.toNat = n → (spotM t).2.2 = true → t.kids.length ≤ 4611686018427387904 →
    multi cs t F dn = after cs t (multi cs (kid t (spotM t).1) F dn) := by
  intro n
  induction n using Nat.strongRecOn with
  | _ n ih =>
    intro t F dn hF h hl
    cases hk : stepOnce cs (kid t (spotM t).1) with
    | none =>
      rw [multi_none hk, multi, once_none h hk]
      simp only [after, cond_true, ← pad_T h, rest]
      cases ownStep cs (pad t) with
      | none => rfl
      | some p => obtain ⟨u, c⟩ := p; simp only [dite_eq_ite]
    | some p =>
      obtain ⟨k, c⟩ := p
      have ho := once_some h hk
      by_cases hc : 1 ≤ c ∧ c ≤ F
      · rw [multi_some ho hc, multi_some hk hc]
        have hs := spot_with k h hl
        obtain ⟨r0, r1, _⟩ := spot_range h hl
        have hkk : kid (withM t k (spotM t).1 (spotM t).2.1) (spotM t).1 = k := by rw [kid_with _ r0 r1, if_pos rfl]
        have hl2 : (withM t k (spotM t).1 (spotM t).2.1).kids.length ≤ 4611686018427387904 := by
          rw [with_kids_len]
          have := spot_many h hl (by omega) (by omega)
          omega
        have := ih (F - c).toNat (by omega) (t := withM t k (spotM t).1 (spotM t).2.1) (F := F - c) (dn := true) rfl (by rw [hs]; exact h) hl2
        rw [this]
        simp only [hs, hkk, after, with_with]
      · rw [multi_gone ho hc, multi_gone hk hc]; rfl

end Sp

/- How great the terms are on the way to the head. -/
set_option linter.unusedVariables false
set_option linter.unusedSimpArgs false
namespace Sp
open Go

/-! ### Sizes of what is lifted, put -/

mutual
theorem walkM_sz_no (g : Int → Term → Term) : ∀ (t : Term) (b : Int), (walkM g no b t).sz = t.sz
  | .mk k n a ls ks, b => by
    rw [walkM]
    simp only [no, cond_false, Term.sz, walkMs_sz_no g ks b k 0]
theorem walkMs_sz_no (g : Int → Term → Term) : ∀ (ts : List Term) (b k : Int) (i : Nat), Term.szs (walkMs g no b k i ts) = Term.szs ts
  | [], b, k, i => by simp [walkMs]
  | t :: ts, b, k, i => by rw [walkMs, Term.szs, Term.szs, walkM_sz_no g t, walkMs_sz_no g ts b k (i + 1)]
end
theorem lift_sz (t : Term) (n f : Int) : (lift t n f).sz = t.sz := walkM_sz_no _ t 0
theorem levelsM_sz (t : Term) (by_ : List Level) : (levelsM t by_).sz = t.sz := walkM_sz_no _ t 0

theorem putHit1 (a : Term) (b : Int) (t : Term) : putHit [a] b t = true ↔ t.kind = 1 ∧ t.num = b := by
  simp only [putHit, Bool.and_eq_true, decide_eq_true_eq, List.length_cons, List.length_nil]
  omega
theorem putG_hit {a : Term} {b : Int} {t : Term} (h : putHit [a] b t = true) : putG [a] b t = lift a b 0 := by
  have hh := (putHit1 a b t).1 h
  unfold putG
  rw [if_pos h]
  simp only [List.length_cons, List.length_nil]
  rw [show (((0 + 1 : Nat) : Int) - 1 - (t.num - b)).toNat = 0 by omega]
  rfl
theorem putG_num {a : Term} {b : Int} {t : Term} (h : putHit [a] b t = false) : putG [a] b t = if t.kind = 1 ∧ b ≤ t.num then .mk t.kind (t.num - 1) t.at_ t.levels t.kids else t := by
  unfold putG; rw [h, if_neg (by simp)]; rfl

mutual
theorem walkPut_sz (a : Term) : ∀ (t : Term) (b : Int), ((walkM (putG [a]) (putHit [a]) b t).sz : Int) = sizedM a.sz b t
  | .mk k n at_ ls ks, b => by
    rw [walkM, sizedM]
    cases h : putHit [a] b (.mk k n at_ ls ks) with
    | true =>
      have hh := (putHit1 _ _ _).1 h
      have hh' : k = 1 ∧ n = b := hh
      rw [cond_true, putG_hit h, lift_sz, if_pos hh']
    | false =>
      have hh : ¬ (k = 1 ∧ n = b) := fun e => by rw [(putHit1 a b (.mk k n at_ ls ks)).2 e] at h; cases h
      rw [cond_false, if_neg hh]
      simp only [Term.sz]
      have := walkPuts_sz a ks b k 0
      omega
theorem walkPuts_sz (a : Term) : ∀ (ts : List Term) (b k : Int) (i : Nat), (Term.szs (walkMs (putG [a]) (putHit [a]) b k i ts) : Int) = sizedsM a.sz b k i ts
  | [], b, k, i => by simp [walkMs, sizedsM, Term.szs]
  | t :: ts, b, k, i => by
    rw [walkMs, sizedsM, Term.szs]
    have h1 := walkPut_sz a t (bif binds k i then b + 1 else b)
    have h2 := walkPuts_sz a ts b k (i + 1)
    push_cast
    omega
end
theorem put_sz (t a : Term) : ((put t [a]).sz : Int) = sizeM t a := walkPut_sz a t 0
theorem sizeM_pos (t a : Term) : 1 ≤ sizeM t a := by
  rw [← put_sz]; have := Term.sz_pos (put t [a]); omega

/-! ### Their lists and numbers -/

mutual
theorem walkM_fit {B : Nat} {g : Int → Term → Term} {dn : Int → Term → Bool} (hg : ∀ b t, 0 ≤ b → t.fit B → (g b t).fit B) : ∀ (t : Term) (b : Int), 0 ≤ b → t.fit B → (walkM g dn b t).fit B
  | .mk k n a ls ks, b, hb, h => by
    rw [walkM]
    have h1 := hg b _ hb h
    cases dn b (.mk k n a ls ks) with
    | true => exact h1
    | false =>
      rw [cond_false]
      have hf := Term.fit_iff.1 h
      simp only [Term.fit]
      refine ⟨h1.llen, fun l hl => h1.plen hl, ?_, Term.fits_iff.2 (walkMs_fit hg ks b k 0 hb (fun t ht => hf.2.2.2.1 t ht)), h1.nr⟩
      rw [walkMs_length]; exact hf.2.2.1
theorem walkMs_fit {B : Nat} {g : Int → Term → Term} {dn : Int → Term → Bool} (hg : ∀ b t, 0 ≤ b → t.fit B → (g b t).fit B) : ∀ (ts : List Term) (b k : Int) (i : Nat), 0 ≤ b → (∀ t ∈ ts, t.fit B) → ∀ u ∈ walkMs g dn b k i ts, u.fit B
  | [], b, k, i, hb, h, u, hu => by simp [walkMs] at hu
  | t :: ts, b, k, i, hb, h, u, hu => by
    rw [walkMs] at hu
    rcases List.mem_cons.1 hu with rfl | hu
    · exact walkM_fit hg t _ (by cases binds k i <;> simp only [cond_true, cond_false] <;> omega) (h t (by simp))
    · exact walkMs_fit hg ts b k (i + 1) hb (fun t ht => h t (by simp [ht])) u hu
end
theorem lift_fit {B : Nat} {t : Term} (h : t.fit B) (n f : Int) : (lift t n f).fit B :=
  walkM_fit (fun b u hb hu => by unfold liftG; split; exact hu.renum (w64_range _); exact hu) t 0 (by omega) h
theorem put_fit {B : Nat} {t a : Term} (h : t.fit B) (ha : a.fit B) : (put t [a]).fit B :=
  walkM_fit (fun b u hb hu => by
    cases hh : putHit [a] b u with
    | true => rw [putG_hit hh]; exact lift_fit ha _ _
    | false =>
      rw [putG_num hh]
      have := hu.nr
      split
      · exact hu.renum (by omega)
      · exact hu) t 0 (by omega) h
theorem levelPutM_len (l : Level) (by_ : List Level) : (levelPutM l by_).length ≤ 1048577 := by
  unfold levelPutM ofRows
  cases h : rowPut [] (putParts l by_) with
  | none => simp
  | some r => exact Nat.le_trans (levelM_len r) (RowsOk.nil.put h).len
theorem levelsM_fit {B : Nat} (hB : 1048577 ≤ B) {t : Term} (h : t.fit B) (by_ : List Level) : (levelsM t by_).fit B :=
  walkM_fit (fun b u hb hu => by
    have hf := Term.fit_iff.1 hu
    refine Term.fit_iff.2 ⟨?_, ?_, hf.2.2.1, hf.2.2.2.1, hf.2.2.2.2⟩
    · show (u.levels.map _).length ≤ B
      rw [List.length_map]; exact hf.1
    · intro l hl
      obtain ⟨x, _, rfl⟩ := List.mem_map.1 (show l ∈ u.levels.map (fun l => levelPutM l by_) from hl)
      exact Nat.le_trans (levelPutM_len _ _) hB) t 0 (by omega) h
theorem mk_fit {B : Nat} {k n a : Int} {ks : List Term} (hl : ks.length ≤ B) (hk : ∀ t ∈ ks, t.fit B) (hn : -9223372036854775808 ≤ n ∧ n ≤ 9223372036854775807) : (Term.mk k n a [] ks).fit B :=
  Term.fit_iff.2 ⟨Nat.zero_le _, (fun l hl => by cases hl), hl, hk, hn⟩
theorem with_fit {B : Nat} {t x : Term} (h : t.fit B) (hx : x.fit B) (a m : Int) (hm : m ≤ B) : (withM t x a m).fit B := by
  refine Term.fit_iff.2 ⟨h.llen, fun l hl => h.plen hl, ?_, ?_, h.nr⟩
  · rw [with_kids_len]; omega
  · intro k hk
    obtain ⟨i, _, rfl⟩ := List.mem_map.1 (show k ∈ withKids t x a m.toNat from hk)
    split
    · exact hx
    · exact kid_fit h _
theorem tree_fit {B : Nat} (hB : 8 ≤ B) {t s : Term} (h : t.fit B) (hs : s.fit B) : (treeM t s).fit B := by
  have z : (-9223372036854775808 : Int) ≤ 0 ∧ (0 : Int) ≤ 9223372036854775807 := by omega
  have c2 : ∀ (k : Int) (a b : Term), a.fit B → b.fit B → (Term.mk k 0 0 [] [a, b]).fit B := fun k a b ha hb =>
    mk_fit (by simp; omega) (fun t ht => by simp at ht; rcases ht with rfl | rfl <;> assumption) z
  unfold treeM
  have hv : (Term.mk 1 0 0 [] []).fit B := mk_fit (by simp) (fun t ht => by cases ht) z
  refine c2 6 _ _ (c2 6 _ _ (c2 6 _ _ (kid_fit h _) (kid_fit hs _)) (kid_fit hs _)) (c2 5 _ _ (put_fit (kid_fit h _) (kid_fit hs _)) (mk_fit (by simp; omega) (fun u hu => ?_) z))
  simp only [List.mem_cons, List.not_mem_nil, or_false] at hu
  rcases hu with rfl | rfl | rfl | rfl | rfl
  · exact lift_fit (kid_fit h _) _ _
  · exact lift_fit (kid_fit h _) _ _
  · exact lift_fit (kid_fit h _) _ _
  · exact lift_fit (kid_fit h _) _ _
  · exact c2 6 _ _ (lift_fit (kid_fit hs _) _ _) hv
theorem tree_sz (t s : Term) : ((treeM t s).sz : Int) = treeCost t s := by
  unfold treeM treeCost treeArgs upM
  simp only [Term.sz, Term.szs, lift_sz]
  have := put_sz (kid t 1) (kid s 0)
  omega

/-! ### A step -/

theorem place_fit {B : Nat} {t : Term} (h : t.fit B) : (place t).fit B := by
  unfold place; cases (spotM t).2.2 <;> simp only [cond_true, cond_false]
  · exact T0_fit
  · exact kid_fit h _
theorem place_sz (t : Term) : (place t).sz ≤ t.sz := by
  unfold place; cases (spotM t).2.2 <;> simp only [cond_true, cond_false]
  · exact Term.sz_pos t
  · exact kid_sz _ _

def CoresOk (cs : List Core) : Prop := ∀ c ∈ cs, c.body.fit 1099511627776 ∧ c.body.sz ≤ 268435456

theorem body_ok {cs : List Core} (h : CoresOk cs) (n : Int) (ls : List Level) : (bodyM cs n ls).1.fit 1099511627776 ∧ (bodyM cs n ls).1.sz ≤ 268435456 := by
  unfold bodyM
  split
  · have := coreAt_mem (S := 268435455) cs n ls h
    exact ⟨levelsM_fit (by omega) this.1 _, by rw [levelsM_sz]; exact this.2⟩
  · exact ⟨T0_fit, by simp [T0, Term.sz, Term.szs]⟩

theorem own_ok {cs : List Core} (hc : CoresOk cs) {t u : Term} {c : Int} (ht : t.fit 1099511627776) (hs : t.sz ≤ 268435456) (h : ownStep cs t = some (u, c)) :
    1 ≤ c ∧ (u.sz : Int) = c ∧ u.fit 1099511627776 ∧ c ≤ 72057596190000000 := by
  have hp := place_fit ht
  have hps := place_sz t
  have kz : ∀ k, (kid t k).sz ≤ 268435456 := fun k => Nat.le_trans (kid_sz t k) hs
  have pz : ∀ k, (kid (place t) k).sz ≤ 268435456 := fun k => Nat.le_trans (kid_sz _ k) (by omega)
  have one : ∀ x : Term, 1 ≤ (x.sz : Int) := fun x => by have := Term.sz_pos x; omega
  unfold ownStep at h
  split at h
  · split at h
    · cases h
      exact ⟨sizeM_pos _ _, put_sz _ _, put_fit (kid_fit hp _) (kid_fit ht _), by have := sizeM_small (pz 1) (kz 1); omega⟩
    · cases h
  split at h
  · split at h
    · cases h
      exact ⟨one _, rfl, kid_fit hp _, by have := pz (if t.kind = 15 then 1 else 0); omega⟩
    · cases h
  split at h
  · cases h
    exact ⟨sizeM_pos _ _, put_sz _ _, put_fit (kid_fit ht _) (kid_fit ht _), by have := sizeM_small (kz 2) (kz 1); omega⟩
  split at h
  · split at h
    · cases h
      have := body_ok hc t.num t.levels
      exact ⟨one _, rfl, this.1, by omega⟩
    · cases h
  split at h
  · split at h
    · cases h
      have h1 := treeArgs_sz t (place t) hs (by omega)
      have h2 := sizeM_small (kz 1) (pz 0)
      have h3 := sizeM_nonneg (kid t 1) (kid (place t) 0)
      refine ⟨by unfold treeCost; omega, tree_sz _ _, tree_fit (by omega) ht hp, by unfold treeCost; omega⟩
    · cases h
  split at h
  · split at h
    · cases h
      exact ⟨one _, rfl, kid_fit ht _, by have := kz 3; omega⟩
    · cases h
  split at h
  · split at h
    · cases h
      exact ⟨one _, rfl, kid_fit ht _, by have := kz ((place t).num + 1); omega⟩
    · cases h
  · cases h

/-! ### With just the kids that are looked at -/

theorem withKids_swap (t x y : Term) (a : Int) (h0 : 0 ≤ a) : ∀ (n : Nat), Term.szs (withKids t x a n) + (if a < n then y.sz else 0) = Term.szs (withKids t y a n) + (if a < n then x.sz else 0)
  | 0 => by
    rw [if_neg (by omega), if_neg (by omega)]; simp [withKids]
  | n + 1 => by
    have ih := withKids_swap t x y a h0 n
    rw [withKids_succ, withKids_succ, Term.szs_append, Term.szs_append]
    simp only [Term.szs]
    by_cases e : (n : Int) = a
    · rw [if_pos e, if_pos e, if_pos (by omega), if_pos (by omega)]
      rw [if_neg (by omega), if_neg (by omega)] at ih
      omega
    · rw [if_neg e, if_neg e]
      by_cases e2 : a < (n : Int)
      · rw [if_pos e2, if_pos e2] at ih
        rw [if_pos (by omega), if_pos (by omega)]
        omega
      · rw [if_neg e2, if_neg e2] at ih
        rw [if_neg (by omega), if_neg (by omega)]
        omega
theorem with_swap (t x y : Term) {a m : Int} (h0 : 0 ≤ a) (h1 : a < m) : (withM t x a m).sz + y.sz = (withM t y a m).sz + x.sz := by
  have := withKids_swap t x y a h0 m.toNat
  rw [if_pos (by omega), if_pos (by omega)] at this
  rw [Term.sz_eq (withM t x a m), Term.sz_eq (withM t y a m)]
  show 1 + Term.szs (withKids t x a m.toNat) + y.sz = 1 + Term.szs (withKids t y a m.toNat) + x.sz
  omega

theorem withKids_own (t : Term) (a : Int) : ∀ (n : Nat), Term.szs (withKids t (kid t a) a n) ≤ Term.szs (t.kids.take n) + (n - t.kids.length)
  | 0 => by simp [withKids, Term.szs]
  | n + 1 => by
    have ih := withKids_own t a n
    rw [withKids_succ, Term.szs_append]
    have e : (if (n : Int) = a then kid t a else kid t n) = kid t n := by
      split
      · rename_i h; rw [h]
      · rfl
    rw [e]
    simp only [Term.szs]
    by_cases hn : n < t.kids.length
    · rw [Term.szs_take_succ hn]
      have : kid t n = t.kids.getD n default := by unfold kid; rw [if_neg (by omega)]; rfl
      rw [this]; omega
    · have : kid t n = T0 := by unfold kid; rw [if_pos (by omega)]
      rw [this, List.take_of_length_le (by omega)]
      rw [List.take_of_length_le (by omega)] at ih
      simp [T0, Term.sz, Term.szs]; omega
theorem szs_take_le : ∀ (ts : List Term) (n : Nat), Term.szs (ts.take n) ≤ Term.szs ts
  | [], n => by simp
  | t :: ts, 0 => by simp [Term.szs]
  | t :: ts, n + 1 => by simp [Term.szs]; exact szs_take_le ts n
theorem with_own {t : Term} (h : (spotM t).2.2 = true) (hl : t.kids.length ≤ 4611686018427387904) : (withM t (kid t (spotM t).1) (spotM t).1 (spotM t).2.1).sz ≤ t.sz + 6 := by
  have h1 := withKids_own t (spotM t).1 (spotM t).2.1.toNat
  have h2 := szs_take_le t.kids (spotM t).2.1.toNat
  obtain ⟨r0, r1, r2⟩ := spot_range h hl
  rw [Term.sz_eq, Term.sz_eq t]
  show 1 + Term.szs (withKids t _ _ _) ≤ _
  omega

def psz (t : Term) : Nat := (pad t).sz
theorem psz_F {t : Term} (h : (spotM t).2.2 = false) : psz t = t.sz := by rw [psz, pad_F h]
theorem psz_T0 : psz T0 = 1 := by rw [psz_F spot_T0]; simp [T0, Term.sz, Term.szs]
theorem psz_kid {t : Term} (h : (spotM t).2.2 = true) (hl : t.kids.length ≤ 4611686018427387904) : psz (kid t (spotM t).1) < psz t := by
  obtain ⟨r0, r1, r2⟩ := spot_range h hl
  rw [psz, psz, pad_T h, Term.sz_eq (withM _ _ _ _)]
  have hm : pad (kid t (spotM t).1) ∈ (withM t (pad (kid t (spotM t).1)) (spotM t).1 (spotM t).2.1).kids := by
    refine List.mem_iff_getElem?.2 ⟨(spotM t).1.toNat, ?_⟩
    show (withKids _ _ _ _)[_]? = _
    rw [withKids_get _ _ _ _ _ (by omega), if_pos (by omega)]
  have := Term.sz_kid hm
  omega
theorem psz_le : ∀ (m : Nat) (t : Term), spz t = m → t.fit 1099511627776 → psz t ≤ 7 * t.sz := by
  intro m
  induction m using Nat.strongRecOn with
  | _ m ih =>
    intro t hm hf
    cases h : (spotM t).2.2 with
    | false => rw [psz_F h]; omega
    | true =>
      have hl := hf.len
      have hl' : t.kids.length ≤ 4611686018427387904 := by omega
      obtain ⟨r0, r1, r2⟩ := spot_range h hl'
      have h1 := with_own h hl'
      have h2 := with_swap t (kid t (spotM t).1) (pad (kid t (spotM t).1)) r0 r1
      have hp := Term.sz_pos t
      by_cases hk : (spotM t).1 < 0 ∨ (t.kids.length : Int) ≤ (spotM t).1
      · have e : kid t (spotM t).1 = T0 := by unfold kid; rw [if_pos hk]
        have e2 := psz_T0
        rw [psz, pad_T h]
        rw [e] at h1 h2 ⊢
        have e3 : T0.sz = 1 := by simp [T0, Term.sz, Term.szs]
        rw [psz] at e2
        omega
      · have h3 := kid_lt hk
        have h4 := ih _ (by rw [← hm]; exact spz_kid h) (kid t (spotM t).1) rfl (kid_fit hf _)
        rw [psz] at h4
        rw [psz, pad_T h]
        omega

theorem pad_fit : ∀ (m : Nat) (t : Term), spz t = m → t.fit 1099511627776 → (pad t).fit 1099511627776 := by
  intro m
  induction m using Nat.strongRecOn with
  | _ m ih =>
    intro t hm hf
    cases h : (spotM t).2.2 with
    | false => rw [pad_F h]; exact hf
    | true =>
      rw [pad_T h]
      have := spot_many h hf.len (by omega) (by omega)
      exact with_fit hf (ih _ (by rw [← hm]; exact spz_kid h) _ rfl (kid_fit hf _)) _ _ (by omega)

/-- what a place's own step gives, weighed -/
theorem psz_with {t k : Term} (h : (spotM t).2.2 = true) (hl : t.kids.length ≤ 4611686018427387904) :
    psz (withM t k (spotM t).1 (spotM t).2.1) + psz (kid t (spotM t).1) = psz t + psz k := by
  obtain ⟨r0, r1, r2⟩ := spot_range h hl
  have hs := spot_with k h hl
  have h1 : (spotM (withM t k (spotM t).1 (spotM t).2.1)).2.2 = true := by rw [hs]; exact h
  rw [psz, pad_T h1, hs, kid_with _ r0 r1, if_pos rfl, with_with, psz, psz, psz, pad_T h]
  exact with_swap _ _ _ r0 r1

theorem once_ok {cs : List Core} (hc : CoresOk cs) : ∀ (m : Nat) (t : Term), spz t = m → t.fit 1099511627776 → psz t ≤ 268435456 → ∀ u c, stepOnce cs t = some (u, c) →
    1 ≤ c ∧ c ≤ 72057596190000000 ∧ u.fit 1099511627776 ∧ (psz u : Int) ≤ psz t + 7 * c := by
  intro m
  induction m using Nat.strongRecOn with
  | _ m ih =>
    intro t hm hf hz u c ho
    cases h : (spotM t).2.2 with
    | false =>
      rw [once_F h] at ho
      rw [psz_F h] at hz
      have := own_ok hc hf hz ho
      have h7 := psz_le _ u rfl this.2.2.1
      exact ⟨this.1, this.2.2.2, this.2.2.1, by omega⟩
    | true =>
      have hl := hf.len
      have hl' : t.kids.length ≤ 4611686018427387904 := by omega
      cases hk : stepOnce cs (kid t (spotM t).1) with
      | some p =>
        obtain ⟨k, d⟩ := p
        rw [once_some h hk] at ho
        cases ho
        have hpk := psz_kid h hl'
        have := ih _ (by rw [← hm]; exact spz_kid h) _ rfl (kid_fit hf _) (by omega) k c hk
        have hw := psz_with (k := k) h hl'
        have hmany := spot_many h hl (by omega) (by omega)
        exact ⟨this.1, this.2.1, with_fit hf this.2.2.1 _ _ (by omega), by omega⟩
      | none =>
        rw [once_none h hk] at ho
        have := own_ok hc (pad_fit _ t rfl hf) hz ho
        have h7 := psz_le _ u rfl this.2.2.1
        exact ⟨this.1, this.2.2.2, this.2.2.1, by omega⟩

end Sp

/- The way to the head, as the walk of head meets it. -/
set_option linter.unusedVariables false
set_option linter.unusedSimpArgs false
namespace Sp
open Go

def stepU (cs : List Core) (t : Term) : Term := match ownStep cs t with | some (u, _) => u | none => t
def stepC (cs : List Core) (t : Term) : Int := match ownStep cs t with | some (_, c) => c | none => 0
def onceT (cs : List Core) (t : Term) : Term := match stepOnce cs t with | some (u, _) => u | none => pad t
def onceC (cs : List Core) (t : Term) : Int := match stepOnce cs t with | some (_, c) => c | none => 0

theorem step_no {cs : List Core} {t : Term} (h : (ownStep cs t).isSome = false) : stepU cs t = t ∧ stepC cs t = 0 := by
  unfold stepU stepC
  cases e : ownStep cs t with
  | none => exact ⟨rfl, rfl⟩
  | some p => rw [e] at h; cases h
theorem step_yes {cs : List Core} {t : Term} (h : (ownStep cs t).isSome = true) : ownStep cs t = some (stepU cs t, stepC cs t) := by
  unfold stepU stepC
  cases e : ownStep cs t with
  | none => rw [e] at h; cases h
  | some p => obtain ⟨u, c⟩ := p; rfl
theorem once_no {cs : List Core} {t : Term} (h : (stepOnce cs t).isSome = false) : stepOnce cs t = none ∧ onceT cs t = pad t ∧ onceC cs t = 0 := by
  unfold onceT onceC
  cases e : stepOnce cs t with
  | none => exact ⟨rfl, rfl, rfl⟩
  | some p => rw [e] at h; cases h
theorem once_yes {cs : List Core} {t : Term} (h : (stepOnce cs t).isSome = true) : stepOnce cs t = some (onceT cs t, onceC cs t) := by
  unfold onceT onceC
  cases e : stepOnce cs t with
  | none => rw [e] at h; cases h
  | some p => obtain ⟨u, c⟩ := p; rfl
theorem stepC_bound {cs : List Core} (hc : CoresOk cs) {t : Term} (ht : t.fit 1099511627776) (hs : t.sz ≤ 268435456) : 0 ≤ stepC cs t ∧ stepC cs t ≤ 72057596190000000 := by
  cases h : (ownStep cs t).isSome with
  | false => rw [(step_no h).2]; omega
  | true => have := own_ok hc ht hs (step_yes h); omega

theorem rest_gone {cs : List Core} {t : Term} {F : Int} {dn : Bool} (hF : 0 ≤ F) (h : ¬ stepC cs t ≤ F) : rest cs t F dn = (false, T0, F, dn) := by
  cases hi : (ownStep cs t).isSome with
  | false => rw [(step_no hi).2] at h; exact absurd hF h
  | true => rw [rest, step_yes hi]; simp only; rw [if_neg (by omega)]
theorem rest_none {cs : List Core} {t : Term} {F : Int} {dn : Bool} (h : (ownStep cs t).isSome = false) : rest cs t F dn = (true, t, F, dn) := by
  rw [rest]
  cases e : ownStep cs t with
  | none => rfl
  | some p => rw [e] at h; cases h
theorem rest_some {cs : List Core} {t : Term} {F : Int} {dn : Bool} (h : (ownStep cs t).isSome = true) (h1 : 1 ≤ stepC cs t) (h2 : stepC cs t ≤ F) : rest cs t F dn = multi cs (stepU cs t) (F - stepC cs t) true := by
  rw [rest, step_yes h]; simp only; rw [if_pos ⟨h1, h2⟩]

theorem multi_ok {cs : List Core} (hc : CoresOk cs) : ∀ (n : Nat) (t : Term) (F : Int) (dn : Bool), F.toNat = n → t.fit 1099511627776 → 0 ≤ F → (psz t : Int) + 7 * F ≤ 268435456 →
    0 ≤ (multi cs t F dn).2.2.1 ∧ (multi cs t F dn).2.2.1 ≤ F ∧ ((multi cs t F dn).1 = true → (multi cs t F dn).2.1.fit 1099511627776 ∧ ((multi cs t F dn).2.1.sz : Int) + 7 * (multi cs t F dn).2.2.1 ≤ psz t + 7 * F) := by
  intro n
  induction n using Nat.strongRecOn with
  | _ n ih =>
    intro t F dn hn hf h0 hz
    cases h : stepOnce cs t with
    | none =>
      rw [multi_none h]
      exact ⟨h0, Int.le_refl _, fun _ => ⟨pad_fit _ t rfl hf, Int.le_refl _⟩⟩
    | some p =>
      obtain ⟨u, c⟩ := p
      have ho := once_ok hc _ t rfl hf (by omega) u c h
      by_cases hcF : 1 ≤ c ∧ c ≤ F
      · rw [multi_some h hcF]
        have := ih (F - c).toNat (by omega) u (F - c) true rfl ho.2.2.1 (by omega) (by omega)
        exact ⟨this.1, by omega, fun e => ⟨(this.2.2 e).1, by have := (this.2.2 e).2; omega⟩⟩
      · rw [multi_gone h hcF]
        exact ⟨h0, Int.le_refl _, fun e => by cases e⟩

/-- what stands behind the place's way -/
theorem behind_ok {cs : List Core} (hc : CoresOk cs) {u : Term} {F : Int} {d : Bool} (hf : u.fit 1099511627776) (hF : 0 ≤ F) (hz : (psz u : Int) + 7 * F ≤ 268435456) (h : (spotM u).2.2 = true) :
    0 ≤ (multi cs (kid u (spotM u).1) F d).2.2.1 ∧ (multi cs (kid u (spotM u).1) F d).2.2.1 ≤ F ∧ ((multi cs (kid u (spotM u).1) F d).1 = true →
      (withM u (multi cs (kid u (spotM u).1) F d).2.1 (spotM u).1 (spotM u).2.1).fit 1099511627776 ∧
      ((withM u (multi cs (kid u (spotM u).1) F d).2.1 (spotM u).1 (spotM u).2.1).sz : Int) + 7 * (multi cs (kid u (spotM u).1) F d).2.2.1 ≤ 268435456 ∧
      multi cs u F d = rest cs (withM u (multi cs (kid u (spotM u).1) F d).2.1 (spotM u).1 (spotM u).2.1) (multi cs (kid u (spotM u).1) F d).2.2.1 (multi cs (kid u (spotM u).1) F d).2.2.2) := by
  have hl := hf.len
  have hl' : u.kids.length ≤ 4611686018427387904 := by omega
  have hpk := psz_kid h hl'
  have hm := multi_ok hc _ (kid u (spotM u).1) F d rfl (kid_fit hf _) hF (by omega)
  refine ⟨hm.1, hm.2.1, fun e => ?_⟩
  obtain ⟨hfit, hsz⟩ := hm.2.2 e
  have hmany := spot_many h hl (by omega) (by omega)
  obtain ⟨r0, r1, _⟩ := spot_range h hl'
  refine ⟨with_fit hf hfit _ _ (by omega), ?_, ?_⟩
  · have h1 := with_swap u (multi cs (kid u (spotM u).1) F d).2.1 (pad (kid u (spotM u).1)) r0 r1
    rw [← pad_T h] at h1
    have e1 : psz u = (pad u).sz := rfl
    have e2 : psz (kid u (spotM u).1) = (pad (kid u (spotM u).1)).sz := rfl
    omega
  · rw [multi_T _ rfl h hl', after, e, cond_true]

theorem onceC_bound {cs : List Core} (hc : CoresOk cs) {t : Term} (ht : t.fit 1099511627776) (hs : psz t ≤ 268435456) : 0 ≤ onceC cs t ∧ onceC cs t ≤ 72057596190000000 ∧ (onceT cs t).fit 1099511627776 ∧ ((onceT cs t).sz ≤ psz t ∨ (stepOnce cs t).isSome = true) := by
  cases h : (stepOnce cs t).isSome with
  | false =>
    obtain ⟨_, e1, e2⟩ := once_no h
    rw [e1, e2]
    exact ⟨by omega, by omega, pad_fit _ t rfl ht, .inl (Nat.le_refl _)⟩
  | true =>
    have := once_ok hc _ t rfl ht hs _ _ (once_yes h)
    exact ⟨by omega, this.2.1, this.2.2.1, .inr rfl⟩

theorem once_kid {cs : List Core} {t : Term} (h : (spotM t).2.2 = true) (hk : (stepOnce cs (kid t (spotM t).1)).isSome = true) :
    onceT cs t = withM t (onceT cs (kid t (spotM t).1)) (spotM t).1 (spotM t).2.1 ∧ onceC cs t = onceC cs (kid t (spotM t).1) ∧ (stepOnce cs t).isSome = true := by
  have h1 := once_some h (once_yes hk)
  refine ⟨?_, ?_, by rw [h1]; rfl⟩
  · rw [onceT, h1]
  · conv => lhs; rw [onceC, h1]
theorem once_own {cs : List Core} {t : Term} (h : (spotM t).2.2 = true) (hk : (stepOnce cs (kid t (spotM t).1)).isSome = false) :
    withM t (onceT cs (kid t (spotM t).1)) (spotM t).1 (spotM t).2.1 = pad t ∧ onceC cs (kid t (spotM t).1) = 0 ∧ stepOnce cs t = ownStep cs (pad t) := by
  obtain ⟨h1, h2, h3⟩ := once_no hk
  exact ⟨by rw [h2, pad_T h], h3, once_none h h1⟩
theorem once_no' {cs : List Core} {t U : Term} (h : stepOnce cs t = ownStep cs U) (hU : pad t = U) (hn : (ownStep cs U).isSome = false) : onceT cs t = U ∧ onceC cs t = 0 ∧ (stepOnce cs t).isSome = false ∧ stepC cs U = 0 ∧ stepU cs U = U := by
  rw [← h] at hn
  obtain ⟨_, h2, h3⟩ := once_no hn
  rw [h] at hn
  exact ⟨by rw [h2, hU], h3, by rw [h]; exact hn, (step_no hn).2, (step_no hn).1⟩
theorem once_yes' {cs : List Core} {t U : Term} (h : stepOnce cs t = ownStep cs U) (hn : (ownStep cs U).isSome = true) : onceT cs t = stepU cs U ∧ onceC cs t = stepC cs U ∧ (stepOnce cs t).isSome = true := by
  have h1 := step_yes hn
  refine ⟨?_, ?_, by rw [h]; exact hn⟩
  · rw [onceT, h, h1]
  · rw [onceC, h, h1]

end Sp

/- What Whnf and Step answer. -/
set_option linter.unusedVariables false
set_option linter.unusedSimpArgs false
namespace Sp
open Go

mutual
theorem lift00' {B : Nat} (f : Int) : ∀ (t : Term) (b : Int), t.fit B → walkM (liftG 0 f) no b t = t
  | .mk k n a ls ks, b, h => by
    rw [walkM]
    have hg : liftG 0 f b (.mk k n a ls ks) = .mk k n a ls ks := by
      unfold liftG
      split
      · have := h.nr
        simp only [Term.num] at this
        simp only [Term.kind, Term.num, Term.at_, Term.levels, Term.kids, Int.add_zero]
        rw [w64_id this.1 this.2]
      · rfl
    rw [hg]
    simp only [no, cond_false, Term.kind, Term.num, Term.at_, Term.levels]
    rw [lift00s f ks b k 0 (fun t ht => (Term.fit_iff.1 h).2.2.2.1 t ht)]
theorem lift00s {B : Nat} (f : Int) : ∀ (ts : List Term) (b k : Int) (i : Nat), (∀ t ∈ ts, t.fit B) → walkMs (liftG 0 f) no b k i ts = ts
  | [], b, k, i, h => by simp [walkMs]
  | t :: ts, b, k, i, h => by
    rw [walkMs, lift00' f t _ (h t (by simp)), lift00s f ts b k (i + 1) (fun u hu => h u (by simp [hu]))]
end
theorem lift00 {B : Nat} {t : Term} (h : t.fit B) : lift t 0 0 = t := lift00' 0 t 0 h

theorem once_sz {cs : List Core} (hc : CoresOk cs) : ∀ (m : Nat) (t : Term), spz t = m → t.fit 1099511627776 → psz t ≤ 268435456 → ∀ u c, stepOnce cs t = some (u, c) → (u.sz : Int) ≤ psz t + c := by
  intro m
  induction m using Nat.strongRecOn with
  | _ m ih =>
    intro t hm hf hz u c ho
    cases h : (spotM t).2.2 with
    | false =>
      rw [once_F h] at ho
      rw [psz_F h] at hz ⊢
      have := own_ok hc hf hz ho
      omega
    | true =>
      have hl := hf.len
      have hl' : t.kids.length ≤ 4611686018427387904 := by omega
      cases hk : stepOnce cs (kid t (spotM t).1) with
      | some p =>
        obtain ⟨k, d⟩ := p
        rw [once_some h hk] at ho
        cases ho
        have hpk := psz_kid h hl'
        obtain ⟨r0, r1, _⟩ := spot_range h hl'
        have := ih _ (by rw [← hm]; exact spz_kid h) _ rfl (kid_fit hf _) (by omega) k c hk
        have hw := with_swap t k (pad (kid t (spotM t).1)) r0 r1
        rw [← pad_T h] at hw
        have e1 : psz t = (pad t).sz := rfl
        have e2 : psz (kid t (spotM t).1) = (pad (kid t (spotM t).1)).sz := rfl
        omega
      | none =>
        rw [once_none h hk] at ho
        have := own_ok hc (pad_fit _ t rfl hf) hz ho
        omega

def whnfM (cs : List Core) (t : Term) (fuel : Int) : Term × Int × Int :=
  if fuel < 0 ∨ 1073741824 < fuel then (T0, 0, 2) else if (multi cs t fuel false).1 = true then ((multi cs t fuel false).2.1, (multi cs t fuel false).2.2.1, 0) else (T0, 0, 5)
def stepM (cs : List Core) (t : Term) : Term × Int × Bool := match stepOnce cs t with | some (u, c) => (u, c, true) | none => (t, 0, false)

theorem whnfM_arg {cs : List Core} {t : Term} {fuel : Int} (h : fuel < 0 ∨ 1073741824 < fuel) : whnfM cs t fuel = (T0, 0, 2) := if_pos h
theorem whnfM_ok {cs : List Core} {t : Term} {fuel : Int} (h : ¬ (fuel < 0 ∨ 1073741824 < fuel)) (h2 : (multi cs t fuel false).1 = true) : whnfM cs t fuel = ((multi cs t fuel false).2.1, (multi cs t fuel false).2.2.1, 0) := by rw [whnfM, if_neg h, if_pos h2]
theorem whnfM_gone {cs : List Core} {t : Term} {fuel : Int} (h : ¬ (fuel < 0 ∨ 1073741824 < fuel)) (h2 : ¬ (multi cs t fuel false).1 = true) : whnfM cs t fuel = (T0, 0, 5) := by rw [whnfM, if_neg h, if_neg h2]
theorem stepM_no {cs : List Core} {t : Term} (h : (stepOnce cs t).isSome = false) : stepM cs t = (t, 0, false) := by rw [stepM, (once_no h).1]
theorem stepM_yes {cs : List Core} {t : Term} (h : (stepOnce cs t).isSome = true) : stepM cs t = (onceT cs t, onceC cs t, true) := by rw [stepM, once_yes h]

end Sp

/- The stage's law, over what Whnf and Step answer. -/
set_option linter.unusedVariables false
set_option linter.unusedSimpArgs false
set_option maxRecDepth 20000
namespace Sp
open Go

/-! ### The chapter's examples -/

abbrev tv (n : Int) : Term := .mk 1 n 0 [] []
abbrev tE : Term := .mk 23 1 2 [] []
abbrev tL : Term := .mk 5 0 0 [] [.mk 22 2 0 [] [], tv 0]
abbrev tA : Term := .mk 6 0 0 [] [tL, tE]
abbrev tP : Term := .mk 13 0 0 [] [tv 1, tv 2]
abbrev tB : Term := .mk 24 0 2 [] [.mk 22 1 0 [] [], tv 1, tP, tA]

theorem onceTL : stepOnce [] tL = none := by
  rw [once_F (by rfl)]; rfl
theorem onceTE : stepOnce [] tE = none := by
  rw [once_F (by rfl)]; rfl
theorem onceTP : stepOnce [] tP = none := by
  rw [once_F (by rfl)]; rfl
theorem padA : pad tA = tA := by
  rw [pad_T (by rfl)]
  show withM tA (pad tL) 0 2 = tA
  rw [pad_F (by rfl)]; rfl
theorem onceTA : stepOnce [] tA = some (tE, 1) := by
  rw [once_none (by rfl) onceTL, padA]
  rfl
abbrev tB2 : Term := .mk 24 0 2 [] [.mk 22 1 0 [] [], tv 1, tP, tE]
theorem spotB : spotM tB = (3, 4, true) := by decide
theorem spotB2 : spotM tB2 = (3, 4, true) := by decide
theorem onceTB : stepOnce [] tB = some (tB2, 1) := by
  have h : stepOnce [] (kid tB (spotM tB).1) = some (tE, 1) := by rw [spotB]; exact onceTA
  rw [once_some (by rw [spotB]) h, spotB]
  rfl
theorem onceTB2 : stepOnce [] tB2 = some (tP, 3) := by
  have h : stepOnce [] (kid tB2 (spotM tB2).1) = none := by rw [spotB2]; exact onceTE
  rw [once_none (by rw [spotB2]) h]
  have hp : pad tB2 = tB2 := by
    rw [pad_T (by rw [spotB2]), spotB2]
    show withM tB2 (pad tE) 3 4 = tB2
    rw [pad_F (by rfl)]; rfl
  rw [hp]
  have hpl : place tB2 = tE := by rw [place, spotB2]; rfl
  rw [ownStep, if_neg (by decide), if_neg (by decide), if_neg (by decide), if_neg (by decide), if_neg (by decide), if_neg (by decide), if_pos (by rfl), hpl, spotB2, if_pos (by decide)]
  rfl
theorem whnf_A5 : whnfM [] tA 5 = (tE, 4, 0) := by
  have h : multi [] tA 5 false = (true, tE, 4, true) := by
    rw [multi_some onceTA (by omega), multi_none onceTE, pad_F (by rfl)]; rfl
  rw [whnfM_ok (by omega) (by rw [h]), h]
theorem whnf_A0 : whnfM [] tA 0 = (T0, 0, 5) := by
  have h : multi [] tA 0 false = (false, T0, 0, false) := multi_gone onceTA (by omega)
  rw [whnfM_gone (by omega) (by rw [h]; simp)]
theorem whnf_B5 : whnfM [] tB 5 = (tP, 1, 0) := by
  have h : multi [] tB 5 false = (true, tP, 1, true) := by
    rw [multi_some onceTB (by omega), multi_some onceTB2 (by omega), multi_none onceTP, pad_F (by rfl)]; rfl
  rw [whnfM_ok (by omega) (by rw [h]), h]

/-! ### Steps and the way to the head -/

theorem multi_dn {cs : List Core} : ∀ (n : Nat) (t : Term) (F : Int) (d d' : Bool), F.toNat = n → (multi cs t F d).1 = (multi cs t F d').1 ∧ (multi cs t F d).2.1 = (multi cs t F d').2.1 ∧ (multi cs t F d).2.2.1 = (multi cs t F d').2.2.1 := by
  intro n t F d d' _
  cases h : stepOnce cs t with
  | none => rw [multi_none h, multi_none h]; exact ⟨rfl, rfl, rfl⟩
  | some p =>
    obtain ⟨u, c⟩ := p
    by_cases hc : 1 ≤ c ∧ c ≤ F
    · rw [multi_some h hc, multi_some h hc]; exact ⟨rfl, rfl, rfl⟩
    · rw [multi_gone h hc, multi_gone h hc]; exact ⟨rfl, rfl, rfl⟩

theorem whnf_step {cs : List Core} {t u : Term} {c F : Int} (h : stepOnce cs t = some (u, c)) (hc : 1 ≤ c) (h0 : 0 ≤ F) (h1 : F ≤ 1073741824) : whnfM cs t F = if c ≤ F then whnfM cs u (F - c) else (T0, 0, 5) := by
  by_cases hF : c ≤ F
  · rw [if_pos hF]
    have hm := multi_some (dn := false) h ⟨hc, hF⟩
    have hd := multi_dn (cs := cs) _ u (F - c) true false rfl
    have n1 : ¬ (F < 0 ∨ 1073741824 < F) := by omega
    have n2 : ¬ (F - c < 0 ∨ 1073741824 < F - c) := by omega
    unfold whnfM
    rw [if_neg n1, if_neg n2, hm, hd.1, hd.2.1, hd.2.2]
  · rw [if_neg hF, whnfM_gone (by omega)]
    rw [multi_gone h (by omega)]; simp
theorem whnf_none {cs : List Core} {t : Term} {F : Int} (h : stepOnce cs t = none) (h0 : 0 ≤ F) (h1 : F ≤ 1073741824) : whnfM cs t F = (pad t, F, 0) := by
  rw [whnfM_ok (by omega) (by rw [multi_none h]), multi_none h]

/-- so much was stepped -/
def Reached (cs : List Core) (t u : Term) (cost : Int) : Prop := ∀ F, 0 ≤ F → F ≤ 1073741824 → whnfM cs t F = if cost ≤ F then whnfM cs u (F - cost) else (T0, 0, 5)
theorem Reached.start (cs : List Core) (t : Term) : Reached cs t t 0 := fun F h0 h1 => by rw [if_pos h0, Int.sub_zero]
theorem Reached.step {cs : List Core} {t u v : Term} {cost c : Int} (h : Reached cs t u cost) (h0 : 0 ≤ cost) (hs : stepOnce cs u = some (v, c)) (hc : 1 ≤ c) : Reached cs t v (cost + c) := fun F f0 f1 => by
  rw [h F f0 f1]
  by_cases hF : cost ≤ F
  · rw [if_pos hF, whnf_step hs hc (by omega) (by omega)]
    by_cases hF2 : c ≤ F - cost
    · rw [if_pos hF2, if_pos (by omega)]; congr 1; omega
    · rw [if_neg hF2, if_neg (by omega)]
  · rw [if_neg hF, if_neg (by omega)]
theorem Reached.done {cs : List Core} {t u : Term} {cost F : Int} (h : Reached cs t u cost) (hs : stepOnce cs u = none) (h0 : 0 ≤ cost) (f0 : cost ≤ F) (f1 : F ≤ 1073741824) : whnfM cs t F = (pad u, F - cost, 0) := by
  rw [h F (by omega) f1, if_pos f0, whnf_none hs (by omega) (by omega)]
theorem Reached.short {cs : List Core} {t u : Term} {cost F : Int} (h : Reached cs t u cost) (h0 : 0 ≤ F) (f0 : F < cost) (f1 : F ≤ 1073741824) : whnfM cs t F = (T0, 0, 5) := by
  rw [h F h0 f1, if_neg (by omega)]

theorem pad_none {cs : List Core} : ∀ (m : Nat) (t : Term), spz t = m → t.fit 1099511627776 → stepOnce cs t = none → stepOnce cs (pad t) = none ∧ pad (pad t) = pad t := by
  intro m
  induction m using Nat.strongRecOn with
  | _ m ih =>
    intro t hm hf h
    cases hs : (spotM t).2.2 with
    | false => rw [pad_F hs]; exact ⟨h, pad_F hs⟩
    | true =>
      have hl := hf.len
      have hl' : t.kids.length ≤ 4611686018427387904 := by omega
      obtain ⟨r0, r1, _⟩ := spot_range hs hl'
      have hk : stepOnce cs (kid t (spotM t).1) = none := by
        cases hk : stepOnce cs (kid t (spotM t).1) with
        | none => rfl
        | some p => obtain ⟨k, c⟩ := p; rw [once_some hs hk] at h; cases h
      have hi := ih _ (by rw [← hm]; exact spz_kid hs) _ rfl (kid_fit hf _) hk
      have hsp : spotM (pad t) = spotM t := by rw [pad_T hs]; exact spot_with _ hs hl'
      have hkp : kid (pad t) (spotM t).1 = pad (kid t (spotM t).1) := by rw [pad_T hs, kid_with _ r0 r1, if_pos rfl]
      have hpp : pad (pad t) = pad t := by
        have e : (spotM (pad t)).2.2 = true := by rw [hsp]; exact hs
        rw [pad_T e, hsp, hkp, hi.2]
        conv => lhs; rw [pad_T hs]
        rw [with_with, ← pad_T hs]
      refine ⟨?_, hpp⟩
      have e : (spotM (pad t)).2.2 = true := by rw [hsp]; exact hs
      have hk2 : stepOnce cs (kid (pad t) (spotM (pad t)).1) = none := by rw [hsp, hkp]; exact hi.1
      rw [once_none e hk2, hpp, ← once_none hs hk]
      exact h

end Sp

/- A measure of terms that holds all the way down; what Whnf gives, weighed. -/
set_option linter.unusedVariables false
set_option linter.unusedSimpArgs false
namespace Sp
open Go

/-- how many kids are wanting at a spot -/
def lack (k a : Int) (l : Nat) : Nat := if (spotOf k a l).2.2 = true then (spotOf k a l).2.1.toNat - l else 0
mutual
def fsz : Term → Nat
  | .mk k n a ls ks => 1 + lack k a ks.length + fszs ks
def fszs : List Term → Nat
  | [] => 0
  | t :: ts => fsz t + fszs ts
end
theorem fsz_eq (t : Term) : fsz t = 1 + lack t.kind t.at_ t.kids.length + fszs t.kids := by cases t; rw [fsz]; rfl
theorem fsz_pos (t : Term) : 1 ≤ fsz t := by rw [fsz_eq]; omega
theorem fszs_append : ∀ (a b : List Term), fszs (a ++ b) = fszs a + fszs b
  | [], b => by simp [fszs]
  | t :: a, b => by simp [fszs, fszs_append a b]; omega
theorem fsz_mem : ∀ {ts : List Term} {k : Term}, k ∈ ts → fsz k ≤ fszs ts
  | [], k, h => by cases h
  | t :: ts, k, h => by
    rcases List.mem_cons.1 h with rfl | h
    · simp [fszs]
    · have := fsz_mem h; simp [fszs]; omega
theorem fsz_T0 : fsz T0 = 1 := by
  rw [fsz_eq]; simp [T0, Term.kids, fszs, lack, Term.kind, Term.at_, spotOf]
theorem fsz_kid (t : Term) (k : Int) : fsz (kid t k) ≤ fsz t := by
  unfold kid
  split
  · rw [fsz_T0]; exact fsz_pos t
  · have := fsz_mem (getD_mem (l := t.kids) (i := k.toNat) (by omega))
    rw [fsz_eq t]; omega
theorem fsz_kid' {t k : Term} (h : k ∈ t.kids) : fsz k < fsz t := by
  have := fsz_mem h
  rw [fsz_eq t]; omega

theorem lack_le (k a : Int) (l : Nat) (hl : l ≤ 4611686018427387904) : lack k a l ≤ 6 := by
  unfold lack
  split
  · rename_i h
    obtain ⟨_, _, h2⟩ := spotOf_range h hl
    omega
  · omega
mutual
theorem sz_le_fsz : ∀ (t : Term), t.sz ≤ fsz t
  | .mk k n a ls ks => by rw [Term.sz, fsz]; have := szs_le_fszs ks; omega
theorem szs_le_fszs : ∀ (ts : List Term), Term.szs ts ≤ fszs ts
  | [] => by simp [Term.szs]
  | t :: ts => by rw [Term.szs, fszs]; have := sz_le_fsz t; have := szs_le_fszs ts; omega
end
mutual
theorem fsz_le : ∀ (t : Term), t.fit 1099511627776 → fsz t ≤ 7 * t.sz
  | .mk k n a ls ks, h => by
    rw [fsz, Term.sz]
    have h1 := h.len
    have := lack_le k a ks.length (by simp only [Term.kids] at h1; omega)
    have := fszs_le ks (fun t ht => (Term.fit_iff.1 h).2.2.2.1 t ht)
    omega
theorem fszs_le : ∀ (ts : List Term), (∀ t ∈ ts, t.fit 1099511627776) → fszs ts ≤ 7 * Term.szs ts
  | [], _ => by simp [fszs]
  | t :: ts, h => by
    rw [fszs, Term.szs]
    have := fsz_le t (h t (by simp))
    have := fszs_le ts (fun u hu => h u (by simp [hu]))
    omega
end

mutual
theorem walkM_fsz_no (n f : Int) : ∀ (t : Term) (b : Int), fsz (walkM (liftG n f) no b t) = fsz t
  | .mk k m a ls ks, b => by
    rw [walkM]
    simp only [no, cond_false]
    have e : (liftG n f b (.mk k m a ls ks)).kind = k ∧ (liftG n f b (.mk k m a ls ks)).at_ = a := by
      unfold liftG; split <;> exact ⟨rfl, rfl⟩
    rw [fsz, fsz, e.1, e.2, walkMs_length, walkMs_fsz_no n f ks b k 0]
theorem walkMs_fsz_no (n f : Int) : ∀ (ts : List Term) (b k : Int) (i : Nat), fszs (walkMs (liftG n f) no b k i ts) = fszs ts
  | [], b, k, i => by simp [walkMs]
  | t :: ts, b, k, i => by rw [walkMs, fszs, fszs, walkM_fsz_no n f t, walkMs_fsz_no n f ts b k (i + 1)]
end
theorem lift_fsz (t : Term) (n f : Int) : fsz (lift t n f) = fsz t := walkM_fsz_no n f t 0

/-! Spots -/

theorem fszs_swap (t x y : Term) (a : Int) (h0 : 0 ≤ a) : ∀ (n : Nat), fszs (withKids t x a n) + (if a < n then fsz y else 0) = fszs (withKids t y a n) + (if a < n then fsz x else 0)
  | 0 => by
    rw [if_neg (by omega), if_neg (by omega)]; simp [withKids]
  | n + 1 => by
    have ih := fszs_swap t x y a h0 n
    rw [withKids_succ, withKids_succ, fszs_append, fszs_append]
    simp only [fszs]
    by_cases e : (n : Int) = a
    · rw [if_pos e, if_pos e, if_pos (by omega), if_pos (by omega)]
      rw [if_neg (by omega), if_neg (by omega)] at ih
      omega
    · rw [if_neg e, if_neg e]
      by_cases e2 : a < (n : Int)
      · rw [if_pos e2, if_pos e2] at ih
        rw [if_pos (by omega), if_pos (by omega)]
        omega
      · rw [if_neg e2, if_neg e2] at ih
        rw [if_neg (by omega), if_neg (by omega)]
        omega
theorem fszs_own (t : Term) (a : Int) : ∀ (n : Nat), fszs (withKids t (kid t a) a n) ≤ fszs (t.kids.take n) + (n - t.kids.length)
  | 0 => by simp [withKids, fszs]
  | n + 1 => by
    have ih := fszs_own t a n
    rw [withKids_succ, fszs_append]
    have e : (if (n : Int) = a then kid t a else kid t n) = kid t n := by
      split
      · rename_i h; rw [h]
      · rfl
    rw [e]
    simp only [fszs]
    by_cases hn : n < t.kids.length
    · rw [take_succ_getD hn, fszs_append]
      have : kid t n = t.kids.getD n default := by unfold kid; rw [if_neg (by omega)]; rfl
      rw [this]; simp only [fszs]; omega
    · have : kid t n = T0 := by unfold kid; rw [if_pos (by omega)]
      rw [this, List.take_of_length_le (by omega), fsz_T0]
      rw [List.take_of_length_le (by omega)] at ih
      omega
theorem fszs_take_le : ∀ (ts : List Term) (n : Nat), fszs (ts.take n) ≤ fszs ts
  | [], n => by simp
  | t :: ts, 0 => by simp [fszs]
  | t :: ts, n + 1 => by simp [fszs]; exact fszs_take_le ts n
theorem fsz_with {t x : Term} (h : (spotM t).2.2 = true) (hl : t.kids.length ≤ 4611686018427387904) : fsz (withM t x (spotM t).1 (spotM t).2.1) + fsz (kid t (spotM t).1) ≤ fsz t + fsz x := by
  obtain ⟨r0, r1, r2⟩ := spot_range h hl
  have h1 := fszs_own t (spotM t).1 (spotM t).2.1.toNat
  have h2 := fszs_take_le t.kids (spotM t).2.1.toNat
  have h3 := fszs_swap t x (kid t (spotM t).1) (spotM t).1 r0 (spotM t).2.1.toNat
  rw [if_pos (by omega), if_pos (by omega)] at h3
  have hs := spot_with x h hl
  have e1 : lack t.kind t.at_ t.kids.length = (spotM t).2.1.toNat - t.kids.length := by
    unfold lack; rw [if_pos (show (spotOf t.kind t.at_ t.kids.length).2.2 = true from h)]; rfl
  have e2 : lack t.kind t.at_ (spotM t).2.1.toNat = 0 := by
    unfold lack
    have : spotOf t.kind t.at_ ((spotM t).2.1.toNat : Nat) = spotM t := spotOf_with h hl
    rw [this]
    split <;> omega
  rw [fsz_eq (withM _ _ _ _), with_kids_len, fsz_eq t, e1]
  show 1 + lack t.kind t.at_ _ + fszs (withKids t x (spotM t).1 (spotM t).2.1.toNat) + _ ≤ _
  rw [e2]
  omega

theorem fsz_pad : ∀ (m : Nat) (t : Term), spz t = m → t.fit 1099511627776 → fsz (pad t) ≤ fsz t := by
  intro m
  induction m using Nat.strongRecOn with
  | _ m ih =>
    intro t hm hf
    cases h : (spotM t).2.2 with
    | false => rw [pad_F h]; exact Nat.le_refl _
    | true =>
      have hl := hf.len
      have h1 := fsz_with (x := pad (kid t (spotM t).1)) h (by omega)
      have h2 := ih _ (by rw [← hm]; exact spz_kid h) _ rfl (kid_fit hf _)
      rw [pad_T h]; omega
theorem psz_le_fsz {t : Term} (hf : t.fit 1099511627776) : psz t ≤ fsz t := Nat.le_trans (sz_le_fsz (pad t)) (fsz_pad _ t rfl hf)

theorem once_fsz {cs : List Core} (hc : CoresOk cs) : ∀ (m : Nat) (t : Term), spz t = m → t.fit 1099511627776 → fsz t ≤ 268435456 → ∀ u c, stepOnce cs t = some (u, c) → (fsz u : Int) ≤ fsz t + 7 * c := by
  intro m
  induction m using Nat.strongRecOn with
  | _ m ih =>
    intro t hm hf hz u c ho
    have hps := psz_le_fsz hf
    cases h : (spotM t).2.2 with
    | false =>
      rw [once_F h] at ho
      have hsz := sz_le_fsz t
      have := own_ok hc hf (by omega) ho
      have h7 := fsz_le u this.2.2.1
      omega
    | true =>
      have hl := hf.len
      have hl' : t.kids.length ≤ 4611686018427387904 := by omega
      cases hk : stepOnce cs (kid t (spotM t).1) with
      | some p =>
        obtain ⟨k, d⟩ := p
        rw [once_some h hk] at ho
        cases ho
        have hkz := fsz_kid t (spotM t).1
        have := ih _ (by rw [← hm]; exact spz_kid h) _ rfl (kid_fit hf _) (by omega) k c hk
        have hw := fsz_with (x := k) h hl'
        omega
      | none =>
        rw [once_none h hk] at ho
        have := own_ok hc (pad_fit _ t rfl hf) (Nat.le_trans hps hz) ho
        have h7 := fsz_le u this.2.2.1
        omega

theorem multi_fsz {cs : List Core} (hc : CoresOk cs) : ∀ (n : Nat) (t : Term) (F : Int) (dn : Bool), F.toNat = n → t.fit 1099511627776 → 0 ≤ F → (fsz t : Int) + 7 * F ≤ 268435456 → (multi cs t F dn).1 = true →
    (fsz (multi cs t F dn).2.1 : Int) + 7 * (multi cs t F dn).2.2.1 ≤ fsz t + 7 * F ∧ pad (multi cs t F dn).2.1 = (multi cs t F dn).2.1 ∧ stepOnce cs (multi cs t F dn).2.1 = none := by
  intro n
  induction n using Nat.strongRecOn with
  | _ n ih =>
    intro t F dn hn hf h0 hz
    cases h : stepOnce cs t with
    | none =>
      rw [multi_none h]
      have hp := pad_none _ t rfl hf h
      have := fsz_pad _ t rfl hf
      exact fun _ => ⟨by simp only; omega, hp.2, hp.1⟩
    | some p =>
      obtain ⟨u, c⟩ := p
      have hps := psz_le_fsz hf
      have ho := once_ok hc _ t rfl hf (by omega) u c h
      have hof := once_fsz hc _ t rfl hf (by omega) u c h
      by_cases hcF : 1 ≤ c ∧ c ≤ F
      · rw [multi_some h hcF]
        intro e
        have := ih (F - c).toNat (by omega) u (F - c) true rfl ho.2.2.1 (by omega) (by omega) e
        exact ⟨by omega, this.2⟩
      · rw [multi_gone h hcF]
        intro e; cases e

/-- what Whnf gives, weighed -/
theorem whnf_ok {cs : List Core} (hc : CoresOk cs) {t x : Term} {F F' : Int} (hf : t.fit 1099511627776) (h0 : 0 ≤ F) (h1 : F ≤ 1073741824) (hz : (fsz t : Int) + 7 * F ≤ 268435456) (h : whnfM cs t F = (x, F', 0)) :
    x.fit 1099511627776 ∧ 0 ≤ F' ∧ F' ≤ F ∧ (fsz x : Int) + 7 * F' ≤ fsz t + 7 * F ∧ pad x = x ∧ stepOnce cs x = none := by
  have hps := psz_le_fsz hf
  have n1 : ¬ (F < 0 ∨ 1073741824 < F) := by omega
  cases hm : (multi cs t F false).1 with
  | false => rw [whnfM_gone n1 (by rw [hm]; simp)] at h; cases h
  | true =>
    rw [whnfM_ok n1 hm] at h
    cases h
    have a := multi_ok hc _ t F false rfl hf h0 (by omega)
    have b := multi_fsz hc _ t F false rfl hf h0 hz hm
    exact ⟨(a.2.2 hm).1, a.1, a.2.1, b.1, b.2.1, b.2.2⟩
theorem whnf_err {cs : List Core} {t : Term} {F : Int} (h0 : 0 ≤ F) (h1 : F ≤ 1073741824) (h : (whnfM cs t F).2.2 ≠ 0) : whnfM cs t F = (T0, 0, 5) := by
  have n1 : ¬ (F < 0 ∨ 1073741824 < F) := by omega
  cases hm : (multi cs t F false).1 with
  | false => exact whnfM_gone n1 (by rw [hm]; simp)
  | true => rw [whnfM_ok n1 hm] at h; exact absurd rfl h

theorem multi_reach {cs : List Core} (hc : CoresOk cs) : ∀ (n : Nat) (t : Term) (F : Int) (dn : Bool), F.toNat = n → t.fit 1099511627776 → 0 ≤ F → F ≤ 1073741824 → (fsz t : Int) + 7 * F ≤ 268435456 → (multi cs t F dn).1 = true →
    ∃ u, Reached cs t u (F - (multi cs t F dn).2.2.1) ∧ stepOnce cs u = none ∧ pad u = (multi cs t F dn).2.1 ∧ 0 ≤ F - (multi cs t F dn).2.2.1 := by
  intro n
  induction n using Nat.strongRecOn with
  | _ n ih =>
    intro t F dn hn hf h0 h1 hz
    cases h : stepOnce cs t with
    | none =>
      rw [multi_none h]
      exact fun _ => ⟨t, by rw [Int.sub_self]; exact Reached.start cs t, h, rfl, by simp⟩
    | some p =>
      obtain ⟨u, c⟩ := p
      have hps := psz_le_fsz hf
      have ho := once_ok hc _ t rfl hf (by omega) u c h
      have hof := once_fsz hc _ t rfl hf (by omega) u c h
      by_cases hcF : 1 ≤ c ∧ c ≤ F
      · rw [multi_some h hcF]
        intro e
        obtain ⟨v, r, a, b, d⟩ := ih (F - c).toNat (by omega) u (F - c) true rfl ho.2.2.1 (by omega) (by omega) (by omega) e
        refine ⟨v, ?_, a, b, by omega⟩
        have hst := (Reached.start cs t).step (Int.le_refl 0) h ho.1
        rw [Int.zero_add] at hst
        intro G g0 g1
        rw [hst G g0 g1]
        by_cases hG : c ≤ G
        · rw [if_pos hG, r (G - c) (by omega) (by omega)]
          by_cases hG2 : F - c - (multi cs u (F - c) true).2.2.1 ≤ G - c
          · rw [if_pos hG2, if_pos (by omega)]; congr 1; omega
          · rw [if_neg hG2, if_neg (by omega)]
        · rw [if_neg hG, if_neg (by omega)]
      · rw [multi_gone h hcF]
        intro e; cases e

/-- with more fuel as much more is left -/
theorem whnf_shift {cs : List Core} (hc : CoresOk cs) {t x : Term} {F F' : Int} (hf : t.fit 1099511627776) (h0 : 0 ≤ F) (h1 : F ≤ 1073741824) (hz : (fsz t : Int) + 7 * F ≤ 268435456) (h : whnfM cs t F = (x, F', 0)) {G : Int} (g0 : F - F' ≤ G) (g1 : G ≤ 1073741824) :
    whnfM cs t G = (x, G - (F - F'), 0) := by
  have n1 : ¬ (F < 0 ∨ 1073741824 < F) := by omega
  cases hm : (multi cs t F false).1 with
  | false => rw [whnfM_gone n1 (by rw [hm]; simp)] at h; cases h
  | true =>
    rw [whnfM_ok n1 hm] at h
    cases h
    obtain ⟨u, r, a, b, d⟩ := multi_reach hc _ t F false rfl hf h0 h1 hz hm
    rw [r.done a d g0 g1, b]

end Sp

/- Whether terms are one: what the program reckons. -/
set_option linter.unusedVariables false
set_option linter.unusedSimpArgs false
namespace Sp
open Go

def lvSame (a b : Level) : Bool := decide (normM a = normM b)
def lvsSame : List Level → List Level → Bool
  | [], [] => true
  | a :: as, b :: bs => lvSame a b && lvsSame as bs
  | _, _ => false
def lvLeq (a b : Level) : Bool := (normM a).all fun p => (normM b).any fun q => (decide (p.v = 0) || decide (p.v = q.v)) && decide (p.p ≤ q.p)
mutual
def sameM : Term → Term → Bool
  | .mk k n a ls ks, .mk k' n' a' ls' ks' => decide (k = k') && decide (n = n') && decide (a = a') && lvsSame ls ls' && samesM ks ks'
def samesM : List Term → List Term → Bool
  | [], [] => true
  | t :: ts, u :: us => sameM t u && samesM ts us
  | _, _ => false
end
theorem sameM_eq (t u : Term) : sameM t u = (decide (t.kind = u.kind) && decide (t.num = u.num) && decide (t.at_ = u.at_) && lvsSame t.levels u.levels && samesM t.kids u.kids) := by
  cases t; cases u; rw [sameM]; rfl

theorem lvSame_refl (a : Level) : lvSame a a = true := by simp [lvSame]
theorem lvSame_comm (a b : Level) : lvSame a b = lvSame b a := by
  simp only [lvSame]; congr 1; exact propext ⟨Eq.symm, Eq.symm⟩
theorem lvsSame_refl : ∀ (l : List Level), lvsSame l l = true
  | [] => rfl
  | a :: l => by simp [lvsSame, lvSame_refl, lvsSame_refl l]
theorem lvsSame_comm : ∀ (l m : List Level), lvsSame l m = lvsSame m l
  | [], [] => rfl
  | [], _ :: _ => rfl
  | _ :: _, [] => rfl
  | a :: l, b :: m => by simp [lvsSame, lvSame_comm a b, lvsSame_comm l m]
mutual
theorem sameM_refl : ∀ (t : Term), sameM t t = true
  | .mk k n a ls ks => by simp [sameM, lvsSame_refl, samesM_refl ks]
theorem samesM_refl : ∀ (ts : List Term), samesM ts ts = true
  | [] => by simp [samesM]
  | t :: ts => by simp [samesM, sameM_refl t, samesM_refl ts]
end
mutual
theorem sameM_comm : ∀ (t u : Term), sameM t u = sameM u t
  | .mk k n a ls ks, .mk k' n' a' ls' ks' => by
    have h1 : decide (k = k') = decide (k' = k) := by congr 1; exact propext ⟨Eq.symm, Eq.symm⟩
    have h2 : decide (n = n') = decide (n' = n) := by congr 1; exact propext ⟨Eq.symm, Eq.symm⟩
    have h3 : decide (a = a') = decide (a' = a) := by congr 1; exact propext ⟨Eq.symm, Eq.symm⟩
    rw [sameM, sameM, h1, h2, h3, lvsSame_comm ls, samesM_comm ks]
theorem samesM_comm : ∀ (ts us : List Term), samesM ts us = samesM us ts
  | [], [] => rfl
  | [], _ :: _ => by simp [samesM]
  | _ :: _, [] => by simp [samesM]
  | t :: ts, u :: us => by rw [samesM, samesM, sameM_comm t u, samesM_comm ts us]
end

theorem lvLeq_of_same {a b : Level} (h : lvSame a b = true) : lvLeq a b = true := by
  have e : normM a = normM b := by simpa [lvSame] using h
  unfold lvLeq
  rw [e, List.all_eq_true]
  intro p hp
  rw [List.any_eq_true]
  exact ⟨p, hp, by simp⟩

/-! ### Asking -/

abbrev Ask := Int → Term → Term → Option (Bool × Int)
def appliedM (t : Term) : List Term := [.mk 6 0 0 [] [lift t 1 0, .mk 1 0 0 [] []]]
def halvesM (t : Term) : List Term := [.mk 14 0 0 [] [t], .mk 15 0 0 [] [t]]
def partsM (t : Term) (k : Int) : List Term := if t.kind = k then (if k = 13 then [kid t 0, kid t 1] else [kid t 1]) else (if k = 13 then halvesM t else appliedM t)
def mattersM (t : Term) : List Term := if t.kind = 18 then [kid t 2, kid t 3, kid t 4] else if t.kind = 21 then [kid t 2, kid t 3, kid t 5] else t.kids
def alikeM (p q : Term) : Bool := decide (p.kind = q.kind) && decide (p.num = q.num) && decide (p.at_ = q.at_) && decide (p.kids.length = q.kids.length) && lvsSame p.levels q.levels
def allM (one : Ask) : Int → List Term → List Term → Option (Bool × Int)
  | F, [], _ => some (true, F)
  | F, p :: ps, qs => match one F p (qs.headD T0) with
    | none => none
    | some (false, F') => some (false, F')
    | some (true, F') => allM one F' ps qs.tail
def headsM (one : Ask) (F : Int) (p q : Term) : Option (Bool × Int) :=
  if p.kind = 5 ∨ q.kind = 5 then allM one F (partsM p 5) (partsM q 5)
  else if p.kind = 13 ∨ q.kind = 13 then allM one F (partsM p 13) (partsM q 13)
  else if alikeM p q = true then allM one F (mattersM p) (mattersM q) else some (false, F)
def whnf2 (cs : List Core) (F : Int) (p q : Term) (k : Int → Term → Term → Option (Bool × Int)) : Option (Bool × Int) :=
  if (whnfM cs p F).2.2 = 0 then (if (whnfM cs q (whnfM cs p F).2.1).2.2 = 0 then k (whnfM cs q (whnfM cs p F).2.1).2.1 (whnfM cs p F).1 (whnfM cs q (whnfM cs p F).2.1).1 else none) else none
def oneM (cs : List Core) : Nat → Ask
  | 0 => fun _ _ _ => none
  | n + 1 => fun F p q => if F ≤ 0 then none else if sameM p q = true then some (true, F - 1) else whnf2 cs (F - 1) p q (fun G x y => headsM (oneM cs n) G x y)
def mostK (cs : List Core) (one most : Ask) (F : Int) (x y : Term) : Option (Bool × Int) :=
  if x.kind = 2 ∧ y.kind = 2 ∧ x.levels.length = 1 ∧ y.levels.length = 1 then some (lvLeq (x.levels.getD 0 default) (y.levels.getD 0 default), F)
  else if x.kind = 4 ∧ y.kind = 4 then (match allM one F [kid x 0] [kid y 0] with
    | none => none
    | some (false, F') => some (false, F')
    | some (true, F') => most F' (kid x 1) (kid y 1))
  else one F x y
def mostM (cs : List Core) : Nat → Ask
  | 0 => fun _ _ _ => none
  | n + 1 => fun F p q => if F ≤ 0 then none else if sameM p q = true then some (true, F - 1) else whnf2 cs (F - 1) p q (fun G x y => mostK cs (oneM cs n) (mostM cs n) G x y)

theorem whnf2_some {cs : List Core} {F : Int} {p q : Term} {k : Int → Term → Term → Option (Bool × Int)} {r : Bool × Int} (h : whnf2 cs F p q k = some r) :
    ∃ x F2 y F3, whnfM cs p F = (x, F2, 0) ∧ whnfM cs q F2 = (y, F3, 0) ∧ k F3 x y = some r := by
  unfold whnf2 at h
  split at h
  · rename_i h1
    split at h
    · rename_i h2
      exact ⟨_, _, _, _, Prod.ext rfl (Prod.ext rfl h1), Prod.ext rfl (Prod.ext rfl h2), h⟩
    · cases h
  · cases h
theorem whnf2_mk {cs : List Core} {F F2 F3 : Int} {p q x y : Term} {k : Int → Term → Term → Option (Bool × Int)} (h1 : whnfM cs p F = (x, F2, 0)) (h2 : whnfM cs q F2 = (y, F3, 0)) : whnf2 cs F p q k = k F3 x y := by
  unfold whnf2
  simp only [h1, h2, if_true]

/-! ### Weights -/

def W (F : Int) (t : Term) : Prop := t.fit 1099511627776 ∧ (fsz t : Int) + 7 * F ≤ 268435456
theorem W.kid {F G : Int} {t : Term} (h : W F t) (hG : G ≤ F) (k : Int) : W G (kid t k) := by
  have := fsz_kid t k
  have h2 := h.2
  exact ⟨kid_fit h.1 k, by omega⟩
theorem W.mem {F G : Int} {t k : Term} (h : W F t) (hG : G ≤ F) (hk : k ∈ t.kids) : W G k := by
  have := fsz_kid' hk
  have h2 := h.2
  exact ⟨h.1.kid hk, by omega⟩
theorem W.mono {F G : Int} {t : Term} (h : W F t) (hG : G ≤ F) : W G t := ⟨h.1, by have := h.2; omega⟩
theorem W_app {F : Int} {t : Term} (hf : t.fit 1099511627776) (h : (fsz t : Int) + 2 + 7 * F ≤ 268435456) : ∀ u ∈ appliedM t, W F u := by
  intro u hu
  simp only [appliedM, List.mem_singleton] at hu
  subst hu
  have hv : (Term.mk 1 0 0 [] []).fit 1099511627776 := mk_fit (by simp) (fun t ht => by cases ht) (by omega)
  refine ⟨mk_fit (by simp) (fun u hu => ?_) (by omega), ?_⟩
  · simp at hu
    rcases hu with rfl | rfl
    · exact lift_fit hf _ _
    · exact hv
  · have hl : lack 6 0 2 = 0 := by simp [lack, spotOf]
    have hl1 : lack 1 0 0 = 0 := by simp [lack, spotOf]
    have : fsz (.mk 6 0 0 [] [lift t 1 0, .mk 1 0 0 [] []]) = fsz t + 2 := by
      simp only [fsz, fszs, List.length_cons, List.length_nil, hl, hl1, lift_fsz]; omega
    rw [this]; push_cast; omega
theorem W_half {F : Int} {t : Term} (hf : t.fit 1099511627776) (h : (fsz t : Int) + 2 + 7 * F ≤ 268435456) : ∀ u ∈ halvesM t, W F u := by
  intro u hu
  simp only [halvesM, List.mem_cons, List.not_mem_nil, or_false] at hu
  have hl : lack 14 0 1 = 0 := by simp [lack, spotOf]
  have hl1 : lack 15 0 1 = 0 := by simp [lack, spotOf]
  rcases hu with rfl | rfl
  · refine ⟨mk_fit (by simp) (fun u hu => by simp at hu; subst hu; exact hf) (by omega), ?_⟩
    have : fsz (.mk 14 0 0 [] [t]) = fsz t + 1 := by
      simp only [fsz, fszs, List.length_cons, List.length_nil, hl]; omega
    rw [this]; push_cast; omega
  · refine ⟨mk_fit (by simp) (fun u hu => by simp at hu; subst hu; exact hf) (by omega), ?_⟩
    have : fsz (.mk 15 0 0 [] [t]) = fsz t + 1 := by
      simp only [fsz, fszs, List.length_cons, List.length_nil, hl1]; omega
    rw [this]; push_cast; omega
theorem W_parts {F : Int} {t : Term} (k : Int) (hf : t.fit 1099511627776) (h : (fsz t : Int) + 2 + 7 * F ≤ 268435456) : ∀ u ∈ partsM t k, W F u := by
  intro u hu
  have ht : W F t := ⟨hf, by omega⟩
  unfold partsM at hu
  split at hu
  · split at hu
    · simp at hu
      rcases hu with rfl | rfl <;> exact ht.kid (Int.le_refl _) _
    · simp at hu; subst hu; exact ht.kid (Int.le_refl _) _
  · split at hu
    · exact W_half hf h u hu
    · exact W_app hf h u hu
theorem W_matters {F : Int} {t : Term} (h : W F t) : ∀ u ∈ mattersM t, W F u := by
  intro u hu
  unfold mattersM at hu
  split at hu
  · simp at hu
    rcases hu with rfl | rfl | rfl <;> exact h.kid (Int.le_refl _) _
  · split at hu
    · simp at hu
      rcases hu with rfl | rfl | rfl <;> exact h.kid (Int.le_refl _) _
    · exact h.mem (Int.le_refl _) hu
theorem partsM_len (p q : Term) (k : Int) : (partsM p k).length = (partsM q k).length := by
  unfold partsM halvesM appliedM
  split <;> split <;> split <;> rfl
theorem matters_len {p q : Term} (h : alikeM p q = true) : (mattersM p).length = (mattersM q).length := by
  simp only [alikeM, Bool.and_eq_true, decide_eq_true_eq] at h
  unfold mattersM
  rw [h.1.1.1.1]
  split
  · rfl
  · split
    · rfl
    · exact h.1.2

/-! ### More fuel -/

/-- what an asker told at some fuel, another tells at other fuels -/
def Shifts (f g : Ask) (F0 G0 : Int) : Prop := ∀ F p q r F', 0 ≤ F → F ≤ F0 → W F p → W F q → f F p q = some (r, F') → 0 ≤ F' ∧ F' ≤ F ∧ ∀ G, F - F' ≤ G → G ≤ G0 → g G p q = some (r, G - (F - F'))

theorem all_shift {f g : Ask} {F0 G0 : Int} (h : Shifts f g F0 G0) : ∀ (ps qs : List Term) (F : Int) r F', 0 ≤ F → F ≤ F0 → (∀ u ∈ ps, W F u) → (∀ u ∈ qs, W F u) → W F T0 → allM f F ps qs = some (r, F') →
    0 ≤ F' ∧ F' ≤ F ∧ ∀ G, F - F' ≤ G → G ≤ G0 → allM g G ps qs = some (r, G - (F - F'))
  | [], qs, F, r, F', h0, h1, hp, hq, hT, e => by
    simp [allM] at e
    obtain ⟨rfl, rfl⟩ := e
    exact ⟨h0, Int.le_refl _, fun G _ _ => by simp [allM]⟩
  | p :: ps, qs, F, r, F', h0, h1, hp, hq, hT, e => by
    have hqh : W F (qs.headD T0) := by
      cases qs with
      | nil => exact hT
      | cons q qs => exact hq q (by simp)
    rw [allM] at e
    cases ho : f F p (qs.headD T0) with
    | none => rw [ho] at e; cases e
    | some v =>
      obtain ⟨b, F1⟩ := v
      rw [ho] at e
      obtain ⟨a1, a2, a3⟩ := h F p _ b F1 h0 h1 (hp p (by simp)) hqh ho
      cases b with
      | false =>
        simp at e
        obtain ⟨rfl, rfl⟩ := e
        refine ⟨a1, a2, fun G g0 g1 => ?_⟩
        rw [allM, a3 G g0 g1]
      | true =>
        simp only at e
        obtain ⟨b1, b2, b3⟩ := all_shift h ps qs.tail F1 r F' a1 (by omega) (fun u hu => (hp u (by simp [hu])).mono a2) (fun u hu => (hq u (List.mem_of_mem_tail hu)).mono a2) (hT.mono a2) e
        refine ⟨b1, by omega, fun G g0 g1 => ?_⟩
        rw [allM, a3 G (by omega) g1]
        simp only
        rw [b3 (G - (F - F1)) (by omega) (by omega)]
        congr 2; omega

theorem WT0 {F : Int} (h : 1 + 7 * F ≤ 268435456) : W F T0 := ⟨T0_fit, by rw [fsz_T0]; exact h⟩

theorem heads_shift {f g : Ask} {F0 G0 : Int} (h : Shifts f g F0 G0) {p q : Term} {F : Int} {r : Bool} {F' : Int} (h0 : 0 ≤ F) (h1 : F ≤ F0) (hp : p.fit 1099511627776 ∧ (fsz p : Int) + 2 + 7 * F ≤ 268435456) (hq : q.fit 1099511627776 ∧ (fsz q : Int) + 2 + 7 * F ≤ 268435456)
    (e : headsM f F p q = some (r, F')) : 0 ≤ F' ∧ F' ≤ F ∧ ∀ G, F - F' ≤ G → G ≤ G0 → headsM g G p q = some (r, G - (F - F')) := by
  have hT : W F T0 := WT0 (by have := fsz_pos p; omega)
  unfold headsM at e ⊢
  split at e
  · rename_i c
    have := all_shift h _ _ F r F' h0 h1 (W_parts 5 hp.1 hp.2) (W_parts 5 hq.1 hq.2) hT e
    exact ⟨this.1, this.2.1, fun G g0 g1 => by rw [if_pos c]; exact this.2.2 G g0 g1⟩
  · rename_i c
    split at e
    · rename_i c2
      have := all_shift h _ _ F r F' h0 h1 (W_parts 13 hp.1 hp.2) (W_parts 13 hq.1 hq.2) hT e
      exact ⟨this.1, this.2.1, fun G g0 g1 => by rw [if_neg c, if_pos c2]; exact this.2.2 G g0 g1⟩
    · rename_i c2
      split at e
      · rename_i c3
        have := all_shift h _ _ F r F' h0 h1 (W_matters ⟨hp.1, by omega⟩) (W_matters ⟨hq.1, by omega⟩) hT e
        exact ⟨this.1, this.2.1, fun G g0 g1 => by rw [if_neg c, if_neg c2, if_pos c3]; exact this.2.2 G g0 g1⟩
      · rename_i c3
        cases e
        exact ⟨h0, Int.le_refl _, fun G g0 g1 => by rw [if_neg c, if_neg c2, if_neg c3]; congr 2; omega⟩

/-- two ways to the head, at other fuels -/
theorem whnf2_shift {cs : List Core} (hc : CoresOk cs) {F : Int} {p q : Term} {k k' : Int → Term → Term → Option (Bool × Int)} {r : Bool} {F' G0 : Int} (h0 : 0 ≤ F) (h1 : F ≤ 1073741824) (hG : G0 ≤ 1073741824) (hp : W F p) (hq : W F q)
    (hk : ∀ x y F3, 0 ≤ F3 → F3 ≤ F → x.fit 1099511627776 → y.fit 1099511627776 → (fsz x : Int) + 7 * F3 ≤ fsz p + 7 * F → (fsz y : Int) + 7 * F3 ≤ fsz q + 7 * F → pad x = x → stepOnce cs x = none → pad y = y → stepOnce cs y = none → k F3 x y = some (r, F') →
      0 ≤ F' ∧ F' ≤ F3 ∧ ∀ G, F3 - F' ≤ G → G ≤ G0 → k' G x y = some (r, G - (F3 - F')))
    (e : whnf2 cs F p q k = some (r, F')) : 0 ≤ F' ∧ F' ≤ F ∧ ∀ G, F - F' ≤ G → G ≤ G0 → whnf2 cs G p q k' = some (r, G - (F - F')) := by
  obtain ⟨x, F2, y, F3, e1, e2, e3⟩ := whnf2_some e
  obtain ⟨xf, x0, x1, xz, xp, xs⟩ := whnf_ok hc hp.1 h0 h1 hp.2 e1
  have hq2 := (hq.mono x1)
  obtain ⟨yf, y0, y1, yz, yp, ys⟩ := whnf_ok hc hq.1 x0 (by omega) hq2.2 e2
  obtain ⟨a1, a2, a3⟩ := hk x y F3 y0 (by omega) xf yf (by omega) (by omega) xp xs yp ys e3
  refine ⟨a1, by omega, fun G g0 g1 => ?_⟩
  have s1 := whnf_shift hc hp.1 h0 h1 hp.2 e1 (G := G) (by omega) (by omega)
  have s2 := whnf_shift hc hq.1 x0 (by omega) hq2.2 e2 (G := G - (F - F2)) (by omega) (by omega)
  rw [whnf2_mk s1 s2, a3 _ (by omega) (by omega)]
  congr 2; omega

theorem oneM_succ (cs : List Core) (n : Nat) (F : Int) (p q : Term) : oneM cs (n + 1) F p q = if F ≤ 0 then none else if sameM p q = true then some (true, F - 1) else whnf2 cs (F - 1) p q (fun G x y => headsM (oneM cs n) G x y) := rfl
theorem mostM_succ (cs : List Core) (n : Nat) (F : Int) (p q : Term) : mostM cs (n + 1) F p q = if F ≤ 0 then none else if sameM p q = true then some (true, F - 1) else whnf2 cs (F - 1) p q (fun G x y => mostK cs (oneM cs n) (mostM cs n) G x y) := rfl

theorem one_shift {cs : List Core} (hc : CoresOk cs) : ∀ (n m : Nat), Shifts (oneM cs n) (oneM cs m) (min (n : Int) 1073741824) (min ((m : Int) - 1) 1073741824) := by
  intro n
  induction n with
  | zero => intro m F p q r F' _ _ _ _ e; cases e
  | succ n ih =>
    intro m F p q r F' h0 h1 hp hq e
    rw [oneM_succ] at e
    have hp2 := hp.2
    have hq2 := hq.2
    have key : ∀ m : Nat, 0 ≤ F' ∧ F' ≤ F ∧ 1 ≤ F - F' ∧ ∀ G, F - F' ≤ G → G ≤ min (m : Int) 1073741824 → oneM cs (m + 1) G p q = some (r, G - (F - F')) := by
      intro m
      split at e
      · cases e
      · rename_i hF
        split at e
        · rename_i hs
          cases e
          refine ⟨by omega, by omega, by omega, fun G g0 g1 => ?_⟩
          rw [oneM_succ, if_neg (by omega), if_pos hs]
          congr 2; omega
        · rename_i hs
          have := whnf2_shift hc (by omega) (by omega) (G0 := min (m : Int) 1073741824 - 1) (by omega) (hp.mono (by omega)) (hq.mono (by omega)) (k' := fun G x y => headsM (oneM cs m) G x y)
            (fun x y F3 f0 f1 xf yf xz yz xp xs yp ys e3 =>
              heads_shift (G0 := min (m : Int) 1073741824 - 1) (F0 := min (n : Int) 1073741824) (fun F p q r F' a b c d e => by
                have := ih m F p q r F' a b c d e
                exact ⟨this.1, this.2.1, fun G g0 g1 => this.2.2 G g0 (by omega)⟩) f0 (by omega) ⟨xf, by omega⟩ ⟨yf, by omega⟩ e3) e
          refine ⟨this.1, by omega, by omega, fun G g0 g1 => ?_⟩
          rw [oneM_succ, if_neg (by omega), if_neg hs, this.2.2 (G - 1) (by omega) (by omega)]
          congr 2; omega
    refine ⟨(key 0).1, (key 0).2.1, fun G g0 g1 => ?_⟩
    have h3 := (key 0).2.2.1
    cases m with
    | zero => exfalso; omega
    | succ m => exact (key m).2.2.2 G g0 (by push_cast at g1; omega)

theorem most_shift {cs : List Core} (hc : CoresOk cs) : ∀ (n m : Nat), Shifts (mostM cs n) (mostM cs m) (min (n : Int) 1073741824) (min ((m : Int) - 1) 1073741824) := by
  intro n
  induction n with
  | zero => intro m F p q r F' _ _ _ _ e; cases e
  | succ n ih =>
    intro m F p q r F' h0 h1 hp hq e
    rw [mostM_succ] at e
    have hp2 := hp.2
    have hq2 := hq.2
    have key : ∀ m : Nat, 0 ≤ F' ∧ F' ≤ F ∧ 1 ≤ F - F' ∧ ∀ G, F - F' ≤ G → G ≤ min (m : Int) 1073741824 → mostM cs (m + 1) G p q = some (r, G - (F - F')) := by
      intro m
      split at e
      · cases e
      · rename_i hF
        split at e
        · rename_i hs
          cases e
          refine ⟨by omega, by omega, by omega, fun G g0 g1 => ?_⟩
          rw [mostM_succ, if_neg (by omega), if_pos hs]
          congr 2; omega
        · rename_i hs
          have ihO : Shifts (oneM cs n) (oneM cs m) (min (n : Int) 1073741824) (min (m : Int) 1073741824 - 1) := fun F p q r F' a b c d e => by
            have := one_shift hc n m F p q r F' a b c d e
            exact ⟨this.1, this.2.1, fun G g0 g1 => this.2.2 G g0 (by omega)⟩
          have ihM : Shifts (mostM cs n) (mostM cs m) (min (n : Int) 1073741824) (min (m : Int) 1073741824 - 1) := fun F p q r F' a b c d e => by
            have := ih m F p q r F' a b c d e
            exact ⟨this.1, this.2.1, fun G g0 g1 => this.2.2 G g0 (by omega)⟩
          have := whnf2_shift hc (by omega) (by omega) (G0 := min (m : Int) 1073741824 - 1) (by omega) (hp.mono (by omega)) (hq.mono (by omega)) (k' := fun G x y => mostK cs (oneM cs m) (mostM cs m) G x y)
            (fun x y F3 f0 f1 xf yf xz yz xp xs yp ys e3 => by
              have wx : W F3 x := ⟨xf, by omega⟩
              have wy : W F3 y := ⟨yf, by omega⟩
              have hT : W F3 T0 := WT0 (by have := fsz_pos x; omega)
              unfold mostK at e3 ⊢
              split at e3
              · rename_i c
                cases e3
                exact ⟨f0, Int.le_refl _, fun G g0 g1 => by rw [if_pos c]; congr 2; omega⟩
              · rename_i c
                split at e3
                · rename_i c2
                  cases ha : allM (oneM cs n) F3 [kid x 0] [kid y 0] with
                  | none => rw [ha] at e3; cases e3
                  | some v =>
                    obtain ⟨b, F1⟩ := v
                    rw [ha] at e3
                    obtain ⟨a1, a2, a3⟩ := all_shift ihO [kid x 0] [kid y 0] F3 b F1 f0 (by omega) (fun u hu => by rw [List.mem_singleton.1 hu]; exact wx.kid (Int.le_refl _) _) (fun u hu => by rw [List.mem_singleton.1 hu]; exact wy.kid (Int.le_refl _) _) hT ha
                    cases b with
                    | false =>
                      simp at e3
                      obtain ⟨rfl, rfl⟩ := e3
                      exact ⟨a1, a2, fun G g0 g1 => by rw [if_neg c, if_pos c2, a3 G g0 g1]⟩
                    | true =>
                      simp only at e3
                      obtain ⟨b1, b2, b3⟩ := ihM F1 _ _ r F' a1 (by omega) (wx.kid a2 1) (wy.kid a2 1) e3
                      refine ⟨b1, by omega, fun G g0 g1 => ?_⟩
                      rw [if_neg c, if_pos c2, a3 G (by omega) g1]
                      simp only
                      rw [b3 _ (by omega) (by omega)]
                      congr 2; omega
                · rename_i c2
                  obtain ⟨b1, b2, b3⟩ := ihO F3 x y r F' f0 (by omega) wx wy e3
                  exact ⟨b1, b2, fun G g0 g1 => by rw [if_neg c, if_neg c2]; exact b3 G g0 g1⟩) e
          refine ⟨this.1, by omega, by omega, fun G g0 g1 => ?_⟩
          rw [mostM_succ, if_neg (by omega), if_neg hs, this.2.2 (G - 1) (by omega) (by omega)]
          congr 2; omega
    refine ⟨(key 0).1, (key 0).2.1, fun G g0 g1 => ?_⟩
    have h3 := (key 0).2.2.1
    cases m with
    | zero => exfalso; omega
    | succ m => exact (key m).2.2.2 G g0 (by push_cast at g1; omega)

/-! ### Both ways -/

theorem all_comm {f : Ask} {F0 : Int} (h : ∀ F p q r F', 0 ≤ F → F ≤ F0 → W F p → W F q → f F p q = some (r, F') → f F q p = some (r, F') ∧ 0 ≤ F' ∧ F' ≤ F) : ∀ (ps qs : List Term) (F : Int) r F', ps.length = qs.length → 0 ≤ F → F ≤ F0 → (∀ u ∈ ps, W F u) → (∀ u ∈ qs, W F u) → allM f F ps qs = some (r, F') → allM f F qs ps = some (r, F')
  | [], [], F, r, F', _, _, _, _, _, e => e
  | [], _ :: _, _, _, _, hl, _, _, _, _, _ => by simp at hl
  | _ :: _, [], _, _, _, hl, _, _, _, _, _ => by simp at hl
  | p :: ps, q :: qs, F, r, F', hl, h0, h1, hp, hq, e => by
    simp only [allM, List.headD_cons, List.tail_cons] at e ⊢
    cases ho : f F p q with
    | none => rw [ho] at e; cases e
    | some v =>
      obtain ⟨b, F1⟩ := v
      rw [ho] at e
      obtain ⟨a1, a2, a3⟩ := h F p q b F1 h0 h1 (hp p (by simp)) (hq q (by simp)) ho
      rw [a1]
      cases b with
      | false => exact e
      | true => exact all_comm h ps qs F1 r F' (by simpa using hl) a2 (by omega) (fun u hu => (hp u (by simp [hu])).mono a3) (fun u hu => (hq u (by simp [hu])).mono a3) e

theorem alikeM_comm (p q : Term) : alikeM p q = alikeM q p := by
  have h1 : decide (p.kind = q.kind) = decide (q.kind = p.kind) := by congr 1; exact propext ⟨Eq.symm, Eq.symm⟩
  have h2 : decide (p.num = q.num) = decide (q.num = p.num) := by congr 1; exact propext ⟨Eq.symm, Eq.symm⟩
  have h3 : decide (p.at_ = q.at_) = decide (q.at_ = p.at_) := by congr 1; exact propext ⟨Eq.symm, Eq.symm⟩
  have h4 : decide (p.kids.length = q.kids.length) = decide (q.kids.length = p.kids.length) := by congr 1; exact propext ⟨Eq.symm, Eq.symm⟩
  unfold alikeM
  rw [h1, h2, h3, h4, lvsSame_comm]

theorem one_comm {cs : List Core} (hc : CoresOk cs) : ∀ (n : Nat) (F : Int) (p q : Term) (r : Bool) (F' : Int), 0 ≤ F → F ≤ min (n : Int) 1073741824 → W F p → W F q → oneM cs n F p q = some (r, F') → oneM cs n F q p = some (r, F') ∧ 0 ≤ F' ∧ F' ≤ F := by
  intro n
  induction n with
  | zero => intro F p q r F' _ _ _ _ e; cases e
  | succ n ih =>
    intro F p q r F' h0 h1 hp hq e
    have hb := one_shift hc (n + 1) 0 F p q r F' h0 h1 hp hq e
    refine ⟨?_, hb.1, hb.2.1⟩
    rw [oneM_succ] at e ⊢
    split at e
    · cases e
    · rename_i hF
      rw [if_neg hF, sameM_comm q p]
      split at e
      · rename_i hs; rw [if_pos hs]; exact e
      · rename_i hs
        rw [if_neg hs]
        obtain ⟨x, F2, y, F3, e1, e2, e3⟩ := whnf2_some e
        have hp' := hp.mono (G := F - 1) (by omega)
        have hq' := hq.mono (G := F - 1) (by omega)
        obtain ⟨xf, x0, x1, xz, xp, xs⟩ := whnf_ok hc hp.1 (by omega) (by omega) hp'.2 e1
        have hq2 := hq'.mono x1
        obtain ⟨yf, y0, y1, yz, yp, ys⟩ := whnf_ok hc hq.1 x0 (by omega) hq2.2 e2
        have s1 := whnf_shift hc hq.1 x0 (by omega) hq2.2 e2 (G := F - 1) (by omega) (by omega)
        have s2 := whnf_shift hc hp.1 (by omega) (by omega) hp'.2 e1 (G := F - 1 - (F2 - F3)) (by omega) (by omega)
        rw [show F - 1 - (F2 - F3) - (F - 1 - F2) = F3 by omega] at s2
        rw [whnf2_mk s1 s2]
        have hp2 := hp.2
        have hq22 := hq.2
        have hx : x.fit 1099511627776 ∧ (fsz x : Int) + 2 + 7 * F3 ≤ 268435456 := ⟨xf, by omega⟩
        have hy : y.fit 1099511627776 ∧ (fsz y : Int) + 2 + 7 * F3 ≤ 268435456 := ⟨yf, by omega⟩
        unfold headsM at e3 ⊢
        split at e3
        · rename_i c
          rw [if_pos c.symm]
          exact all_comm (F0 := min (n : Int) 1073741824) ih _ _ F3 r F' (partsM_len _ _ _) y0 (by omega) (W_parts 5 hx.1 hx.2) (W_parts 5 hy.1 hy.2) e3
        · rename_i c
          rw [if_neg (fun e => c e.symm)]
          split at e3
          · rename_i c2
            rw [if_pos c2.symm]
            exact all_comm (F0 := min (n : Int) 1073741824) ih _ _ F3 r F' (partsM_len _ _ _) y0 (by omega) (W_parts 13 hx.1 hx.2) (W_parts 13 hy.1 hy.2) e3
          · rename_i c2
            rw [if_neg (fun e => c2 e.symm), alikeM_comm y x]
            split at e3
            · rename_i c3
              rw [if_pos c3]
              exact all_comm (F0 := min (n : Int) 1073741824) ih _ _ F3 r F' (matters_len c3) y0 (by omega) (W_matters ⟨xf, by omega⟩) (W_matters ⟨yf, by omega⟩) e3
            · rename_i c3
              rw [if_neg c3]; exact e3

end Sp

/- What is one is at most; products. -/
set_option linter.unusedVariables false
set_option linter.unusedSimpArgs false
namespace Sp
open Go

def convM (cs : List Core) (F : Int) (p q : Term) : Bool × Int × Int :=
  if F < 0 ∨ 1073741824 < F then (false, 0, 2) else match oneM cs (F.toNat + 1) F p q with
  | some (r, F') => (r, F', 0)
  | none => (false, 0, 5)
def leqM (cs : List Core) (F : Int) (p q : Term) : Bool × Int × Int :=
  if F < 0 ∨ 1073741824 < F then (false, 0, 2) else match mostM cs (F.toNat + 1) F p q with
  | some (r, F') => (r, F', 0)
  | none => (false, 0, 5)

theorem convM_ok {cs : List Core} {F : Int} {p q : Term} (h : (convM cs F p q).2.2 = 0) : 0 ≤ F ∧ F ≤ 1073741824 ∧ oneM cs (F.toNat + 1) F p q = some ((convM cs F p q).1, (convM cs F p q).2.1) := by
  unfold convM at h ⊢
  split at h
  · cases h
  · rename_i h1
    rw [if_neg h1]
    cases e : oneM cs (F.toNat + 1) F p q with
    | none => rw [e] at h; cases h
    | some v => obtain ⟨r, F'⟩ := v; exact ⟨by omega, by omega, rfl⟩
theorem leqM_ok {cs : List Core} {F : Int} {p q : Term} (h : (leqM cs F p q).2.2 = 0) : 0 ≤ F ∧ F ≤ 1073741824 ∧ mostM cs (F.toNat + 1) F p q = some ((leqM cs F p q).1, (leqM cs F p q).2.1) := by
  unfold leqM at h ⊢
  split at h
  · cases h
  · rename_i h1
    rw [if_neg h1]
    cases e : mostM cs (F.toNat + 1) F p q with
    | none => rw [e] at h; cases h
    | some v => obtain ⟨r, F'⟩ := v; exact ⟨by omega, by omega, rfl⟩

/-- they are one, at some fuel -/
def OneT (cs : List Core) (p q : Term) : Prop := ∃ (n : Nat) (F F' : Int), 0 ≤ F ∧ F ≤ min (n : Int) 1073741824 ∧ W F p ∧ W F q ∧ oneM cs n F p q = some (true, F')

theorem OneT.det {cs : List Core} (hc : CoresOk cs) {p q : Term} (h : OneT cs p q) {m : Nat} {G G' : Int} {r : Bool} (g0 : 0 ≤ G) (g1 : G ≤ min (m : Int) 1073741824) (hp : W G p) (hq : W G q) (e : oneM cs m G p q = some (r, G')) : r = true := by
  obtain ⟨n, F, F', f0, f1, wp, wq, e1⟩ := h
  obtain ⟨a1, a2, a3⟩ := one_shift hc n ((max F G).toNat + 1) F p q true F' f0 f1 wp wq e1
  obtain ⟨b1, b2, b3⟩ := one_shift hc m ((max F G).toNat + 1) G p q r G' g0 g1 hp hq e
  have h1 := a3 (max F G) (by omega) (by push_cast; omega)
  have h2 := b3 (max F G) (by omega) (by push_cast; omega)
  rw [h1] at h2
  simp only [Option.some.injEq, Prod.mk.injEq] at h2
  exact h2.1.symm
theorem OneT.T0 (cs : List Core) : OneT cs T0 T0 := ⟨1, 1, 0, by omega, by omega, WT0 (by omega), WT0 (by omega), by rw [oneM_succ, if_neg (by omega), if_pos (sameM_refl _)]; rfl⟩

theorem all_get {cs : List Core} (hc : CoresOk cs) {n : Nat} : ∀ (ps qs : List Term) (F F' : Int), ps.length = qs.length → 0 ≤ F → F ≤ min (n : Int) 1073741824 → (∀ u ∈ ps, W F u) → (∀ u ∈ qs, W F u) → allM (oneM cs n) F ps qs = some (true, F') →
    ∀ i, i < ps.length → OneT cs (ps.getD i default) (qs.getD i default)
  | [], _, _, _, _, _, _, _, _, _, i, hi => by simp at hi
  | _ :: _, [], _, _, hl, _, _, _, _, _, _, _ => by simp at hl
  | p :: ps, q :: qs, F, F', hl, h0, h1, hp, hq, e, i, hi => by
    simp only [allM, List.headD_cons, List.tail_cons] at e
    cases ho : oneM cs n F p q with
    | none => rw [ho] at e; cases e
    | some v =>
      obtain ⟨b, F1⟩ := v
      rw [ho] at e
      have hs := one_shift hc n 0 F p q b F1 h0 h1 (hp p (by simp)) (hq q (by simp)) ho
      cases b with
      | false => simp at e
      | true =>
        cases i with
        | zero => exact ⟨n, F, F1, h0, h1, hp p (by simp), hq q (by simp), ho⟩
        | succ i =>
          have := all_get hc ps qs F1 F' (by simpa using hl) hs.1 (by omega) (fun u hu => (hp u (by simp [hu])).mono hs.2.1) (fun u hu => (hq u (by simp [hu])).mono hs.2.1) e i (by simpa using hi)
          simpa using this

theorem kids_get {cs : List Core} (hc : CoresOk cs) {n : Nat} {x y : Term} {F F' : Int} (hl : x.kids.length = y.kids.length) (h0 : 0 ≤ F) (h1 : F ≤ min (n : Int) 1073741824) (hx : W F x) (hy : W F y) (e : allM (oneM cs n) F x.kids y.kids = some (true, F')) (k : Int) : OneT cs (kid x k) (kid y k) := by
  unfold kid
  rw [hl]
  split
  · exact OneT.T0 cs
  · exact all_get hc _ _ F F' hl h0 h1 (fun u hu => hx.mem (Int.le_refl _) hu) (fun u hu => hy.mem (Int.le_refl _) hu) e _ (by omega)

theorem whnf_det {cs : List Core} (hc : CoresOk cs) {t x y : Term} {F G F' G' : Int} (wf : W F t) (wg : W G t) (f0 : 0 ≤ F) (f1 : F ≤ 1073741824) (g0 : 0 ≤ G) (g1 : G ≤ 1073741824) (h : whnfM cs t F = (x, F', 0)) (k : whnfM cs t G = (y, G', 0)) : x = y := by
  by_cases hl : F ≤ G
  · have := whnf_ok hc wf.1 f0 f1 wf.2 h
    have s := whnf_shift hc wf.1 f0 f1 wf.2 h (G := G) (by omega) g1
    rw [s] at k; cases k; rfl
  · have := whnf_ok hc wg.1 g0 g1 wg.2 k
    have s := whnf_shift hc wg.1 g0 g1 wg.2 k (G := F) (by omega) f1
    rw [s] at h; cases h; rfl

/-- what is one is at most -/
theorem one_most {cs : List Core} (hc : CoresOk cs) : ∀ (m : Nat) (G : Int) (p q : Term) (r : Bool) (G' : Int), 0 ≤ G → G ≤ min (m : Int) 1073741824 → W G p → W G q → OneT cs p q → mostM cs m G p q = some (r, G') → r = true := by
  intro m
  induction m with
  | zero => intro G p q r G' _ _ _ _ _ e; cases e
  | succ m ih =>
    intro G p q r G' g0 g1 hp hq ho e
    rw [mostM_succ] at e
    split at e
    · cases e
    · rename_i hG
      split at e
      · cases e; rfl
      · rename_i hs
        obtain ⟨x, G2, y, G3, e1, e2, e3⟩ := whnf2_some e
        have hp' := hp.mono (G := G - 1) (by omega)
        have hq' := hq.mono (G := G - 1) (by omega)
        obtain ⟨xf, x0, x1, xz, xp, xs⟩ := whnf_ok hc hp.1 (by omega) (by omega) hp'.2 e1
        have hq2 := hq'.mono x1
        obtain ⟨yf, y0, y1, yz, yp, ys⟩ := whnf_ok hc hq.1 x0 (by omega) hq2.2 e2
        -- the heads are one
        obtain ⟨n, F, F', f0, f1, wp, wq, eo⟩ := ho
        cases n with
        | zero => cases eo
        | succ n =>
          rw [oneM_succ] at eo
          split at eo
          · cases eo
          · rename_i hF
            obtain ⟨x', F2, y', F3, o1, o2, o3⟩ := whnf2_some eo
            have wp' := wp.mono (G := F - 1) (by omega)
            have wq' := wq.mono (G := F - 1) (by omega)
            obtain ⟨_, u0, u1, uz, _, _⟩ := whnf_ok hc hp.1 (by omega) (by omega) wp'.2 o1
            have wq2 := wq'.mono u1
            obtain ⟨_, v0, v1, vz, _, _⟩ := whnf_ok hc hq.1 u0 (by omega) wq2.2 o2
            obtain rfl := whnf_det hc wp' hp' (by omega) (by omega) (by omega) (by omega) o1 e1
            obtain rfl := whnf_det hc wq2 hq2 u0 (by omega) x0 (by omega) o2 e2
            have hp2 := hp.2
            have hq22 := hq.2
            have wp22 := wp.2
            have wq22 := wq.2
            have gx : W G3 x' := ⟨xf, by omega⟩
            have gy : W G3 y' := ⟨yf, by omega⟩
            have fx : W F3 x' := ⟨xf, by omega⟩
            have fy : W F3 y' := ⟨yf, by omega⟩
            have fn : F3 ≤ min (n : Int) 1073741824 := by omega
            unfold mostK at e3
            split at e3
            · rename_i c
              cases e3
              unfold headsM at o3
              rw [if_neg (by omega), if_neg (by omega)] at o3
              split at o3
              · rename_i c3
                simp only [alikeM, Bool.and_eq_true] at c3
                have hl := c3.2
                obtain ⟨l1, h1⟩ := List.length_eq_one_iff.1 c.2.2.1
                obtain ⟨l2, h2⟩ := List.length_eq_one_iff.1 c.2.2.2
                rw [h1, h2] at hl ⊢
                simp only [lvsSame, Bool.and_true] at hl
                exact lvLeq_of_same hl
              · cases o3
            · rename_i c
              split at e3
              · rename_i c2
                unfold headsM at o3
                rw [if_neg (by omega), if_neg (by omega)] at o3
                split at o3
                · rename_i c3
                  have hlen : x'.kids.length = y'.kids.length := by
                    simp only [alikeM, Bool.and_eq_true, decide_eq_true_eq] at c3
                    exact c3.1.2
                  have hmx : mattersM x' = x'.kids := by unfold mattersM; rw [if_neg (by omega), if_neg (by omega)]
                  have hmy : mattersM y' = y'.kids := by unfold mattersM; rw [if_neg (by omega), if_neg (by omega)]
                  rw [hmx, hmy] at o3
                  have hk := kids_get hc hlen v0 fn fx fy o3
                  simp only [allM, List.headD_cons, List.tail_cons] at e3
                  cases ha : oneM cs m G3 (kid x' 0) (kid y' 0) with
                  | none => rw [ha] at e3; cases e3
                  | some v =>
                    obtain ⟨b, G4⟩ := v
                    rw [ha] at e3
                    have hb := (hk 0).det hc y0 (by omega) (gx.kid (Int.le_refl _) 0) (gy.kid (Int.le_refl _) 0) ha
                    subst hb
                    have hsh := one_shift hc m 0 G3 _ _ _ _ y0 (by omega) (gx.kid (Int.le_refl _) 0) (gy.kid (Int.le_refl _) 0) ha
                    simp only at e3
                    exact ih G4 _ _ r G' hsh.1 (by omega) (gx.kid hsh.2.1 1) (gy.kid hsh.2.1 1) (hk 1) e3
                · cases o3
              · rename_i c2
                -- asked once more
                cases m with
                | zero => cases e3
                | succ m =>
                  rw [oneM_succ] at e3
                  split at e3
                  · cases e3
                  · split at e3
                    · cases e3; rfl
                    · rename_i hG3 _
                      have k1 : whnfM cs x' (G3 - 1) = (x', G3 - 1, 0) := by rw [whnf_none xs (by omega) (by omega), xp]
                      have k2 : whnfM cs y' (G3 - 1) = (y', G3 - 1, 0) := by rw [whnf_none ys (by omega) (by omega), yp]
                      rw [whnf2_mk k1 k2] at e3
                      have gm2 : G3 ≤ G := by omega
                      have gm1 : G ≤ ((m + 1 + 1 : Nat) : Int) := (Int.le_min.1 g1).1
                      have gm3 : G ≤ 1073741824 := (Int.le_min.1 g1).2
                      have gm4 : G3 ≤ G - 1 := by clear f1 wp22 wq22 hp2 hq22; omega
                      have gmin : G3 - 1 ≤ min (m : Int) 1073741824 := Int.le_min.2 ⟨by clear f1 g1 fn wp22 wq22; push_cast at gm1; omega, by clear f1 g1 fn; omega⟩
                      have s1 := heads_shift (f := oneM cs n) (g := oneM cs ((max F3 G3).toNat + 1)) (F0 := min (n : Int) 1073741824) (G0 := min (((max F3 G3).toNat + 1 : Nat) - 1 : Int) 1073741824) (one_shift hc _ _) v0 fn ⟨xf, by omega⟩ ⟨yf, by omega⟩ o3
                      have s2 := heads_shift (f := oneM cs m) (g := oneM cs ((max F3 G3).toNat + 1)) (F0 := min (m : Int) 1073741824) (G0 := min (((max F3 G3).toNat + 1 : Nat) - 1 : Int) 1073741824) (one_shift hc _ _) (by omega) gmin ⟨xf, by omega⟩ ⟨yf, by omega⟩ e3
                      have h1 := s1.2.2 (max F3 G3) (by omega) (by push_cast; omega)
                      have h2 := s2.2.2 (max F3 G3) (by omega) (by push_cast; omega)
                      rw [h1] at h2
                      simp only [Option.some.injEq, Prod.mk.injEq] at h2
                      exact h2.1.symm

abbrev piT (c a : Term) : Term := .mk 4 0 0 [] [c, a]
theorem pi_none (cs : List Core) (c a : Term) : stepOnce cs (piT c a) = none := by
  rw [once_F (by simp [spotM, Term.kind])]
  simp [ownStep, Term.kind]
theorem pi_pad (c a : Term) : pad (piT c a) = piT c a := pad_F (by simp [spotM, Term.kind])
theorem pi_most {cs : List Core} (hc : CoresOk cs) {n : Nat} {F F' : Int} {a b c : Term} {up : Bool} (h0 : 0 ≤ F) (h1 : F ≤ min (n : Int) 1073741824) (ha : W F a) (hb : W F b) (e : mostM cs n F a b = some (up, F')) {G : Int} {m : Nat} (hG : F + 4 ≤ G) (hG1 : G ≤ 1073741824) (hm : G ≤ (m : Int) + 2) :
    ∃ G', mostM cs (m + 2) G (piT c a) (piT c b) = some (up, G') := by
  rw [mostM_succ, if_neg (by omega)]
  have hsm : sameM (piT c a) (piT c b) = sameM a b := by simp [sameM, samesM, lvsSame, sameM_refl]
  rw [hsm]
  by_cases hs : sameM a b = true
  · rw [if_pos hs]
    cases n with
    | zero => cases e
    | succ n =>
      rw [mostM_succ] at e
      split at e
      · cases e
      · cases e; exact ⟨_, rfl⟩
  · rw [if_neg hs]
    have k1 : whnfM cs (piT c a) (G - 1) = (piT c a, G - 1, 0) := by rw [whnf_none (pi_none cs c a) (by omega) (by omega), pi_pad]
    have k2 : whnfM cs (piT c b) (G - 1) = (piT c b, G - 1, 0) := by rw [whnf_none (pi_none cs c b) (by omega) (by omega), pi_pad]
    rw [whnf2_mk k1 k2]
    unfold mostK
    rw [if_neg (by simp [Term.kind]), if_pos (by simp [Term.kind])]
    have z0 : ∀ x y : Term, kid (piT x y) 0 = x := fun x y => rfl
    have z1 : ∀ x y : Term, kid (piT x y) 1 = y := fun x y => rfl
    simp only [allM, List.headD_cons, List.tail_cons, z0, z1]
    rw [oneM_succ, if_neg (by omega), if_pos (sameM_refl c)]
    simp only
    obtain ⟨s1, s2, s3⟩ := most_shift hc n (m + 1) F a b up F' h0 h1 ha hb e
    exact ⟨_, s3 (G - 1 - 1) (by omega) (by push_cast; omega)⟩

end Sp

/- Small change of asking. -/
set_option linter.unusedVariables false
set_option linter.unusedSimpArgs false
namespace Sp
open Go

def oB (r : Option (Bool × Int)) : Bool := match r with | some (b, _) => b | none => false
def oL (r : Option (Bool × Int)) : Int := match r with | some (_, F) => F | none => 0

def idxM (g : Part → Bool) : List Part → Int → Int
  | [], _ => -1
  | p :: ps, i => if g p = true then i else idxM g ps (i + 1)
theorem idxM_any (g : Part → Bool) : ∀ (ps : List Part) (i : Int), 0 ≤ i → decide (0 ≤ idxM g ps i) = ps.any g
  | [], i, h => by simp [idxM]
  | p :: ps, i, h => by
    rw [idxM, List.any_cons]
    cases hg : g p with
    | true => simp [h]
    | false => simp only [Bool.false_eq_true, if_false, Bool.false_or]; exact idxM_any g ps (i + 1) (by omega)

theorem eqPrefix {α : Type} [Inhabited α] (f : α → α → Bool) (all : List α → List α → Bool) (hn : all [] [] = true) (hc : ∀ a as b bs, all (a :: as) (b :: bs) = (f a b && all as bs)) : ∀ (n : Nat) (a b : List α), a.length = b.length → n ≤ a.length → (∀ i, i < n → f (a.getD i default) (b.getD i default) = true) → all a b = all (a.drop n) (b.drop n)
  | 0, a, b, _, _, _ => rfl
  | n + 1, [], b, hl, hn', h => by simp at hn'
  | n + 1, a :: as, [], hl, hn', h => by simp at hl
  | n + 1, a :: as, b :: bs, hl, hn', h => by
    rw [hc, List.drop_succ_cons, List.drop_succ_cons]
    have h0 := h 0 (by omega)
    simp only [List.getD_cons_zero] at h0
    rw [h0, Bool.true_and]
    exact eqPrefix f all hn hc n as bs (by simpa using hl) (by simpa using hn') (fun i hi => by have := h (i + 1) (by omega); simpa using this)

theorem lvsSame_len : ∀ {a b : List Level}, a.length ≠ b.length → lvsSame a b = false
  | [], [], h => absurd rfl h
  | [], _ :: _, _ => rfl
  | _ :: _, [], _ => rfl
  | a :: as, b :: bs, h => by simp [lvsSame, lvsSame_len (a := as) (b := bs) (by simpa using h)]
theorem samesM_len : ∀ {a b : List Term}, a.length ≠ b.length → samesM a b = false
  | [], [], h => absurd rfl h
  | [], _ :: _, _ => by simp [samesM]
  | _ :: _, [], _ => by simp [samesM]
  | a :: as, b :: bs, h => by simp [samesM, samesM_len (a := as) (b := bs) (by simpa using h)]
theorem lvsSame_at {a b : List Level} (hl : a.length = b.length) {n : Nat} (hn : n ≤ a.length) (h : ∀ i, i < n → lvSame (a.getD i default) (b.getD i default) = true) : lvsSame a b = lvsSame (a.drop n) (b.drop n) :=
  eqPrefix lvSame lvsSame rfl (fun _ _ _ _ => rfl) n a b hl hn h
theorem samesM_at {a b : List Term} (hl : a.length = b.length) {n : Nat} (hn : n ≤ a.length) (h : ∀ i, i < n → sameM (a.getD i default) (b.getD i default) = true) : samesM a b = samesM (a.drop n) (b.drop n) :=
  eqPrefix sameM samesM (by simp [samesM]) (fun a as b bs => by rw [samesM]) n a b hl hn h

theorem allM_step_false {one : Ask} {F F' : Int} {p : Term} {ps qs : List Term} (h : one F p (qs.headD T0) = some (false, F')) : allM one F (p :: ps) qs = some (false, F') := by rw [allM, h]
theorem allM_step_true {one : Ask} {F F' : Int} {p : Term} {ps qs : List Term} (h : one F p (qs.headD T0) = some (true, F')) : allM one F (p :: ps) qs = allM one F' ps qs.tail := by rw [allM, h]
theorem allM_step_none {one : Ask} {F : Int} {p : Term} {ps qs : List Term} (h : one F p (qs.headD T0) = none) : allM one F (p :: ps) qs = none := by rw [allM, h]
theorem o_none {r : Option (Bool × Int)} (h : ¬ r.isSome = true) : r = none := by cases r <;> simp_all
theorem o_false {r : Option (Bool × Int)} (h : r.isSome = true) (hb : oB r = false) : r = some (false, oL r) := by
  cases r with
  | none => cases h
  | some v => obtain ⟨b, F⟩ := v; simp only [oB] at hb; subst hb; rfl
theorem o_true {r : Option (Bool × Int)} (h : r.isSome = true) (hb : oB r = true) : r = some (true, oL r) := by
  cases r with
  | none => cases h
  | some v => obtain ⟨b, F⟩ := v; simp only [oB] at hb; subst hb; rfl

theorem kidsM_take {t : Term} {zs : List Int} {i : Nat} (h : i < zs.length) : (zs.take (i + 1)).map (kid t) = (zs.take i).map (kid t) ++ [kid t (zs.getD i default)] := by
  rw [take_succ_getD h, List.map_append]; rfl
end Sp

/- The asker's rounds, one by one. -/
set_option linter.unusedVariables false
set_option linter.unusedSimpArgs false
namespace Sp
open Go

theorem fit_grow {B B' : Nat} (hB : B ≤ B') : ∀ (m : Nat) (t : Term), t.sz ≤ m → t.fit B → t.fit B'
  | 0, t, hm, _ => by cases t; simp only [Term.sz] at hm; omega
  | m + 1, t, hm, h => Term.fit_iff.2 ⟨Nat.le_trans h.llen hB, fun l hl => Nat.le_trans (h.plen hl) hB, Nat.le_trans h.len hB, fun k hk => fit_grow hB m k (by have := Term.sz_lt hk; omega) (h.kid hk), h.nr⟩
theorem fitMax {t : Term} (h : t.fit 1099511627776) : t.fit 9223372036854775807 := fit_grow (by omega) _ t (Nat.le_refl _) h

theorem one_zero {cs : List Core} {n : Nat} {p q : Term} : oneM cs n 0 p q = none := by
  cases n with
  | zero => rfl
  | succ n => rw [oneM_succ, if_pos (by omega)]
theorem most_zero {cs : List Core} {n : Nat} {p q : Term} : mostM cs n 0 p q = none := by
  cases n with
  | zero => rfl
  | succ n => rw [mostM_succ, if_pos (by omega)]
theorem whnf2_no1 {cs : List Core} {F : Int} {p q : Term} {k : Int → Term → Term → Option (Bool × Int)} (h : ¬ (whnfM cs p F).2.2 = 0) : whnf2 cs F p q k = none := by
  unfold whnf2; rw [if_neg h]
theorem whnf2_no2 {cs : List Core} {F : Int} {p q : Term} {k : Int → Term → Term → Option (Bool × Int)} (h1 : (whnfM cs p F).2.2 = 0) (h : ¬ (whnfM cs q (whnfM cs p F).2.1).2.2 = 0) : whnf2 cs F p q k = none := by
  unfold whnf2; rw [if_pos h1, if_neg h]
theorem whnf2_yes {cs : List Core} {F : Int} {p q : Term} {k : Int → Term → Term → Option (Bool × Int)} (h1 : (whnfM cs p F).2.2 = 0) (h : (whnfM cs q (whnfM cs p F).2.1).2.2 = 0) :
    whnf2 cs F p q k = k (whnfM cs q (whnfM cs p F).2.1).2.1 (whnfM cs p F).1 (whnfM cs q (whnfM cs p F).2.1).1 := by
  unfold whnf2; rw [if_pos h1, if_pos h]
theorem head_ok {cs : List Core} (hc : CoresOk cs) {t : Term} {F : Int} (h0 : 0 ≤ F) (h1 : F ≤ 1073741824) (hw : W F t) (h : (whnfM cs t F).2.2 = 0) :
    (whnfM cs t F).1.fit 1099511627776 ∧ 0 ≤ (whnfM cs t F).2.1 ∧ (whnfM cs t F).2.1 ≤ F ∧ (fsz (whnfM cs t F).1 : Int) + 7 * (whnfM cs t F).2.1 ≤ fsz t + 7 * F := by
  obtain ⟨a, b, c, d, _⟩ := whnf_ok hc hw.1 h0 h1 hw.2 (show whnfM cs t F = ((whnfM cs t F).1, (whnfM cs t F).2.1, 0) from Prod.ext rfl (Prod.ext rfl h))
  exact ⟨a, b, c, d⟩
theorem mostK_leq {cs : List Core} {one most : Ask} {F : Int} {x y : Term} (h : x.kind = 2 ∧ y.kind = 2 ∧ x.levels.length = 1 ∧ y.levels.length = 1) : mostK cs one most F x y = some (lvLeq (x.levels.getD 0 default) (y.levels.getD 0 default), F) := by
  unfold mostK; rw [if_pos h]
theorem mostK_pi {cs : List Core} {one most : Ask} {F : Int} {x y : Term} (h : x.kind = 4 ∧ y.kind = 4) : mostK cs one most F x y = (match allM one F [kid x 0] [kid y 0] with
    | none => none
    | some (false, F') => some (false, F')
    | some (true, F') => most F' (kid x 1) (kid y 1)) := by
  unfold mostK; rw [if_neg (by omega), if_pos h]; try rfl
theorem mostK_pi_none {cs : List Core} {one most : Ask} {F : Int} {x y : Term} (h : x.kind = 4 ∧ y.kind = 4) (ha : ¬ (allM one F [kid x 0] [kid y 0]).isSome = true) : mostK cs one most F x y = none := by
  rw [mostK_pi h, o_none ha]
theorem mostK_pi_false {cs : List Core} {one most : Ask} {F : Int} {x y : Term} (h : x.kind = 4 ∧ y.kind = 4) (ha : (allM one F [kid x 0] [kid y 0]).isSome = true) (hb : oB (allM one F [kid x 0] [kid y 0]) = false) : mostK cs one most F x y = some (false, oL (allM one F [kid x 0] [kid y 0])) := by
  rw [mostK_pi h, o_false ha hb]
  rfl
theorem mostK_pi_true {cs : List Core} {one most : Ask} {F : Int} {x y : Term} (h : x.kind = 4 ∧ y.kind = 4) (ha : (allM one F [kid x 0] [kid y 0]).isSome = true) (hb : oB (allM one F [kid x 0] [kid y 0]) = true) : mostK cs one most F x y = most (oL (allM one F [kid x 0] [kid y 0])) (kid x 1) (kid y 1) := by
  rw [mostK_pi h, o_true ha hb]
  rfl
theorem mostK_one {cs : List Core} {one most : Ask} {F : Int} {x y : Term} (h : ¬ (x.kind = 2 ∧ y.kind = 2 ∧ x.levels.length = 1 ∧ y.levels.length = 1)) (h4 : ¬ (x.kind = 4 ∧ y.kind = 4)) : mostK cs one most F x y = one F x y := by
  unfold mostK; rw [if_neg h, if_neg h4]
theorem convM_arg {cs : List Core} {F : Int} {p q : Term} (h : F < 0 ∨ 1073741824 < F) : convM cs F p q = (false, 0, 2) := by
  unfold convM; rw [if_pos h]
theorem leqM_arg {cs : List Core} {F : Int} {p q : Term} (h : F < 0 ∨ 1073741824 < F) : leqM cs F p q = (false, 0, 2) := by
  unfold leqM; rw [if_pos h]
/-- what is told of an answer -/
def toldM (F : Int) (r : Option (Bool × Int)) : Bool × Int × Int := if F < 0 ∨ 1073741824 < F then (false, 0, 2) else match r with | some (b, F') => (b, F', 0) | none => (false, 0, 5)
theorem toldM_arg {F : Int} {r : Option (Bool × Int)} (h : F < 0 ∨ 1073741824 < F) : toldM F r = (false, 0, 2) := by unfold toldM; rw [if_pos h]
theorem toldM_ok {F : Int} {r : Option (Bool × Int)} (h : ¬ (F < 0 ∨ 1073741824 < F)) (hr : r.isSome = true) : toldM F r = (oB r, oL r, 0) := by
  unfold toldM; rw [if_neg h]
  cases r with
  | none => cases hr
  | some v => rfl
theorem toldM_gone {F : Int} {r : Option (Bool × Int)} (h : ¬ (F < 0 ∨ 1073741824 < F)) (hr : ¬ r.isSome = true) : toldM F r = (false, 0, 5) := by
  unfold toldM; rw [if_neg h, o_none hr]
theorem convM_told (cs : List Core) (F : Int) (p q : Term) : convM cs F p q = toldM F (oneM cs (F.toNat + 1) F p q) := rfl
theorem leqM_told (cs : List Core) (F : Int) (p q : Term) : leqM cs F p q = toldM F (mostM cs (F.toNat + 1) F p q) := rfl
end Sp

/- The law of most, over what Conv and Leq answer. -/
set_option linter.unusedVariables false
set_option linter.unusedSimpArgs false
set_option maxRecDepth 20000
namespace Sp
open Go

/-! ### The chapter's examples -/

abbrev eF : Term := .mk 5 0 0 [] [.mk 22 2 0 [] [], .mk 6 0 0 [] [tv 1, tv 0]]
abbrev so (v p : Int) : Term := .mk 2 0 0 [[⟨v, p⟩]] []
theorem once_eF : stepOnce [] eF = none := by
  rw [once_F (by rfl)]; rfl
theorem once_tv (n : Int) : stepOnce [] (tv n) = none := by
  rw [once_F (by rfl)]; rfl
theorem once_so (v p : Int) : stepOnce [] (so v p) = none := by
  rw [once_F (by rfl)]; rfl
theorem whnf_still {cs : List Core} {t : Term} {F : Int} (h : stepOnce cs t = none) (hp : pad t = t) (h0 : 0 ≤ F) (h1 : F ≤ 1073741824) : whnfM cs t F = (t, F, 0) := by rw [whnf_none h h0 h1, hp]
theorem same_eF : sameM eF (tv 0) = false := by simp [sameM]
theorem lift_tv0 : lift (tv 0) 1 0 = tv 1 := by rfl
theorem conv_eta : convM [] 5 eF (tv 0) = (true, 3, 0) := by
  rw [convM_told]
  have h : oneM [] ((5 : Int).toNat + 1) 5 eF (tv 0) = some (true, 3) := by
    show oneM [] 6 5 eF (tv 0) = some (true, 3)
    rw [oneM_succ, if_neg (by omega), if_neg (by rw [same_eF]; simp), whnf2_mk (whnf_still once_eF (pad_F (by rfl)) (by omega) (by omega)) (whnf_still (once_tv 0) (pad_F (by rfl)) (by omega) (by omega))]
    unfold headsM
    rw [if_pos (.inl rfl)]
    have e1 : partsM eF 5 = [.mk 6 0 0 [] [tv 1, tv 0]] := by rfl
    have e2 : partsM (tv 0) 5 = [.mk 6 0 0 [] [tv 1, tv 0]] := by
      show appliedM (tv 0) = _
      rw [appliedM, lift_tv0]
    rw [e1, e2]
    simp only [allM, List.headD_cons]
    rw [oneM_succ, if_neg (by omega), if_pos (sameM_refl _)]
    rfl
  rw [h]; rfl
theorem norm10 : normM [⟨1, 0⟩] = [⟨1, 0⟩] := by decide +kernel
theorem norm11 : normM [⟨1, 1⟩] = [⟨1, 1⟩] := by decide +kernel
theorem same_so : sameM (so 1 0) (so 1 1) = false := by
  simp [sameM, lvsSame, lvSame, norm10, norm11]
theorem leq_so : leqM [] 5 (so 1 0) (so 1 1) = (true, 4, 0) := by
  rw [leqM_told]
  have h : mostM [] ((5 : Int).toNat + 1) 5 (so 1 0) (so 1 1) = some (true, 4) := by
    show mostM [] 6 5 (so 1 0) (so 1 1) = some (true, 4)
    rw [mostM_succ, if_neg (by omega), if_neg (by rw [same_so]; simp), whnf2_mk (whnf_still (once_so 1 0) (pad_F (by rfl)) (by omega) (by omega)) (whnf_still (once_so 1 1) (pad_F (by rfl)) (by omega) (by omega)), mostK_leq ⟨rfl, rfl, rfl, rfl⟩]
    have : lvLeq [⟨1, 0⟩] [⟨1, 1⟩] = true := by simp [lvLeq, norm10, norm11]
    show some (lvLeq [⟨1, 0⟩] [⟨1, 1⟩], (5 - 1 : Int)) = some (true, 4)
    rw [this]; rfl
  rw [h]; rfl
theorem conv_so : convM [] 5 (so 1 0) (so 1 1) = (false, 4, 0) := by
  rw [convM_told]
  have h : oneM [] ((5 : Int).toNat + 1) 5 (so 1 0) (so 1 1) = some (false, 4) := by
    show oneM [] 6 5 (so 1 0) (so 1 1) = some (false, 4)
    rw [oneM_succ, if_neg (by omega), if_neg (by rw [same_so]; simp), whnf2_mk (whnf_still (once_so 1 0) (pad_F (by rfl)) (by omega) (by omega)) (whnf_still (once_so 1 1) (pad_F (by rfl)) (by omega) (by omega))]
    unfold headsM
    have ha : ¬ alikeM (so 1 0) (so 1 1) = true := by simp [alikeM, lvsSame, lvSame, norm10, norm11, Term.levels]
    rw [if_neg (by simp [Term.kind]), if_neg (by simp [Term.kind]), if_neg ha]; rfl
  rw [h]; rfl
theorem W_ex {t : Term} (hf : t.fit 1099511627776) (hs : t.sz ≤ 4194304) {F : Int} (h1 : F ≤ 100000) : W F t := ⟨hf, by have := fsz_le t hf; omega⟩

/-! ### One, so at most -/

theorem conv_OneT {cs : List Core} {F : Int} {p q : Term} (hp : W F p) (hq : W F q) (h : (convM cs F p q).2.2 = 0) (hs : (convM cs F p q).1 = true) : OneT cs p q := by
  obtain ⟨h0, h1, h2⟩ := convM_ok h
  rw [hs] at h2
  exact ⟨_, _, _, h0, by omega, hp, hq, h2⟩
theorem OneT.comm {cs : List Core} (hc : CoresOk cs) {p q : Term} (h : OneT cs p q) : OneT cs q p := by
  obtain ⟨n, F, F', h0, h1, hp, hq, e⟩ := h
  exact ⟨n, F, F', h0, h1, hq, hp, (one_comm hc n F p q true F' h0 h1 hp hq e).1⟩
theorem conv_most {cs : List Core} (hc : CoresOk cs) {F : Int} {p q : Term} (hp : W F p) (hq : W F q) (h : (convM cs F p q).2.2 = 0) (hs : (convM cs F p q).1 = true) (e : (leqM cs F p q).2.2 = 0) : (leqM cs F p q).1 = true := by
  obtain ⟨h0, h1, h2⟩ := leqM_ok e
  exact one_most hc _ F p q _ _ h0 (by omega) hp hq (conv_OneT hp hq h hs) h2
theorem conv_most' {cs : List Core} (hc : CoresOk cs) {F : Int} {p q : Term} (hp : W F p) (hq : W F q) (h : (convM cs F p q).2.2 = 0) (hs : (convM cs F p q).1 = true) (e : (leqM cs F q p).2.2 = 0) : (leqM cs F q p).1 = true := by
  obtain ⟨h0, h1, h2⟩ := leqM_ok e
  exact one_most hc _ F q p _ _ h0 (by omega) hq hp ((conv_OneT hp hq h hs).comm hc) h2
theorem leq_pi {cs : List Core} (hc : CoresOk cs) {F : Int} {a b c : Term} (h1 : F ≤ 2000) (ha : W F a) (hb : W F b) (e : (leqM cs F a b).2.2 = 0) :
    (leqM cs (2 * F + 4) (piT c a) (piT c b)).2.2 = 0 ∧ (leqM cs (2 * F + 4) (piT c a) (piT c b)).1 = (leqM cs F a b).1 := by
  obtain ⟨h0, _, h2⟩ := leqM_ok e
  obtain ⟨G', hG⟩ := pi_most (c := c) hc h0 (by omega) ha hb h2 (G := 2 * F + 4) (m := (2 * F + 4).toNat - 1) (by omega) (by omega) (by omega)
  have hk : (2 * F + 4).toNat - 1 + 2 = (2 * F + 4).toNat + 1 := by omega
  rw [hk] at hG
  rw [leqM_told cs (2 * F + 4), hG, toldM_ok (by omega) rfl]
  exact ⟨rfl, rfl⟩
end Sp
