/- What a store into a block that holds no ints leaves of rows and tallies. -/
import Derived.Test.YtjpdhgajpldjbaaTallyR
set_option linter.unusedVariables false
set_option linter.unusedSimpArgs false
namespace Go.Np.Try
open Go.RowKit Go.Proofs Go.Proofs.Ytjpdhgajpldjbaa.PX Go.Proofs.YtjpdhgajpldjbaaW.PrintWords
/-- No cell of the block is an int. -/
def NoInt (w : World) (s : Nat) : Prop := ∀ (a : Addr) (k : IntKind) (x : Int), a.block = s → w.cell? a ≠ some (.int k x)
theorem noInt_map {w : World} {s : Nat} {es : Array MapEntry} {cl : Nat} (h : w.heap[s]? = some (.map es cl)) : NoInt w s := by
  intro a k x ha he
  unfold World.cell? at he
  rw [ha, h] at he
  simp at he
theorem noInt_two {w : World} {s : Nat} {A B : Option Addr} {n c m d : Nat} {t : TypeId} (h : w.heap[s]? = some (.cells #[.slice A n c, .slice B m d] t (0, 0))) : NoInt w s := by
  intro a k x ha he
  unfold World.cell? at he
  rw [ha, h] at he
  obtain ⟨b, o, sp⟩ := a
  cases sp with
  | some _ => simp at he
  | none =>
    match o with
    | 0 => simp at he
    | 1 => simp at he
    | o + 2 => simp at he
theorem cell_keep {S : List Nat} {w w' : World} (hF : Fr S w w') {a : Addr} {k : IntKind} {x : Int} (h : w.cell? a = some (.int k x)) (hS : ∀ s ∈ S, NoInt w s) : w'.cell? a = some (.int k x) :=
  (hF.cell (lt_cell h) (fun hm => hS _ hm a k x rfl h)).trans h
theorem int_keep {S : List Nat} {w w' : World} (hF : Fr S w w') (hS : ∀ s ∈ S, NoInt w s) {A : Option Addr} {l : List Int} (h : (Kd.int .i64).C w A l.length l) : (Kd.int .i64).C w' A l.length l := by
  refine ⟨rfl, h.2.1, fun h0 => ?_⟩
  obtain ⟨ad, e, hc⟩ := h.2.2 h0
  refine ⟨ad, e, fun j q hq => ?_⟩
  obtain ⟨cs, g1, g2, g3⟩ := hc j q hq
  have g2' : cs = [.int .i64 q] := g2
  subst g2'
  refine ⟨_, g1, rfl, fun i u hu => ?_⟩
  have h3 := g3 i u hu
  cases i with
  | zero => simp at hu; subst hu; exact cell_keep hF h3 hS
  | succ i => simp at hu
theorem votes_keep {S : List Nat} {w w' : World} (hF : Fr S w w') (hS : ∀ s ∈ S, NoInt w s) {A : Option Addr} {l : List S41} (h : k41.C w A l.length l) : k41.C w' A l.length l := by
  refine ⟨rfl, h.2.1, fun h0 => ?_⟩
  obtain ⟨ad, e, hc⟩ := h.2.2 h0
  refine ⟨ad, e, fun j q hq => ?_⟩
  obtain ⟨cs, g1, g2, g3⟩ := hc j q hq
  obtain rfl := k41_open g2
  refine ⟨_, g1, k41_mk w' q, fun i u hu => ?_⟩
  have h3 := g3 i u hu
  match i with
  | 0 => simp at hu; subst hu; exact cell_keep hF h3 hS
  | 1 => simp at hu; subst hu; exact cell_keep hF h3 hS
  | 2 => simp at hu; subst hu; exact cell_keep hF h3 hS
  | 3 => simp at hu; subst hu; exact cell_keep hF h3 hS
  | i + 4 => simp at hu
theorem RefT.keep {S : List Nat} {w w' : World} {A0 : Option Addr} {c0 : Nat} {st : List Int} {B : Option Addr} {d : Nat} {mS : List S41} (h : RefT w A0 c0 st B d mS) (hF : Fr S w w') (hS : ∀ s ∈ S, NoInt w s) : RefT w' A0 c0 st B d mS :=
  ⟨int_keep hF hS h.r0, h.l0, votes_keep hF hS h.r1, h.l1⟩
theorem Tz.noInt {w0 w : World} {p b : Nat} {st : List Int} {mS : List S41} (h : Tz w0 w p b st mS) : NoInt w b := by
  obtain ⟨m, A, c, h1, h2, h3⟩ := h
  obtain ⟨es, cl, g, _⟩ := h2.map
  exact noInt_map g
/-- A store into a block that is a document's tally. -/
theorem Tz.keep {S : List Nat} {w0 w w' : World} {p b : Nat} {st : List Int} {mS : List S41} (h : Tz w0 w p b st mS) (hF : Fr S w w') (hS : ∀ s ∈ S, ∃ A n c B m d, w.heap[s]? = some (.cells #[.slice A n c, .slice B m d] 44 (0, 0))) (h0 : Fr [] w0 w') : Tz w0 w' p b st mS := by
  obtain ⟨m, A, c, h1, h2, h3⟩ := h
  have hN : ∀ s ∈ S, NoInt w s := fun s hs => by obtain ⟨_, _, _, _, _, _, g⟩ := hS s hs; exact noInt_two g
  have hp : p ∉ S := fun hs => by
    obtain ⟨_, _, _, _, _, _, g⟩ := hS p hs
    rw [h2.obj] at g
    injection g with g
    injection g with g1 g2
    exact absurd g2 (by decide)
  have hb : b ∉ S := fun hs => by
    obtain ⟨_, _, _, _, _, _, g⟩ := hS b hs
    obtain ⟨es, cl, g', _⟩ := h2.map
    rw [g'] at g
    cases g
  exact ⟨m, A, c, h1, ⟨(hF.block p (Array.getElem?_eq_some_iff.1 h2.obj).1 hp).trans h2.obj, h2.map.fr hF hb, int_keep hF hN h2.row, h2.cap, h0, h2.p0, h2.b0⟩, h3⟩
end Go.Np.Try
