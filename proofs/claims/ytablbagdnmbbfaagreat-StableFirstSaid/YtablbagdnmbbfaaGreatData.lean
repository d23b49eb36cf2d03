/- Networks as plain data, and how they lie in memory. No program is walked here. -/
import Derived.Test.YtablbagdnmbbfaaGreatBits
namespace Go.Proofs.YtablbagdnmbbfaaGreat
set_option linter.unusedSimpArgs false
set_option linter.unusedVariables false
open Go.RowKit

structure Nd where
  name : ByteArray
  as_ : Int
structure Lk where
  a : Int
  b : Int
  cost : Int
structure Ds where
  name : ByteArray
  origins : List Int
structure Ck where
  kind : Int
  node : Int
  dest : Int
  limit : Int
  other : Int
structure Net where
  proto : Int
  cap : Int
  k : Int
  nodes : List Nd
  links : List Lk
  dests : List Ds
  checks : List Ck

def ndCells (x : Nd) : List Value := [.string x.name, .int .i64 x.as_]
def lkCells (x : Lk) : List Value := [.int .i64 x.a, .int .i64 x.b, .int .i64 x.cost]
def ckCells (x : Ck) : List Value := [.int .i64 x.kind, .int .i64 x.node, .int .i64 x.dest, .int .i64 x.limit, .int .i64 x.other]

theorem Rd.link {w : World} {B : Nat} {A : Option Addr} {L : List Lk} (h : Rd w B 3 A L.length (L.flatMap lkCells)) {i : Nat} {x : Lk} (hi : L[i]? = some x) :
    ∃ b o, A = some ⟨b, o, none⟩ ∧ b < B ∧ w.cell? ⟨b, o + i * 3, none⟩ = some (.int .i64 x.a) ∧ w.cell? ⟨b, o + i * 3 + 1, none⟩ = some (.int .i64 x.b) ∧ w.cell? ⟨b, o + i * 3 + 2, none⟩ = some (.int .i64 x.cost) := by
  obtain ⟨b, o, e, hb, hc⟩ := h.elem (f := lkCells) (fun _ => rfl) hi
  exact ⟨b, o, e, hb, hc 0 _ (by omega) rfl, hc 1 _ (by omega) rfl, hc 2 _ (by omega) rfl⟩
theorem Rd.node {w : World} {B : Nat} {A : Option Addr} {L : List Nd} (h : Rd w B 2 A L.length (L.flatMap ndCells)) {i : Nat} {x : Nd} (hi : L[i]? = some x) :
    ∃ b o, A = some ⟨b, o, none⟩ ∧ b < B ∧ w.cell? ⟨b, o + i * 2, none⟩ = some (.string x.name) ∧ w.cell? ⟨b, o + i * 2 + 1, none⟩ = some (.int .i64 x.as_) := by
  obtain ⟨b, o, e, hb, hc⟩ := h.elem (f := ndCells) (fun _ => rfl) hi
  exact ⟨b, o, e, hb, hc 0 _ (by omega) rfl, hc 1 _ (by omega) rfl⟩
theorem Rd.check {w : World} {B : Nat} {A : Option Addr} {L : List Ck} (h : Rd w B 5 A L.length (L.flatMap ckCells)) {i : Nat} {x : Ck} (hi : L[i]? = some x) :
    ∃ b o, A = some ⟨b, o, none⟩ ∧ b < B ∧ w.cell? ⟨b, o + i * 5, none⟩ = some (.int .i64 x.kind) ∧ w.cell? ⟨b, o + i * 5 + 1, none⟩ = some (.int .i64 x.node) ∧ w.cell? ⟨b, o + i * 5 + 2, none⟩ = some (.int .i64 x.dest) ∧
      w.cell? ⟨b, o + i * 5 + 3, none⟩ = some (.int .i64 x.limit) ∧ w.cell? ⟨b, o + i * 5 + 4, none⟩ = some (.int .i64 x.other) := by
  obtain ⟨b, o, e, hb, hc⟩ := h.elem (f := ckCells) (fun _ => rfl) hi
  exact ⟨b, o, e, hb, hc 0 _ (by omega) rfl, hc 1 _ (by omega) rfl, hc 2 _ (by omega) rfl, hc 3 _ (by omega) rfl, hc 4 _ (by omega) rfl⟩
/-- The value of a network: seven cells. -/
def netVal (p : Net) (an : Option Addr) (cn : Nat) (al : Option Addr) (cl : Nat) (ad : Option Addr) (cd : Nat) (ac : Option Addr) (cc : Nat) : Value :=
  .agg #[.int .i64 p.proto, .int .i64 p.cap, .int .i64 p.k, .slice an p.nodes.length cn, .slice al p.links.length cl, .slice ad p.dests.length cd, .slice ac p.checks.length cc]
end Go.Proofs.YtablbagdnmbbfaaGreat
