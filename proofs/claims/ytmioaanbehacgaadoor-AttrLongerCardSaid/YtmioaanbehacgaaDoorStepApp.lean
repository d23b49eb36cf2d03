/- append, at a step of a region that draws its order; rows just made. No program is walked here. -/
import Derived.Test.YtmioaanbehacgaaDoorBox
namespace Go.Proofs.YtmioaanbehacgaaDoor
set_option linter.unusedSimpArgs false
set_option linter.unusedVariables false
open Go.RowKit

section
variable {P : Program} (w : World)
/-- append, at a step of a region that draws its order. -/
theorem step_app {ops : Array Oper} {o : Oper} {a : Act} {K : Act → World → Prop} {Q : Exit → Act → World → Prop} {E : Prop} (hgd : o.guard = none) (s x : Operand) (t : TypeId)
    (ho : o.op = .call { callee := .builtin .append, args := #[s, x], argTypes := #[t, t] })
    (B : Nat) (e : TypeId) (i : TypeInfo) (z : Value) (size bytes : Nat) (ht : P.underlying t = some (.slice e)) (hi : P.info? e = some i) (hz : i.zero = some z)
    (hsize : i.size = size) (hby : i.bytes = bytes) (hzs : z.cells.size = size) (hsz : 0 < size)
    (A : Option Addr) (n c : Nat) (xs : List Value) (hs : a.eval s = .slice A n c) (hown : Own w B e size A n c xs)
    (AD : Option Addr) (m cx : Nat) (news : List Value) (hx : a.eval x = .slice AD m cx) (hr : Rd w w.heap.size size AD m news) (h1 : ∀ u ∈ news, u.oneCell' = true)
    (h63 : n + m ≤ maxLen) (hbytes : (n + m) * bytes ≤ 140737488355328) (hB : B ≤ w.heap.size)
    (h : ∀ A' c' w', Own w' B e size A' (n + m) c' (xs ++ news) → w.grownBy w' (blk A) → (A' = A ∨ blk A' = some w.heap.size) → (A' = none → A = none) → K (a.put o.dst (.slice A' (n + m) c')) w') :
    if Region.wanted o (yielded ops a.tmps) = true then Oper.wp P o a w K Q else E := by
  have hw : Region.wanted o (yielded ops a.tmps) = true := by simp [Region.wanted, hgd]
  rw [if_pos hw]
  obtain ⟨A', c', w', hrun, h2, h3, h4, h5⟩ := run_append_own_any (P := P) w B t o.type e i z size bytes ht hi hz hsize hby hzs hsz A n c xs hown AD m cx news _ hr h1 h63 hbytes hB
  unfold Oper.wp execOp
  simp only [ho, resolve, invoke, builtin, Sem.run_bind, Sem.run_pure, Result.andThen_ok, List.map_toArray, List.map_cons, List.map_nil, hs, hx, hrun]
  exact h A' c' w' h2 h3 h4 h5
end
/-- A row that has just been made of one number. -/
theorem Own.one {w : World} {n : Nat} (hn : n = w.heap.size) (x : Int) : Own (w.alloc (.cells #[.int .i64 x] 3)) n 3 1 (some ⟨n, 0, none⟩) 1 1 [.int .i64 x] := by
  subst hn
  exact ⟨rfl, Nat.le_refl _, by simp [maxLen], by simp, by simp [blk], fun _ => ⟨w.heap.size, 0, #[.int .i64 x], rfl, heap_alloc_new _ _, Nat.le_refl _, fun j u hu => by simpa using hu⟩⟩
theorem Box.made {W w2 : World} {B m c : Nat} {q : List Int} {A : Option Addr} (hm : q.length = m) (hown : Own w2 B 3 1 A m c (ints q)) (hb : Below W.heap.size W w2) :
    Box (w2.alloc (.cells #[.int .i64 2, .int .i64 0, .slice A m c] 24)) w2.heap.size ⟨2, 0, q⟩ A c ∧ Below W.heap.size W (w2.alloc (.cells #[.int .i64 2, .int .i64 0, .slice A m c] 24)) := by
  subst hm
  exact ⟨Box.new (r := ⟨2, 0, q⟩) (RtR.of_own hown), hb.alloc hb.size _⟩
/-- A list put behind one number. -/
theorem Box.ahead {W w2 : World} {n c : Nat} {x : Int} {p : List Int} {A : Option Addr} (hn : n = W.heap.size) (hown : Own w2 n 3 1 A (1 + p.length) c ([.int .i64 x] ++ ints p))
    (hg : (W.alloc (.cells #[.int .i64 x] 3)).grownBy w2 (blk (some ⟨n, 0, none⟩))) :
    Box (w2.alloc (.cells #[.int .i64 2, .int .i64 0, .slice A (1 + p.length) c] 24)) w2.heap.size ⟨2, 0, x :: p⟩ A c ∧ Below W.heap.size W (w2.alloc (.cells #[.int .i64 2, .int .i64 0, .slice A (1 + p.length) c] 24)) := by
  subst hn
  exact Box.made (q := x :: p) (by simp; omega) hown (((Below.refl _ _).alloc (Nat.le_refl _) _).grown hg (by simp) (fun k hk => by simp [blk] at hk; omega))
/-- A list's copy, one number behind it. -/
theorem Box.behind {W w2 w3 : World} {n c c2 : Nat} {x : Int} {p : List Int} {A A2 : Option Addr} (hn : n = W.heap.size) (hg2 : W.grownBy w2 (blk none)) (hown2 : Own w2 n 3 1 A2 (0 + p.length) c2 ([] ++ ints p))
    (hown : Own w3 n 3 1 A (p.length + 1) c ([] ++ ints p ++ [.int .i64 x])) (hg : (w2.alloc (.cells #[.int .i64 x] 3)).grownBy w3 (blk A2)) :
    Box (w3.alloc (.cells #[.int .i64 2, .int .i64 0, .slice A (p.length + 1) c] 24)) w3.heap.size ⟨2, 0, p ++ [x]⟩ A c ∧ Below W.heap.size W (w3.alloc (.cells #[.int .i64 2, .int .i64 0, .slice A (p.length + 1) c] 24)) := by
  subst hn
  have h1 : Below W.heap.size W w2 := (Below.refl _ _).grown hg2 (Nat.le_refl _) (fun k hk => by simp [blk] at hk)
  refine Box.made (q := p ++ [x]) (by simp) (by simpa [ints] using hown) ((h1.alloc h1.size _).grown hg (by have := h1.size; simp; omega) (fun k hk => hown2.from_ k hk))
end Go.Proofs.YtmioaanbehacgaaDoor
