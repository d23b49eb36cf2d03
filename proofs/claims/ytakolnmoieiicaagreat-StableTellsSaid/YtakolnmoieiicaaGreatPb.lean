/- The example of backstaylaw05.awake, plainly and walked. -/
import Derived.Test.YtakolnmoieiicaaGreatNetD
import Derived.Test.YtakolnmoieiicaaGreatNetB
import Derived.Test.YtakolnmoieiicaaGreatApi
namespace Go.Proofs.YtakolnmoieiicaaGreat
set_option linter.unusedSimpArgs false
set_option linter.unusedVariables false
open Go.RowKit

/-! ### The example, plainly -/
def p0 : Net := ⟨1, 0, 0, [⟨⟨#[97]⟩, 1⟩, ⟨⟨#[98]⟩, 2⟩, ⟨⟨#[99]⟩, 3⟩], [⟨0, 1, 3⟩, ⟨1, 2, 1⟩], [], []⟩
def h0 (n : Nat) : Hd := ⟨some ⟨n, 0, none⟩, 3, some ⟨n + 1, 0, none⟩, 2, none, 0, none, 0, []⟩
theorem good0 : Good p0 where
  small := ⟨by decide, by decide, by decide, by decide, by intro d hd; cases hd⟩
  names := by decide +kernel
  right := by decide +kernel
theorem hasB01 : hasB 0 0 = false ∧ hasB 0 1 = false ∧ hasB 1 0 = true ∧ hasB 1 1 = false ∧ hasB 2 0 = false ∧ hasB 2 1 = true := by
  refine ⟨?_, ?_, ?_, ?_, ?_, ?_⟩ <;> rfl
theorem adj0 {f : Int} {u v : Nat} : Adj p0.links f u v ↔ (hasB f 0 = false ∧ ((u = 0 ∧ v = 1) ∨ (u = 1 ∧ v = 0))) ∨ (hasB f 1 = false ∧ ((u = 1 ∧ v = 2) ∨ (u = 2 ∧ v = 1))) := by
  constructor
  · rintro ⟨i, x, hx, hf, h⟩
    match i, hx with
    | 0, hx => simp [p0] at hx; subst hx; simp at h; exact .inl ⟨hf, by omega⟩
    | 1, hx => simp [p0] at hx; subst hx; simp at h; exact .inr ⟨hf, by omega⟩
    | i + 2, hx => simp [p0] at hx
  · rintro (⟨hf, h⟩ | ⟨hf, h⟩)
    · exact ⟨0, ⟨0, 1, 3⟩, rfl, hf, by simp; omega⟩
    · exact ⟨1, ⟨1, 2, 1⟩, rfl, hf, by simp; omega⟩
theorem ball_in {R : Nat → Nat → Prop} {S : Nat → Prop} {a : Nat} (ha : S a) (h : ∀ u v, S u → R u v → S v) : ∀ (k v : Nat), Gr.Ball R k a v → S v
  | 0, v, e => by cases e; exact ha
  | k + 1, v, .inl e => ball_in ha h k v e
  | k + 1, v, .inr ⟨u, e, r⟩ => h u v (ball_in ha h k u e) r
theorem with00 : withB 0 (0 : Nat) = 1 := by decide +kernel
theorem with01 : withB 0 (1 : Nat) = 2 := by decide +kernel
theorem cut00 : cutB p0.links 0 0 = true := by
  obtain ⟨b1, b2, b3, b4, b5, b6⟩ := hasB01
  refine (cutB_of (x := ⟨0, 1, 3⟩) (d := -1) rfl b1 (.inl ⟨rfl, fun k hk => ?_⟩)).trans (by decide)
  have := ball_in (S := fun v => v = 0) rfl (fun u v hu hr => by subst hu; rw [with00, adj0, b3, b4] at hr; simp at hr) k _ hk
  cases this
theorem cut01 : cutB p0.links 0 1 = true := by
  obtain ⟨b1, b2, b3, b4, b5, b6⟩ := hasB01
  refine (cutB_of (x := ⟨1, 2, 1⟩) (d := -1) rfl b2 (.inl ⟨rfl, fun k hk => ?_⟩)).trans (by decide)
  have := ball_in (S := fun v => v < 2) (by decide) (fun u v hu hr => by rw [with01, adj0, b5, b6] at hr; simp at hr; omega) k _ hk
  simp at this
theorem cut0 : (cutL p0.links 0 p0.links.length).length = 2 := by
  show (cutL p0.links 0 2).length = 2
  unfold cutL
  simp [List.range_succ, cut00, cut01]
theorem reach0 {l : List Nat} (h : IsReach (Adj p0.links 1) 3 2 l) : l = [1, 2] := by
  obtain ⟨b1, b2, b3, b4, b5, b6⟩ := hasB01
  refine Gr.sorted_ext h.1 (by simp) (fun v => ?_)
  rw [h.2.1]
  constructor
  · rintro ⟨k, hk⟩
    have := ball_in (S := fun v => v = 1 ∨ v = 2) (by simp) (fun u v hu hr => by rw [adj0, b3, b4] at hr; simp at hr; omega) k v hk
    simpa using this
  · intro hv
    simp at hv
    rcases hv with rfl | rfl
    · exact ⟨1, .inr ⟨2, rfl, adj0.2 (.inr ⟨b4, .inr ⟨rfl, rfl⟩⟩)⟩⟩
    · exact ⟨0, rfl⟩
theorem hops0 {d : Int} (h : Gr.IsHops (Adj p0.links 0) 0 2 d) : d = 2 := by
  obtain ⟨b1, b2, b3, b4, b5, b6⟩ := hasB01
  refine h.uniq (.inr ⟨2, rfl, .inr ⟨1, .inr ⟨0, rfl, adj0.2 (.inl ⟨b1, .inl ⟨rfl, rfl⟩⟩)⟩, adj0.2 (.inr ⟨b2, .inl ⟨rfl, rfl⟩⟩)⟩, fun k hk => ?_⟩)
  match k, hk with
  | 0, hk => cases hk
  | 1, .inl hk => cases hk
  | 1, .inr ⟨u, hu, hr⟩ => cases hu; rw [adj0] at hr; simp at hr
  | k + 2, _ => omega
theorem hops2 {d : Int} (h : Gr.IsHops (Adj p0.links 2) 0 2 d) : d = -1 := by
  obtain ⟨b1, b2, b3, b4, b5, b6⟩ := hasB01
  refine h.uniq (.inl ⟨rfl, fun k hk => ?_⟩)
  have := ball_in (S := fun v => v < 2) (by decide) (fun u v hu hr => by rw [adj0, b5, b6] at hr; simp at hr; omega) k _ hk
  simp at this
theorem around0 : (arL p0.links 0 1 p0.links.length).length = 2 := by
  obtain ⟨b1, b2, b3, b4, b5, b6⟩ := hasB01
  show (arL p0.links 0 1 2).length = 2
  unfold arL
  have e0 : isAr p0.links 0 1 0 = true := by simp [isAr, p0, b1]
  have e1 : isAr p0.links 0 1 1 = true := by simp [isAr, p0, b2]
  simp [List.range_succ, e0, e1]

/-! ### .. and walked -/
/-- The world of awake, behind its network. -/
def aw5W (w : World) : World := ((w.alloc (.cells #[.string ⟨#[97]⟩, .int .i64 1, .string ⟨#[98]⟩, .int .i64 2, .string ⟨#[99]⟩, .int .i64 3] 55)).alloc (.cells #[.int .i64 0, .int .i64 1, .int .i64 3, .int .i64 1, .int .i64 2, .int .i64 1] 58)).alloc
  (.cells #[.int .i64 1, .int .i64 0, .int .i64 0, .slice (some ⟨w.heap.size, 0, none⟩) 3 3, .slice (some ⟨w.heap.size + 1, 0, none⟩) 2 2, .slice none 0 0, .slice none 0 0] 30)
theorem aw5_pb (w : World) : PB w (aw5W w) (w.heap.size + 1 + 1) p0 (h0 w.heap.size) := by
  have hn : NetR ((w.alloc (.cells #[.string ⟨#[97]⟩, .int .i64 1, .string ⟨#[98]⟩, .int .i64 2, .string ⟨#[99]⟩, .int .i64 3] 55)).alloc (.cells #[.int .i64 0, .int .i64 1, .int .i64 3, .int .i64 1, .int .i64 2, .int .i64 1] 58)) ((w.alloc (.cells #[.string ⟨#[97]⟩, .int .i64 1, .string ⟨#[98]⟩, .int .i64 2, .string ⟨#[99]⟩, .int .i64 3] 55)).alloc (.cells #[.int .i64 0, .int .i64 1, .int .i64 3, .int .i64 1, .int .i64 2, .int .i64 1] 58)).heap.size p0 (h0 w.heap.size) := by
    refine ⟨?_, ?_, rfl, Rd.nil _, (by intro z hz; cases hz), Rd.nil _⟩
    · exact ((Rd.new (m := 3) (s := 2) rfl rfl).alloc (Nat.le_refl _) _).more (by simp)
    · exact Rd.new (m := 2) (s := 3) (by simp) rfl
  have := PB.begin (w0 := w) (((Below.refl _ _).alloc (Nat.le_refl _) _).alloc (by simp) _) hn
  simpa [aw5W, netCells, p0, h0] using this
section
variable {w wy : World}
def aw5V (w : World) : Value := .agg #[.int .i64 1, .int .i64 0, .int .i64 0, .slice (some ⟨w.heap.size, 0, none⟩) 3 3, .slice (some ⟨w.heap.size + 1, 0, none⟩) 2 2, .slice none 0 0, .slice none 0 0]
theorem aw5_v (w : World) : netV p0 (h0 w.heap.size) = aw5V w := rfl
theorem aw5_around (a : PB w wy (w.heap.size + 1 + 1) p0 (h0 w.heap.size)) : Calls Tryz.prog 73 #[aw5V w, .int .i64 0, .int .i64 1] wy fun e w' => ∃ A c, e = .returned (.slice A 2 c) ∧ Below wy.heap.size wy w' := by
  rw [← aw5_v]
  exact (aroundX_any p0 _ 0 1 wy a.net good0).mono fun e w' ⟨A, c, h1, h2, h3⟩ => ⟨A, c, by rw [h1, around0], h3⟩
theorem aw5_other1 (a : PB w wy (w.heap.size + 1 + 1) p0 (h0 w.heap.size)) : Calls Tryz.prog 75 #[aw5V w, .int .i64 1, .int .i64 1] wy fun e w' => e = .returned (.int .i64 2) ∧ Below wy.heap.size wy w' := by
  rw [← aw5_v]; exact otherX_any p0 _ 1 1 wy a.net good0
theorem aw5_other0 (a : PB w wy (w.heap.size + 1 + 1) p0 (h0 w.heap.size)) : Calls Tryz.prog 75 #[aw5V w, .int .i64 1, .int .i64 0] wy fun e w' => e = .returned (.int .i64 (-1)) ∧ Below wy.heap.size wy w' := by
  rw [← aw5_v]; exact otherX_any p0 _ 1 0 wy a.net good0
end
theorem aw5_cells {w wy : World} (a : PB w wy (w.heap.size + 1 + 1) p0 (h0 w.heap.size)) : wy.cell? ⟨w.heap.size + 1 + 1, 0, none⟩ = some (.int .i64 1) ∧ wy.cell? ⟨w.heap.size + 1 + 1, 1, none⟩ = some (.int .i64 0) ∧ wy.cell? ⟨w.heap.size + 1 + 1, 2, none⟩ = some (.int .i64 0) ∧ wy.cell? ⟨w.heap.size + 1 + 1, 3, none⟩ = some (.slice (some ⟨w.heap.size, 0, none⟩) 3 3) ∧
    wy.cell? ⟨w.heap.size + 1 + 1, 4, none⟩ = some (.slice (some ⟨w.heap.size + 1, 0, none⟩) 2 2) ∧ wy.cell? ⟨w.heap.size + 1 + 1, 5, none⟩ = some (.slice none 0 0) ∧ wy.cell? ⟨w.heap.size + 1 + 1, 6, none⟩ = some (.slice none 0 0) := a.all
end Go.Proofs.YtakolnmoieiicaaGreat
