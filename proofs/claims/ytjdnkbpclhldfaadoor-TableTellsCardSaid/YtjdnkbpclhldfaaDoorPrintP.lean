/- Unlike routes have unlike texts, plainly. No program is walked here. -/
import Derived.Test.YtjdnkbpclhldfaaDoorAttrP
namespace Go.Proofs.YtjdnkbpclhldfaaDoor
set_option linter.unusedSimpArgs false
set_option linter.unusedVariables false
open Go.RowKit

theorem dec_ne (u : Nat) : Lib.decDigits u ≠ [] := by
  rw [Lib.decDigits]
  split <;> simp
theorem ofNat_toNat {n : Nat} (h : n < 256) : (UInt8.ofNat n).toNat = n := by
  simp [UInt8.toNat_ofNat']; omega
theorem dec_digit : ∀ (u : Nat), ∀ c ∈ Lib.decDigits u, 48 ≤ c.toNat ∧ c.toNat ≤ 57 := by
  intro u
  induction u using Nat.strongRecOn with
  | _ u ih =>
    intro c hc
    rw [Lib.decDigits] at hc
    split at hc
    · simp only [List.mem_singleton] at hc; subst hc
      have := ofNat_toNat (show 48 + u < 256 by omega)
      omega
    · rcases List.mem_append.1 hc with hc | hc
      · exact ih (u / 10) (by omega) c hc
      · simp only [List.mem_singleton] at hc; subst hc
        have := ofNat_toNat (show 48 + u % 10 < 256 by omega)
        omega
theorem ofNat_inj {a b : Nat} (ha : a < 256) (hb : b < 256) (h : UInt8.ofNat a = UInt8.ofNat b) : a = b := by
  have := congrArg UInt8.toNat h
  rwa [ofNat_toNat ha, ofNat_toNat hb] at this
theorem dec_inj : ∀ (u v : Nat), Lib.decDigits u = Lib.decDigits v → u = v := by
  intro u
  induction u using Nat.strongRecOn with
  | _ u ih =>
    intro v h
    have hu := Lib.decDigits.eq_1 u
    have hv := Lib.decDigits.eq_1 v
    rw [hu, hv] at h
    by_cases h1 : u < 10 <;> by_cases h2 : v < 10
    · rw [dif_pos h1, dif_pos h2] at h
      simp only [List.cons.injEq, and_true] at h
      have := ofNat_inj (by omega) (by omega) h
      omega
    · rw [dif_pos h1, dif_neg h2] at h
      have := congrArg List.length h
      have hn := List.length_pos_iff.2 (dec_ne (v / 10))
      simp only [List.length_append, List.length_cons, List.length_nil] at this
      omega
    · rw [dif_neg h1, dif_pos h2] at h
      have := congrArg List.length h
      have hn := List.length_pos_iff.2 (dec_ne (u / 10))
      simp only [List.length_append, List.length_cons, List.length_nil] at this
      omega
    · rw [dif_neg h1, dif_neg h2] at h
      obtain ⟨h3, h4⟩ := List.append_inj' h rfl
      simp only [List.cons.injEq, and_true] at h4
      have := ofNat_inj (by omega) (by omega) h4
      have := ih (u / 10) (by omega) _ h3
      omega
theorem itoa_inj {a b : Int} (ha : 0 ≤ a) (hb : 0 ≤ b) (h : Lib.itoa a = Lib.itoa b) : a = b := by
  unfold Lib.itoa at h
  rw [if_neg (by omega), if_neg (by omega)] at h
  have := dec_inj _ _ h
  omega
/-- A word, then what is empty or begins with a blank. -/
theorem word_split : ∀ {x y s t : List UInt8}, (∀ c ∈ x, c ≠ 32) → (∀ c ∈ y, c ≠ 32) → (s = [] ∨ ∃ r, s = 32 :: r) → (t = [] ∨ ∃ r, t = 32 :: r) → x ++ s = y ++ t → x = y ∧ s = t
  | [], [], _, _, _, _, _, _, h => ⟨rfl, by simpa using h⟩
  | [], b :: y, s, t, _, hy, hs, _, h => by
    rcases hs with rfl | ⟨r, rfl⟩
    · simp at h
    · simp at h
      exact absurd h.1.symm (hy b (by simp))
  | a :: x, [], s, t, hx, _, _, ht, h => by
    rcases ht with rfl | ⟨r, rfl⟩
    · simp at h
    · simp at h
      exact absurd h.1 (hx a (by simp))
  | a :: x, b :: y, s, t, hx, hy, hs, ht, h => by
    simp at h
    obtain ⟨e, h⟩ := h
    obtain ⟨e1, e2⟩ := word_split (fun c hc => hx c (by simp [hc])) (fun c hc => hy c (by simp [hc])) hs ht h
    exact ⟨by rw [e, e1], e2⟩
theorem tail_begin (r : List (List UInt8)) : Lib.joinTail [32] r = [] ∨ ∃ q, Lib.joinTail [32] r = 32 :: q := by
  cases r with
  | nil => left; rfl
  | cons y r => right; exact ⟨_, rfl⟩
theorem tail_cons (y : List UInt8) (r : List (List UInt8)) : Lib.joinTail [32] (y :: r) = 32 :: (y ++ Lib.joinTail [32] r) := by simp [Lib.joinTail]
theorem tail_inj : ∀ {r q : List (List UInt8)}, (∀ x ∈ r, ∀ c ∈ x, c ≠ 32) → (∀ x ∈ q, ∀ c ∈ x, c ≠ 32) → Lib.joinTail [32] r = Lib.joinTail [32] q → r = q
  | [], [], _, _, _ => rfl
  | [], y :: q, _, _, h => by rw [tail_cons] at h; cases h
  | x :: r, [], _, _, h => by rw [tail_cons] at h; cases h
  | x :: r, y :: q, hr, hq, h => by
    rw [tail_cons, tail_cons] at h
    injection h with _ h
    obtain ⟨e1, e2⟩ := word_split (hr x (by simp)) (hq y (by simp)) (tail_begin r) (tail_begin q) h
    rw [e1, tail_inj (fun z hz => hr z (by simp [hz])) (fun z hz => hq z (by simp [hz])) e2]
theorem join_inj {r q : List (List UInt8)} (hr : ∀ x ∈ r, x ≠ [] ∧ ∀ c ∈ x, c ≠ 32) (hq : ∀ x ∈ q, x ≠ [] ∧ ∀ c ∈ x, c ≠ 32) (h : Lib.join r [32] = Lib.join q [32]) : r = q := by
  cases r with
  | nil =>
    cases q with
    | nil => rfl
    | cons y q =>
      rw [Lib.join_nil, Lib.join_cons] at h
      have h1 := (hq y (by simp)).1
      have h2 : y = [] := (List.append_eq_nil_iff.1 h.symm).1
      exact absurd h2 h1
  | cons x r =>
    cases q with
    | nil =>
      rw [Lib.join_nil, Lib.join_cons] at h
      have h1 := (hr x (by simp)).1
      have h2 : x = [] := (List.append_eq_nil_iff.1 h).1
      exact absurd h2 h1
    | cons y q =>
      rw [Lib.join_cons, Lib.join_cons] at h
      obtain ⟨e1, e2⟩ := word_split (hr x (by simp)).2 (hq y (by simp)).2 (tail_begin r) (tail_begin q) h
      rw [e1, tail_inj (fun z hz => (hr z (by simp [hz])).2) (fun z hz => (hq z (by simp [hz])).2) e2]
theorem itoa_word {n : Int} (hn : 0 ≤ n) : Lib.itoa n ≠ [] ∧ ∀ c ∈ Lib.itoa n, 48 ≤ c.toNat ∧ c.toNat ≤ 57 := by
  unfold Lib.itoa
  rw [if_neg (by omega)]
  exact ⟨dec_ne _, dec_digit _⟩
theorem map_itoa_inj : ∀ {l m : List Int}, (∀ x ∈ l, 0 ≤ x) → (∀ x ∈ m, 0 ≤ x) → l.map Lib.itoa = m.map Lib.itoa → l = m
  | [], [], _, _, _ => rfl
  | [], _ :: _, _, _, h => by simp at h
  | _ :: _, [], _, _, h => by simp at h
  | x :: l, y :: m, hl, hm, h => by
    simp only [List.map_cons, List.cons.injEq] at h
    rw [itoa_inj (hl x (by simp)) (hm y (by simp)) h.1, map_itoa_inj (fun z hz => hl z (by simp [hz])) (fun z hz => hm z (by simp [hz])) h.2]
theorem print_inj {a b : Rt} (ha : RtOk a) (hb : RtOk b) (h : printB a = printB b) : a = b := by
  have hp : ∀ {r : Rt}, RtOk r → r.kind = 2 → ∀ x ∈ r.path, 0 ≤ x := fun hr e x hx => by have := ((hr.k2 e).2.2.2 x hx).1; omega
  have hw : ∀ {r : Rt}, RtOk r → r.kind = 2 → ∀ x ∈ r.path.map Lib.itoa, x ≠ [] ∧ ∀ c ∈ x, c ≠ 32 := by
    intro r hr e x hx
    obtain ⟨n, hn, rfl⟩ := List.mem_map.1 hx
    obtain ⟨h1, h2⟩ := itoa_word (hp hr e n hn)
    exact ⟨h1, fun c hc e => by have := h2 c hc; rw [e] at this; simp at this⟩
  have head1 : ∀ {r : Rt}, RtOk r → r.kind = 1 → ∃ c t, printB r = c :: t ∧ 48 ≤ c.toNat ∧ c.toNat ≤ 57 := by
    intro r hr e
    obtain ⟨h1, h2⟩ := itoa_word (hr.k1 e).1
    have h3 : printB r = Lib.itoa r.cost := by simp [printB, e]
    cases hq : Lib.itoa r.cost with
    | nil => exact absurd hq h1
    | cons c t => exact ⟨c, t, by rw [h3, hq], h2 c (by rw [hq]; simp)⟩
  have head2 : ∀ {r : Rt}, r.kind = 2 → ∃ t, printB r = 91 :: t := fun e => ⟨_, by simp [printB, e]; rfl⟩
  have head0 : ∀ {r : Rt}, r.kind = 0 → printB r = [45] := fun e => by simp [printB, e]
  rcases ha.kind with ea | ea | ea <;> rcases hb.kind with eb | eb | eb
  · rw [ha.k0 ea, hb.k0 eb]
  · obtain ⟨c, t, e, h1, h2⟩ := head1 hb eb
    rw [head0 ea, e] at h
    injection h with h _
    subst h; simp at h1
  · obtain ⟨t, e⟩ := head2 eb
    rw [head0 ea, e] at h
    injection h with h _
    cases h
  · obtain ⟨c, t, e, h1, h2⟩ := head1 ha ea
    rw [head0 eb, e] at h
    injection h with h _
    subst h; simp at h1
  · have h1 : printB a = Lib.itoa a.cost := by simp [printB, ea]
    have h2 : printB b = Lib.itoa b.cost := by simp [printB, eb]
    rw [h1, h2] at h
    have hc := itoa_inj (ha.k1 ea).1 (hb.k1 eb).1 h
    have p1 := (ha.k1 ea).2.2
    have p2 := (hb.k1 eb).2.2
    cases a; cases b
    simp_all
  · obtain ⟨c, t, e, h1, h2⟩ := head1 ha ea
    obtain ⟨t', e'⟩ := head2 eb
    rw [e, e'] at h
    injection h with h _
    subst h; simp at h2
  · obtain ⟨t, e⟩ := head2 ea
    rw [head0 eb, e] at h
    injection h with h _
    cases h
  · obtain ⟨c, t, e, h1, h2⟩ := head1 hb eb
    obtain ⟨t', e'⟩ := head2 ea
    rw [e, e'] at h
    injection h with h _
    subst h; simp at h2
  · have h1 : printB a = 91 :: (Lib.join (a.path.map Lib.itoa) [32] ++ [93]) := by simp [printB, ea]
    have h2 : printB b = 91 :: (Lib.join (b.path.map Lib.itoa) [32] ++ [93]) := by simp [printB, eb]
    rw [h1, h2] at h
    injection h with _ h
    have h3 := (List.append_inj' h rfl).1
    have h4 := map_itoa_inj (hp ha ea) (hp hb eb) (join_inj (hw ha ea) (hw hb eb) h3)
    have p1 := (ha.k2 ea).1
    have p2 := (hb.k2 eb).1
    cases a; cases b
    simp_all
/-- What Print asks of a route. -/
theorem RtOk.prints {r : Rt} (h : RtOk r) : (-9223372036854775808 ≤ r.cost ∧ r.cost ≤ 9223372036854775807) ∧ (∀ x ∈ r.path, 0 ≤ x ∧ x ≤ 65535) ∧ r.path.length ≤ 1000000 := by
  rcases h.kind with e | e | e
  · rw [h.k0 e]; exact ⟨by decide, by simp [rtNone], by simp [rtNone]⟩
  · have := h.k1 e
    rw [this.2.2]
    exact ⟨by omega, by simp, by simp⟩
  · have := h.k2 e
    exact ⟨by omega, fun x hx => by have := this.2.2.2 x hx; omega, by have := this.2.1; omega⟩
end Go.Proofs.YtjdnkbpclhldfaaDoor
