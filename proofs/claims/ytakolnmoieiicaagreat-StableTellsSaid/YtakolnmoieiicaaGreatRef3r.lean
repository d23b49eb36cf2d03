/- The document's own answer: which networks may be (backstayref03.Right). -/
import Derived.Test.YtakolnmoieiicaaGreatRef3
namespace Go.Proofs.YtakolnmoieiicaaGreat
set_option linter.unusedSimpArgs false
set_option linter.unusedVariables false
open Go.RowKit

theorem right_parts (p : Net) (h0 : routingB p = true) (h1 : withinB p.k 0 (min 4 (p.links.length : Int)) = true) (h2 : nodesB p = true) (h3 : p.links.length ≤ 16) (h4 : p.dests.length ≤ 4) (h5 : p.checks.length ≤ 16) :
    rightB p = (namesB (namesOf p) && (linksB p && (destsB p && checksB p))) := by
  have e1 : p.dests.all (fun d => destB d p.nodes.length) = !p.dests.any (fun d => !destB d p.nodes.length) := List.all_eq_not_any_not
  have e2 : p.checks.all (checkB p) = !p.checks.any (badCheck p) := List.all_eq_not_any_not
  unfold rightB destsB checksB
  rw [h0, h1, h2, e1, e2, show namesB (namesOf p) = namedB p from rfl]
  simp only [h4, h5, decide_true, Bool.true_and, Bool.and_true]
  cases linksB p <;> cases namedB p <;> simp
attribute [local go_sem ↓] Go.wp_at_zero Go.wp_at_succ
set_option maxRecDepth 100000 in
set_option maxHeartbeats 4000000 in
theorem rright_any (p : Net) (h : Hd) (w : World) (hp : NetR w w.heap.size p h) (hs : Small p) :
    Calls Tryz.prog 19 #[netV p h] w fun e w' => e = .returned (.bool (rightB p)) ∧ Below w.heap.size w w' := by
  have hn := hs.nodes
  have hd := hs.dests
  obtain ⟨is, his, hsz0, hsz1, hsz2⟩ := info_parts Tryz.info_str
  obtain ⟨an, cn, al, cl, ad, cd, ac, cc, dv⟩ := h
  have HP := Lib.hid hp
  have HSm := Lib.hid hs
  clear hp hs
  unfold netV netVal
  go_enter Tryz.func19, Tryz.ntmps19
  go_upto_region 1 with fail
  have HN0 := Lib.hid (NamesW.begin w #[.int .i64 p.proto, .int .i64 p.cap, .int .i64 p.k, .slice an p.nodes.length cn, .slice al p.links.length cl, .slice ad p.dests.length cd, .slice ac p.checks.length cc])
  have hN0 := HN0.out
  generalize w.alloc (.cells #[.int .i64 p.proto, .int .i64 p.cap, .int .i64 p.k, .slice an p.nodes.length cn, .slice al p.links.length cl, .slice ad p.dests.length cd, .slice ac p.checks.length cc] 30) = w1 at *
  have p0 := hN0.at_ 0
  have p1 := hN0.at_ 1
  have p2 := hN0.at_ 2
  have p3 := hN0.at_ 3
  have p4 := hN0.at_ 4
  have p5 := hN0.at_ 5
  have p6 := hN0.at_ 6
  simp at p0 p1 p2 p3 p4 p5 p6
  have HB := Lib.hid hN0.below
  clear hN0
  by_cases q1 : p.proto = 1
  · have q1' : (p.proto == 1) = true := by simp [q1]
    have q2' : (p.proto == 2) = false := by simp [q1]
    by_cases qc : p.cap = 0
    · have qc' : (p.cap == 0) = true := by simp [qc]
      by_cases hk0 : p.k < 0
      · have hk0' : decide (p.k < 0) = true := decide_eq_true hk0
        have HF := Lib.hid (show rightB p = false from by rw [Bool.eq_false_iff]; intro hc; simp only [rightB, Bool.and_eq_true, routingB, nodesB, linksB, withinB, Bool.or_eq_true, decide_eq_true_eq, beq_iff_eq] at hc; omega)
        clear q1 qc hk0
        go_wp2
        go_ret
        exact ⟨ret_bool HF.out.symm, HB.out⟩
      · have hk0' : decide (p.k < 0) = false := decide_eq_false hk0
        by_cases hk4 : 4 < p.k
        · have hk4' : decide (4 < p.k) = true := decide_eq_true hk4
          have HF := Lib.hid (show rightB p = false from by rw [Bool.eq_false_iff]; intro hc; simp only [rightB, Bool.and_eq_true, routingB, nodesB, linksB, withinB, Bool.or_eq_true, decide_eq_true_eq, beq_iff_eq] at hc; omega)
          clear q1 qc hk0 hk4
          go_wp2
          go_ret
          exact ⟨ret_bool HF.out.symm, HB.out⟩
        · have hk4' : decide (4 < p.k) = false := decide_eq_false hk4
          by_cases hkl : (p.links.length : Int) < p.k
          · have hkl' : decide ((p.links.length : Int) < p.k) = true := decide_eq_true hkl
            have HF := Lib.hid (show rightB p = false from by rw [Bool.eq_false_iff]; intro hc; simp only [rightB, Bool.and_eq_true, routingB, nodesB, linksB, withinB, Bool.or_eq_true, decide_eq_true_eq, beq_iff_eq] at hc; omega)
            clear q1 qc hk0 hk4 hkl
            go_wp2
            go_ret
            exact ⟨ret_bool HF.out.symm, HB.out⟩
          · have hkl' : decide ((p.links.length : Int) < p.k) = false := decide_eq_false hkl
            by_cases hn1 : (p.nodes.length : Int) < 1
            · have hn1' : decide ((p.nodes.length : Int) < 1) = true := decide_eq_true hn1
              have hn1'' : decide (p.nodes.length < 1) = true := decide_eq_true (by omega)
              have HF := Lib.hid (show rightB p = false from by rw [Bool.eq_false_iff]; intro hc; simp only [rightB, Bool.and_eq_true, routingB, nodesB, linksB, withinB, Bool.or_eq_true, decide_eq_true_eq, beq_iff_eq] at hc; omega)
              clear q1 qc hk0 hk4 hkl hn1
              go_wp2
              go_ret
              exact ⟨ret_bool HF.out.symm, HB.out⟩
            · have hn1' : decide ((p.nodes.length : Int) < 1) = false := decide_eq_false hn1
              have hn1'' : decide (p.nodes.length < 1) = false := decide_eq_false (by omega)
              by_cases hn12 : (12 : Int) < p.nodes.length
              · have hn12' : decide ((12 : Int) < p.nodes.length) = true := decide_eq_true hn12
                have hn12'' : decide (12 < p.nodes.length) = true := decide_eq_true (by omega)
                have HF := Lib.hid (show rightB p = false from by rw [Bool.eq_false_iff]; intro hc; simp only [rightB, Bool.and_eq_true, routingB, nodesB, linksB, withinB, Bool.or_eq_true, decide_eq_true_eq, beq_iff_eq] at hc; omega)
                clear q1 qc hk0 hk4 hkl hn1 hn12
                go_wp2
                go_ret
                exact ⟨ret_bool HF.out.symm, HB.out⟩
              · have hn12' : decide ((12 : Int) < p.nodes.length) = false := decide_eq_false hn12
                have hn12'' : decide (12 < p.nodes.length) = false := decide_eq_false (by omega)
                by_cases hl16 : (16 : Int) < p.links.length
                · have hl16' : decide ((16 : Int) < p.links.length) = true := decide_eq_true hl16
                  have hl16'' : decide (16 < p.links.length) = true := decide_eq_true (by omega)
                  have HF := Lib.hid (show rightB p = false from by rw [Bool.eq_false_iff]; intro hc; simp only [rightB, Bool.and_eq_true, routingB, nodesB, linksB, withinB, Bool.or_eq_true, decide_eq_true_eq, beq_iff_eq] at hc; omega)
                  clear q1 qc hk0 hk4 hkl hn1 hn12 hl16
                  go_wp2
                  go_ret
                  exact ⟨ret_bool HF.out.symm, HB.out⟩
                · have hl16' : decide ((16 : Int) < p.links.length) = false := decide_eq_false hl16
                  have hl16'' : decide (16 < p.links.length) = false := decide_eq_false (by omega)
                  by_cases hd4 : (4 : Int) < p.dests.length
                  · have hd4' : decide ((4 : Int) < p.dests.length) = true := decide_eq_true hd4
                    have hd4'' : decide (4 < p.dests.length) = true := decide_eq_true (by omega)
                    have HF := Lib.hid (show rightB p = false from by rw [Bool.eq_false_iff]; intro hc; simp only [rightB, Bool.and_eq_true, routingB, nodesB, linksB, withinB, Bool.or_eq_true, decide_eq_true_eq, beq_iff_eq] at hc; omega)
                    clear q1 qc hk0 hk4 hkl hn1 hn12 hl16 hd4
                    go_wp2
                    go_ret
                    exact ⟨ret_bool HF.out.symm, HB.out⟩
                  · have hd4' : decide ((4 : Int) < p.dests.length) = false := decide_eq_false hd4
                    have hd4'' : decide (4 < p.dests.length) = false := decide_eq_false (by omega)
                    by_cases hc16 : (16 : Int) < p.checks.length
                    · have hc16' : decide ((16 : Int) < p.checks.length) = true := decide_eq_true hc16
                      have hc16'' : decide (16 < p.checks.length) = true := decide_eq_true (by omega)
                      have HF := Lib.hid (show rightB p = false from by rw [Bool.eq_false_iff]; intro hc; simp only [rightB, Bool.and_eq_true, routingB, nodesB, linksB, withinB, Bool.or_eq_true, decide_eq_true_eq, beq_iff_eq] at hc; omega)
                      clear q1 qc hk0 hk4 hkl hn1 hn12 hl16 hd4 hc16
                      go_wp2
                      go_ret
                      exact ⟨ret_bool HF.out.symm, HB.out⟩
                    · have hc16' : decide ((16 : Int) < p.checks.length) = false := decide_eq_false hc16
                      have hc16'' : decide (16 < p.checks.length) = false := decide_eq_false (by omega)
                      have HLIM := Lib.hid (show routingB p = true ∧ withinB p.k 0 (min 4 (p.links.length : Int)) = true ∧ withinB p.nodes.length 1 12 = true ∧ p.links.length ≤ 16 ∧ p.dests.length ≤ 4 ∧ p.checks.length ≤ 16 from by refine ⟨by simp [routingB, withinB] <;> omega, by simp [withinB]; omega, by simp [withinB]; omega, by omega, by omega, by omega⟩)
                      clear q1 qc hk0 hk4 hkl hn1 hn12 hl16 hd4 hc16 
                      go_upto_region 6 with fail
                      go_wp2_with fail
                      clear p0 p1 p2 p3 p4 p5 p6
                      go_loopw [5, 6] (fun v i wr => ∃ (k : Nat) (A : Option Addr) (c : Nat), k ≤ p.nodes.length ∧ i = .int .i64 k ∧ v = .slice A ((ndNames p).take k).length c ∧ (p.nodes.take k).any badNode = false ∧ NamesW w wr #[.int .i64 p.proto, .int .i64 p.cap, .int .i64 p.k, .slice an p.nodes.length cn, .slice al p.links.length cl, .slice ad p.dests.length cd, .slice ac p.checks.length cc] A c ((ndNames p).take k)) (fun _ i _ => p.nodes.length - (intOf i).toNat)
                      case atStart => exact ⟨0, none, 0, Nat.zero_le _, rfl, by simp, by simp, by simpa using HN0.out⟩
                      case round =>
                        obtain ⟨k, A, c, hk, rfl, rfl, hbad, hN⟩ := hrel
                        have HBD := Lib.hid hbad
                        clear hbad
                        have HBX := Lib.hid hN.below
                        have hsz := hN.size
                        have hszlt : w.heap.size < wr.heap.size := by omega
                        have hlen : ((ndNames p).take k).length ≤ 1000 := by simp [ndNames]; omega
                        have m3 := hN.at_ 3
                        have m5 := hN.at_ 5
                        simp at m3 m5
                        have hk0 : (0 : Int) ≤ (k : Int) := by omega
                        by_cases hlt : k < p.nodes.length
                        · obtain ⟨x, hx⟩ : ∃ x, p.nodes[k]? = some x := ⟨_, List.getElem?_eq_getElem hlt⟩
                          obtain ⟨b, o, e', hb, hc0, hc1⟩ := HP.out.nodes.node hx
                          simp only at e'
                          subst e'
                          rw [← hN.below.cell hb] at hc0 hc1
                          have hts : (ndNames p).take (k + 1) = (ndNames p).take k ++ [x.name] := by
                            rw [List.take_add_one]; simp [ndNames, hx]
                          have HT := Lib.hid hts
                          have htb : p.nodes.take (k + 1) = p.nodes.take k ++ [x] := by rw [List.take_add_one, hx]; rfl
                          have HTB := Lib.hid htb
                          have HBADX : Hid (badNode x = true → rightB p = false) := Lib.hid (fun hb => by
                            have : p.nodes.any badNode = true := List.any_eq_true.2 ⟨x, List.mem_of_getElem? hx, hb⟩
                            unfold rightB nodesB
                            rw [this]
                            simp)
                          clear hx hts htb
                          by_cases y1 : x.as_ < 1
                          · have y1' : decide (x.as_ < 1) = true := decide_eq_true y1
                            have HF := Lib.hid (HBADX.out (by simp [badNode, withinB]; omega))
                            clear y1 hN
                            go_wp2
                            go_ret
                            exact ⟨ret_bool HF.out.symm, HBX.out⟩
                          · have y1' : decide (x.as_ < 1) = false := decide_eq_false y1
                            by_cases y2 : 65535 < x.as_
                            · have y2' : decide (65535 < x.as_) = true := decide_eq_true y2
                              have HF := Lib.hid (HBADX.out (by simp [badNode, withinB]; omega))
                              clear y1 y2 hN
                              go_wp2
                              go_ret
                              exact ⟨ret_bool HF.out.symm, HBX.out⟩
                            · have y2' : decide (65535 < x.as_) = false := decide_eq_false y2
                              have HG := Lib.hid (show badNode x = false from by simp [badNode, withinB]; omega)
                              clear y1 y2
                              generalize (ndNames p).take k = l at *
                              have HN1 := Lib.hid (hN.alloc (.cells #[.string x.name] 9))
                              go_wp2_with (first | (at_builtin; refine wpList_app _ rfl _ _ 53 rfl (w.heap.size + 1) 9 is (.string ⟨#[]⟩) 1 16 Tryz.underlying53 his hsz0 hsz1 hsz2 rfl (by decide) _ _ _ (strs l) rfl (by exact HN1.out.own) _ 1 _ [.string x.name] rfl (Rd.new (by simp) rfl) (by intro u hu; simp at hu; subst hu; rfl) (by unfold maxLen; omega) (by omega) (by simp; omega) ?_; intro A2 c2 w2 hown2 hgrow2 hblk2 _))
                              have R := HN1.out.app rfl hown2 hgrow2
                              go_roundw
                              case rel => exact ⟨k + 1, A2, c2, by omega, by go_num, by rw [HT.out, ← R.1], by rw [HTB.out, List.any_append, HBD.out]; simp [HG.out], by rw [HT.out]; exact R.2⟩
                              case measure => simp [intOf]; omega
                        · have hkl : (ndNames p).take k = ndNames p := List.take_of_length_le (by simp [ndNames]; omega)
                          have HND := Lib.hid (show nodesB p = true from by
                            have := HBD.out
                            rw [List.take_of_length_le (by omega)] at this
                            unfold nodesB
                            rw [HLIM.out.2.2.1, this]; rfl)
                          rw [hkl] at hN hlen ⊢
                          clear hkl
                          go_wp2_with fail
                          go_loopw [5, 7] (fun v i wr => ∃ (k : Nat) (A : Option Addr) (c : Nat), k ≤ p.dests.length ∧ i = .int .i64 k ∧ v = .slice A (ndNames p ++ (dsNames p).take k).length c ∧ NamesW w wr #[.int .i64 p.proto, .int .i64 p.cap, .int .i64 p.k, .slice an p.nodes.length cn, .slice al p.links.length cl, .slice ad p.dests.length cd, .slice ac p.checks.length cc] A c (ndNames p ++ (dsNames p).take k)) (fun _ i _ => p.dests.length - (intOf i).toNat)
                          case atStart => exact ⟨0, A, c, Nat.zero_le _, rfl, by simp, by simpa using hN⟩
                          case round =>
                            clear hN hsz hszlt m3 m5 hk0 HBX
                            obtain ⟨k, A, c, hk, rfl, rfl, hN⟩ := hrel
                            have hsz := hN.size
                            have hszlt : w.heap.size < wr.heap.size := by omega
                            have hlen2 : (ndNames p ++ (dsNames p).take k).length ≤ 2000 := by simp [dsNames] at hlen ⊢; omega
                            have hk0 : (0 : Int) ≤ (k : Int) := by omega
                            have m5 := hN.at_ 5
                            simp at m5
                            by_cases hlt : k < p.dests.length
                            · obtain ⟨x, hx⟩ : ∃ x, p.dests[k]? = some x := ⟨_, List.getElem?_eq_getElem hlt⟩
                              obtain ⟨b, o, a', cx, e', hb, hc0, hc1, _⟩ := HP.out.dest hx
                              simp only at e'
                              subst e'
                              rw [← hN.below.cell hb] at hc0 hc1
                              have hts : ndNames p ++ (dsNames p).take (k + 1) = (ndNames p ++ (dsNames p).take k) ++ [x.name] := by
                                rw [List.take_add_one]; simp [dsNames, hx]
                              have HT := Lib.hid hts
                              clear hx hts
                              generalize ndNames p ++ (dsNames p).take k = l at *
                              have HN1 := Lib.hid (hN.alloc (.cells #[.string x.name] 9))
                              go_wp2_with (first | (at_builtin; refine wpList_app _ rfl _ _ 53 rfl (w.heap.size + 1) 9 is (.string ⟨#[]⟩) 1 16 Tryz.underlying53 his hsz0 hsz1 hsz2 rfl (by decide) _ _ _ (strs l) rfl (by exact HN1.out.own) _ 1 _ [.string x.name] rfl (Rd.new (by simp) rfl) (by intro u hu; simp at hu; subst hu; rfl) (by unfold maxLen; omega) (by omega) (by simp; omega) ?_; intro A2 c2 w2 hown2 hgrow2 hblk2 _))
                              have R := HN1.out.app rfl hown2 hgrow2
                              go_roundw
                              case rel => exact ⟨k + 1, A2, c2, by omega, by go_num, by rw [HT.out, ← R.1], by rw [HT.out]; exact R.2⟩
                              case measure => simp [intOf]; omega
                            · have hkl : ndNames p ++ (dsNames p).take k = namesOf p := by rw [List.take_of_length_le (by simp [dsNames]; omega)]; rfl
                              rw [hkl] at hN hlen2 ⊢
                              have A0 : Hid (AtRight w p ⟨an, cn, al, cl, ad, cd, ac, cc, dv⟩ wr) := Lib.hid ⟨hN.below, by omega, fun i u hu => (hN.at_ i).trans hu, (HP.out.below hN.below (Nat.le_refl _)).more (by omega)⟩
                              have HRD := Lib.hid hN.own.rd
                              have HLN := Lib.hid (show (namesOf p).length ≤ 10000 from by omega)
                              have GR := Lib.hid (right_parts p HLIM.out.1 HLIM.out.2.1 HND.out HLIM.out.2.2.2.1 HLIM.out.2.2.2.2.1 HLIM.out.2.2.2.2.2)
                              clear hkl hN hlen2 hlen
                              by_cases g1 : namesB (namesOf p) = true
                              · by_cases g2 : linksB p = true
                                · by_cases g3 : destsB p = true
                                  · have HF := Lib.hid (show checksB p = rightB p from by rw [GR.out, g1, g2, g3]; simp)
                                    go_wp2_with (first | (go_at_call 40; refine (rnames_any (namesOf p) _ _ _ HRD.out HLN.out).mono ?_; rintro e wa ⟨rfl, hba⟩; have A1 := Lib.hid (A0.out.call hba); clear hba; have a0 : wa.cell? ⟨w.heap.size, 0, none⟩ = some (.int .i64 p.proto) := A1.out.cells 0 _ rfl; have a1 : wa.cell? ⟨w.heap.size, 1, none⟩ = some (.int .i64 p.cap) := A1.out.cells 1 _ rfl; have a2 : wa.cell? ⟨w.heap.size, 2, none⟩ = some (.int .i64 p.k) := A1.out.cells 2 _ rfl; have a3 : wa.cell? ⟨w.heap.size, 3, none⟩ = some (.slice an p.nodes.length cn) := A1.out.cells 3 _ rfl; have a4 : wa.cell? ⟨w.heap.size, 4, none⟩ = some (.slice al p.links.length cl) := A1.out.cells 4 _ rfl; have a5 : wa.cell? ⟨w.heap.size, 5, none⟩ = some (.slice ad p.dests.length cd) := A1.out.cells 5 _ rfl; have a6 : wa.cell? ⟨w.heap.size, 6, none⟩ = some (.slice ac p.checks.length cc) := A1.out.cells 6 _ rfl) | (go_at_call 41; refine (rlinks_any p ⟨an, cn, al, cl, ad, cd, ac, cc, dv⟩ _ A1.out.net HSm.out).mono ?_; rintro e wb ⟨rfl, hbwb⟩; have A2 := Lib.hid (A1.out.call hbwb); clear hbwb; have a0 : wb.cell? ⟨w.heap.size, 0, none⟩ = some (.int .i64 p.proto) := A2.out.cells 0 _ rfl; have a1 : wb.cell? ⟨w.heap.size, 1, none⟩ = some (.int .i64 p.cap) := A2.out.cells 1 _ rfl; have a2 : wb.cell? ⟨w.heap.size, 2, none⟩ = some (.int .i64 p.k) := A2.out.cells 2 _ rfl; have a3 : wb.cell? ⟨w.heap.size, 3, none⟩ = some (.slice an p.nodes.length cn) := A2.out.cells 3 _ rfl; have a4 : wb.cell? ⟨w.heap.size, 4, none⟩ = some (.slice al p.links.length cl) := A2.out.cells 4 _ rfl; have a5 : wb.cell? ⟨w.heap.size, 5, none⟩ = some (.slice ad p.dests.length cd) := A2.out.cells 5 _ rfl; have a6 : wb.cell? ⟨w.heap.size, 6, none⟩ = some (.slice ac p.checks.length cc) := A2.out.cells 6 _ rfl) | (go_at_call 42; refine (rdests_any p ⟨an, cn, al, cl, ad, cd, ac, cc, dv⟩ _ A2.out.net HSm.out).mono ?_; rintro e wc ⟨rfl, hbwc⟩; have A3 := Lib.hid (A2.out.call hbwc); clear hbwc; have a0 : wc.cell? ⟨w.heap.size, 0, none⟩ = some (.int .i64 p.proto) := A3.out.cells 0 _ rfl; have a1 : wc.cell? ⟨w.heap.size, 1, none⟩ = some (.int .i64 p.cap) := A3.out.cells 1 _ rfl; have a2 : wc.cell? ⟨w.heap.size, 2, none⟩ = some (.int .i64 p.k) := A3.out.cells 2 _ rfl; have a3 : wc.cell? ⟨w.heap.size, 3, none⟩ = some (.slice an p.nodes.length cn) := A3.out.cells 3 _ rfl; have a4 : wc.cell? ⟨w.heap.size, 4, none⟩ = some (.slice al p.links.length cl) := A3.out.cells 4 _ rfl; have a5 : wc.cell? ⟨w.heap.size, 5, none⟩ = some (.slice ad p.dests.length cd) := A3.out.cells 5 _ rfl; have a6 : wc.cell? ⟨w.heap.size, 6, none⟩ = some (.slice ac p.checks.length cc) := A3.out.cells 6 _ rfl) | (go_at_call 43; refine (rchecks_any p ⟨an, cn, al, cl, ad, cd, ac, cc, dv⟩ _ A3.out.net HSm.out).mono ?_; rintro e wd ⟨rfl, hbwd⟩; have A4 := Lib.hid (A3.out.call hbwd); clear hbwd; have a0 : wd.cell? ⟨w.heap.size, 0, none⟩ = some (.int .i64 p.proto) := A4.out.cells 0 _ rfl; have a1 : wd.cell? ⟨w.heap.size, 1, none⟩ = some (.int .i64 p.cap) := A4.out.cells 1 _ rfl; have a2 : wd.cell? ⟨w.heap.size, 2, none⟩ = some (.int .i64 p.k) := A4.out.cells 2 _ rfl; have a3 : wd.cell? ⟨w.heap.size, 3, none⟩ = some (.slice an p.nodes.length cn) := A4.out.cells 3 _ rfl; have a4 : wd.cell? ⟨w.heap.size, 4, none⟩ = some (.slice al p.links.length cl) := A4.out.cells 4 _ rfl; have a5 : wd.cell? ⟨w.heap.size, 5, none⟩ = some (.slice ad p.dests.length cd) := A4.out.cells 5 _ rfl; have a6 : wd.cell? ⟨w.heap.size, 6, none⟩ = some (.slice ac p.checks.length cc) := A4.out.cells 6 _ rfl))
                                    go_ret
                                    exact ⟨ret_bool HF.out, A4.out.below⟩
                                  · have g3 : destsB p = false := by simpa using g3
                                    have HF := Lib.hid (show false = rightB p from by rw [GR.out, g3]; simp)
                                    go_wp2_with (first | (go_at_call 40; refine (rnames_any (namesOf p) _ _ _ HRD.out HLN.out).mono ?_; rintro e wa ⟨rfl, hba⟩; have A1 := Lib.hid (A0.out.call hba); clear hba; have a0 : wa.cell? ⟨w.heap.size, 0, none⟩ = some (.int .i64 p.proto) := A1.out.cells 0 _ rfl; have a1 : wa.cell? ⟨w.heap.size, 1, none⟩ = some (.int .i64 p.cap) := A1.out.cells 1 _ rfl; have a2 : wa.cell? ⟨w.heap.size, 2, none⟩ = some (.int .i64 p.k) := A1.out.cells 2 _ rfl; have a3 : wa.cell? ⟨w.heap.size, 3, none⟩ = some (.slice an p.nodes.length cn) := A1.out.cells 3 _ rfl; have a4 : wa.cell? ⟨w.heap.size, 4, none⟩ = some (.slice al p.links.length cl) := A1.out.cells 4 _ rfl; have a5 : wa.cell? ⟨w.heap.size, 5, none⟩ = some (.slice ad p.dests.length cd) := A1.out.cells 5 _ rfl; have a6 : wa.cell? ⟨w.heap.size, 6, none⟩ = some (.slice ac p.checks.length cc) := A1.out.cells 6 _ rfl) | (go_at_call 41; refine (rlinks_any p ⟨an, cn, al, cl, ad, cd, ac, cc, dv⟩ _ A1.out.net HSm.out).mono ?_; rintro e wb ⟨rfl, hbwb⟩; have A2 := Lib.hid (A1.out.call hbwb); clear hbwb; have a0 : wb.cell? ⟨w.heap.size, 0, none⟩ = some (.int .i64 p.proto) := A2.out.cells 0 _ rfl; have a1 : wb.cell? ⟨w.heap.size, 1, none⟩ = some (.int .i64 p.cap) := A2.out.cells 1 _ rfl; have a2 : wb.cell? ⟨w.heap.size, 2, none⟩ = some (.int .i64 p.k) := A2.out.cells 2 _ rfl; have a3 : wb.cell? ⟨w.heap.size, 3, none⟩ = some (.slice an p.nodes.length cn) := A2.out.cells 3 _ rfl; have a4 : wb.cell? ⟨w.heap.size, 4, none⟩ = some (.slice al p.links.length cl) := A2.out.cells 4 _ rfl; have a5 : wb.cell? ⟨w.heap.size, 5, none⟩ = some (.slice ad p.dests.length cd) := A2.out.cells 5 _ rfl; have a6 : wb.cell? ⟨w.heap.size, 6, none⟩ = some (.slice ac p.checks.length cc) := A2.out.cells 6 _ rfl) | (go_at_call 42; refine (rdests_any p ⟨an, cn, al, cl, ad, cd, ac, cc, dv⟩ _ A2.out.net HSm.out).mono ?_; rintro e wc ⟨rfl, hbwc⟩; have A3 := Lib.hid (A2.out.call hbwc); clear hbwc; have a0 : wc.cell? ⟨w.heap.size, 0, none⟩ = some (.int .i64 p.proto) := A3.out.cells 0 _ rfl; have a1 : wc.cell? ⟨w.heap.size, 1, none⟩ = some (.int .i64 p.cap) := A3.out.cells 1 _ rfl; have a2 : wc.cell? ⟨w.heap.size, 2, none⟩ = some (.int .i64 p.k) := A3.out.cells 2 _ rfl; have a3 : wc.cell? ⟨w.heap.size, 3, none⟩ = some (.slice an p.nodes.length cn) := A3.out.cells 3 _ rfl; have a4 : wc.cell? ⟨w.heap.size, 4, none⟩ = some (.slice al p.links.length cl) := A3.out.cells 4 _ rfl; have a5 : wc.cell? ⟨w.heap.size, 5, none⟩ = some (.slice ad p.dests.length cd) := A3.out.cells 5 _ rfl; have a6 : wc.cell? ⟨w.heap.size, 6, none⟩ = some (.slice ac p.checks.length cc) := A3.out.cells 6 _ rfl) | (go_at_call 43; refine (rchecks_any p ⟨an, cn, al, cl, ad, cd, ac, cc, dv⟩ _ A3.out.net HSm.out).mono ?_; rintro e wd ⟨rfl, hbwd⟩; have A4 := Lib.hid (A3.out.call hbwd); clear hbwd; have a0 : wd.cell? ⟨w.heap.size, 0, none⟩ = some (.int .i64 p.proto) := A4.out.cells 0 _ rfl; have a1 : wd.cell? ⟨w.heap.size, 1, none⟩ = some (.int .i64 p.cap) := A4.out.cells 1 _ rfl; have a2 : wd.cell? ⟨w.heap.size, 2, none⟩ = some (.int .i64 p.k) := A4.out.cells 2 _ rfl; have a3 : wd.cell? ⟨w.heap.size, 3, none⟩ = some (.slice an p.nodes.length cn) := A4.out.cells 3 _ rfl; have a4 : wd.cell? ⟨w.heap.size, 4, none⟩ = some (.slice al p.links.length cl) := A4.out.cells 4 _ rfl; have a5 : wd.cell? ⟨w.heap.size, 5, none⟩ = some (.slice ad p.dests.length cd) := A4.out.cells 5 _ rfl; have a6 : wd.cell? ⟨w.heap.size, 6, none⟩ = some (.slice ac p.checks.length cc) := A4.out.cells 6 _ rfl))
                                    go_ret
                                    exact ⟨ret_bool HF.out, A3.out.below⟩
                                · have g2 : linksB p = false := by simpa using g2
                                  have HF := Lib.hid (show false = rightB p from by rw [GR.out, g2]; simp)
                                  go_wp2_with (first | (go_at_call 40; refine (rnames_any (namesOf p) _ _ _ HRD.out HLN.out).mono ?_; rintro e wa ⟨rfl, hba⟩; have A1 := Lib.hid (A0.out.call hba); clear hba; have a0 : wa.cell? ⟨w.heap.size, 0, none⟩ = some (.int .i64 p.proto) := A1.out.cells 0 _ rfl; have a1 : wa.cell? ⟨w.heap.size, 1, none⟩ = some (.int .i64 p.cap) := A1.out.cells 1 _ rfl; have a2 : wa.cell? ⟨w.heap.size, 2, none⟩ = some (.int .i64 p.k) := A1.out.cells 2 _ rfl; have a3 : wa.cell? ⟨w.heap.size, 3, none⟩ = some (.slice an p.nodes.length cn) := A1.out.cells 3 _ rfl; have a4 : wa.cell? ⟨w.heap.size, 4, none⟩ = some (.slice al p.links.length cl) := A1.out.cells 4 _ rfl; have a5 : wa.cell? ⟨w.heap.size, 5, none⟩ = some (.slice ad p.dests.length cd) := A1.out.cells 5 _ rfl; have a6 : wa.cell? ⟨w.heap.size, 6, none⟩ = some (.slice ac p.checks.length cc) := A1.out.cells 6 _ rfl) | (go_at_call 41; refine (rlinks_any p ⟨an, cn, al, cl, ad, cd, ac, cc, dv⟩ _ A1.out.net HSm.out).mono ?_; rintro e wb ⟨rfl, hbwb⟩; have A2 := Lib.hid (A1.out.call hbwb); clear hbwb; have a0 : wb.cell? ⟨w.heap.size, 0, none⟩ = some (.int .i64 p.proto) := A2.out.cells 0 _ rfl; have a1 : wb.cell? ⟨w.heap.size, 1, none⟩ = some (.int .i64 p.cap) := A2.out.cells 1 _ rfl; have a2 : wb.cell? ⟨w.heap.size, 2, none⟩ = some (.int .i64 p.k) := A2.out.cells 2 _ rfl; have a3 : wb.cell? ⟨w.heap.size, 3, none⟩ = some (.slice an p.nodes.length cn) := A2.out.cells 3 _ rfl; have a4 : wb.cell? ⟨w.heap.size, 4, none⟩ = some (.slice al p.links.length cl) := A2.out.cells 4 _ rfl; have a5 : wb.cell? ⟨w.heap.size, 5, none⟩ = some (.slice ad p.dests.length cd) := A2.out.cells 5 _ rfl; have a6 : wb.cell? ⟨w.heap.size, 6, none⟩ = some (.slice ac p.checks.length cc) := A2.out.cells 6 _ rfl) | (go_at_call 42; refine (rdests_any p ⟨an, cn, al, cl, ad, cd, ac, cc, dv⟩ _ A2.out.net HSm.out).mono ?_; rintro e wc ⟨rfl, hbwc⟩; have A3 := Lib.hid (A2.out.call hbwc); clear hbwc; have a0 : wc.cell? ⟨w.heap.size, 0, none⟩ = some (.int .i64 p.proto) := A3.out.cells 0 _ rfl; have a1 : wc.cell? ⟨w.heap.size, 1, none⟩ = some (.int .i64 p.cap) := A3.out.cells 1 _ rfl; have a2 : wc.cell? ⟨w.heap.size, 2, none⟩ = some (.int .i64 p.k) := A3.out.cells 2 _ rfl; have a3 : wc.cell? ⟨w.heap.size, 3, none⟩ = some (.slice an p.nodes.length cn) := A3.out.cells 3 _ rfl; have a4 : wc.cell? ⟨w.heap.size, 4, none⟩ = some (.slice al p.links.length cl) := A3.out.cells 4 _ rfl; have a5 : wc.cell? ⟨w.heap.size, 5, none⟩ = some (.slice ad p.dests.length cd) := A3.out.cells 5 _ rfl; have a6 : wc.cell? ⟨w.heap.size, 6, none⟩ = some (.slice ac p.checks.length cc) := A3.out.cells 6 _ rfl) | (go_at_call 43; refine (rchecks_any p ⟨an, cn, al, cl, ad, cd, ac, cc, dv⟩ _ A3.out.net HSm.out).mono ?_; rintro e wd ⟨rfl, hbwd⟩; have A4 := Lib.hid (A3.out.call hbwd); clear hbwd; have a0 : wd.cell? ⟨w.heap.size, 0, none⟩ = some (.int .i64 p.proto) := A4.out.cells 0 _ rfl; have a1 : wd.cell? ⟨w.heap.size, 1, none⟩ = some (.int .i64 p.cap) := A4.out.cells 1 _ rfl; have a2 : wd.cell? ⟨w.heap.size, 2, none⟩ = some (.int .i64 p.k) := A4.out.cells 2 _ rfl; have a3 : wd.cell? ⟨w.heap.size, 3, none⟩ = some (.slice an p.nodes.length cn) := A4.out.cells 3 _ rfl; have a4 : wd.cell? ⟨w.heap.size, 4, none⟩ = some (.slice al p.links.length cl) := A4.out.cells 4 _ rfl; have a5 : wd.cell? ⟨w.heap.size, 5, none⟩ = some (.slice ad p.dests.length cd) := A4.out.cells 5 _ rfl; have a6 : wd.cell? ⟨w.heap.size, 6, none⟩ = some (.slice ac p.checks.length cc) := A4.out.cells 6 _ rfl))
                                  go_ret
                                  exact ⟨ret_bool HF.out, A2.out.below⟩
                              · have g1 : namesB (namesOf p) = false := by simpa using g1
                                have HF := Lib.hid (show false = rightB p from by rw [GR.out, g1]; simp)
                                go_wp2_with (first | (go_at_call 40; refine (rnames_any (namesOf p) _ _ _ HRD.out HLN.out).mono ?_; rintro e wa ⟨rfl, hba⟩; have A1 := Lib.hid (A0.out.call hba); clear hba; have a0 : wa.cell? ⟨w.heap.size, 0, none⟩ = some (.int .i64 p.proto) := A1.out.cells 0 _ rfl; have a1 : wa.cell? ⟨w.heap.size, 1, none⟩ = some (.int .i64 p.cap) := A1.out.cells 1 _ rfl; have a2 : wa.cell? ⟨w.heap.size, 2, none⟩ = some (.int .i64 p.k) := A1.out.cells 2 _ rfl; have a3 : wa.cell? ⟨w.heap.size, 3, none⟩ = some (.slice an p.nodes.length cn) := A1.out.cells 3 _ rfl; have a4 : wa.cell? ⟨w.heap.size, 4, none⟩ = some (.slice al p.links.length cl) := A1.out.cells 4 _ rfl; have a5 : wa.cell? ⟨w.heap.size, 5, none⟩ = some (.slice ad p.dests.length cd) := A1.out.cells 5 _ rfl; have a6 : wa.cell? ⟨w.heap.size, 6, none⟩ = some (.slice ac p.checks.length cc) := A1.out.cells 6 _ rfl) | (go_at_call 41; refine (rlinks_any p ⟨an, cn, al, cl, ad, cd, ac, cc, dv⟩ _ A1.out.net HSm.out).mono ?_; rintro e wb ⟨rfl, hbwb⟩; have A2 := Lib.hid (A1.out.call hbwb); clear hbwb; have a0 : wb.cell? ⟨w.heap.size, 0, none⟩ = some (.int .i64 p.proto) := A2.out.cells 0 _ rfl; have a1 : wb.cell? ⟨w.heap.size, 1, none⟩ = some (.int .i64 p.cap) := A2.out.cells 1 _ rfl; have a2 : wb.cell? ⟨w.heap.size, 2, none⟩ = some (.int .i64 p.k) := A2.out.cells 2 _ rfl; have a3 : wb.cell? ⟨w.heap.size, 3, none⟩ = some (.slice an p.nodes.length cn) := A2.out.cells 3 _ rfl; have a4 : wb.cell? ⟨w.heap.size, 4, none⟩ = some (.slice al p.links.length cl) := A2.out.cells 4 _ rfl; have a5 : wb.cell? ⟨w.heap.size, 5, none⟩ = some (.slice ad p.dests.length cd) := A2.out.cells 5 _ rfl; have a6 : wb.cell? ⟨w.heap.size, 6, none⟩ = some (.slice ac p.checks.length cc) := A2.out.cells 6 _ rfl) | (go_at_call 42; refine (rdests_any p ⟨an, cn, al, cl, ad, cd, ac, cc, dv⟩ _ A2.out.net HSm.out).mono ?_; rintro e wc ⟨rfl, hbwc⟩; have A3 := Lib.hid (A2.out.call hbwc); clear hbwc; have a0 : wc.cell? ⟨w.heap.size, 0, none⟩ = some (.int .i64 p.proto) := A3.out.cells 0 _ rfl; have a1 : wc.cell? ⟨w.heap.size, 1, none⟩ = some (.int .i64 p.cap) := A3.out.cells 1 _ rfl; have a2 : wc.cell? ⟨w.heap.size, 2, none⟩ = some (.int .i64 p.k) := A3.out.cells 2 _ rfl; have a3 : wc.cell? ⟨w.heap.size, 3, none⟩ = some (.slice an p.nodes.length cn) := A3.out.cells 3 _ rfl; have a4 : wc.cell? ⟨w.heap.size, 4, none⟩ = some (.slice al p.links.length cl) := A3.out.cells 4 _ rfl; have a5 : wc.cell? ⟨w.heap.size, 5, none⟩ = some (.slice ad p.dests.length cd) := A3.out.cells 5 _ rfl; have a6 : wc.cell? ⟨w.heap.size, 6, none⟩ = some (.slice ac p.checks.length cc) := A3.out.cells 6 _ rfl) | (go_at_call 43; refine (rchecks_any p ⟨an, cn, al, cl, ad, cd, ac, cc, dv⟩ _ A3.out.net HSm.out).mono ?_; rintro e wd ⟨rfl, hbwd⟩; have A4 := Lib.hid (A3.out.call hbwd); clear hbwd; have a0 : wd.cell? ⟨w.heap.size, 0, none⟩ = some (.int .i64 p.proto) := A4.out.cells 0 _ rfl; have a1 : wd.cell? ⟨w.heap.size, 1, none⟩ = some (.int .i64 p.cap) := A4.out.cells 1 _ rfl; have a2 : wd.cell? ⟨w.heap.size, 2, none⟩ = some (.int .i64 p.k) := A4.out.cells 2 _ rfl; have a3 : wd.cell? ⟨w.heap.size, 3, none⟩ = some (.slice an p.nodes.length cn) := A4.out.cells 3 _ rfl; have a4 : wd.cell? ⟨w.heap.size, 4, none⟩ = some (.slice al p.links.length cl) := A4.out.cells 4 _ rfl; have a5 : wd.cell? ⟨w.heap.size, 5, none⟩ = some (.slice ad p.dests.length cd) := A4.out.cells 5 _ rfl; have a6 : wd.cell? ⟨w.heap.size, 6, none⟩ = some (.slice ac p.checks.length cc) := A4.out.cells 6 _ rfl))
                                go_ret
                                exact ⟨ret_bool HF.out, A1.out.below⟩
    · have qc' : (p.cap == 0) = false := by simp [qc]
      have HF := Lib.hid (show rightB p = false from by rw [Bool.eq_false_iff]; intro hc; simp only [rightB, Bool.and_eq_true, routingB, nodesB, linksB, withinB, Bool.or_eq_true, decide_eq_true_eq, beq_iff_eq] at hc; omega)
      clear q1 qc
      go_wp2
      go_ret
      exact ⟨ret_bool HF.out.symm, HB.out⟩
  · have q1' : (p.proto == 1) = false := by simp [q1]
    by_cases q2 : p.proto = 2
    · have q2' : (p.proto == 2) = true := by simp [q2]
      by_cases qa : 1 ≤ p.cap
      · have qa' : decide (1 ≤ p.cap) = true := decide_eq_true qa
        by_cases qb : p.cap ≤ 12
        · have qb' : decide (p.cap ≤ 12) = true := decide_eq_true qb
          by_cases hk0 : p.k < 0
          · have hk0' : decide (p.k < 0) = true := decide_eq_true hk0
            have HF := Lib.hid (show rightB p = false from by rw [Bool.eq_false_iff]; intro hc; simp only [rightB, Bool.and_eq_true, routingB, nodesB, linksB, withinB, Bool.or_eq_true, decide_eq_true_eq, beq_iff_eq] at hc; omega)
            clear q1 q2 qa qb hk0
            go_wp2
            go_ret
            exact ⟨ret_bool HF.out.symm, HB.out⟩
          · have hk0' : decide (p.k < 0) = false := decide_eq_false hk0
            by_cases hk4 : 4 < p.k
            · have hk4' : decide (4 < p.k) = true := decide_eq_true hk4
              have HF := Lib.hid (show rightB p = false from by rw [Bool.eq_false_iff]; intro hc; simp only [rightB, Bool.and_eq_true, routingB, nodesB, linksB, withinB, Bool.or_eq_true, decide_eq_true_eq, beq_iff_eq] at hc; omega)
              clear q1 q2 qa qb hk0 hk4
              go_wp2
              go_ret
              exact ⟨ret_bool HF.out.symm, HB.out⟩
            · have hk4' : decide (4 < p.k) = false := decide_eq_false hk4
              by_cases hkl : (p.links.length : Int) < p.k
              · have hkl' : decide ((p.links.length : Int) < p.k) = true := decide_eq_true hkl
                have HF := Lib.hid (show rightB p = false from by rw [Bool.eq_false_iff]; intro hc; simp only [rightB, Bool.and_eq_true, routingB, nodesB, linksB, withinB, Bool.or_eq_true, decide_eq_true_eq, beq_iff_eq] at hc; omega)
                clear q1 q2 qa qb hk0 hk4 hkl
                go_wp2
                go_ret
                exact ⟨ret_bool HF.out.symm, HB.out⟩
              · have hkl' : decide ((p.links.length : Int) < p.k) = false := decide_eq_false hkl
                by_cases hn1 : (p.nodes.length : Int) < 1
                · have hn1' : decide ((p.nodes.length : Int) < 1) = true := decide_eq_true hn1
                  have hn1'' : decide (p.nodes.length < 1) = true := decide_eq_true (by omega)
                  have HF := Lib.hid (show rightB p = false from by rw [Bool.eq_false_iff]; intro hc; simp only [rightB, Bool.and_eq_true, routingB, nodesB, linksB, withinB, Bool.or_eq_true, decide_eq_true_eq, beq_iff_eq] at hc; omega)
                  clear q1 q2 qa qb hk0 hk4 hkl hn1
                  go_wp2
                  go_ret
                  exact ⟨ret_bool HF.out.symm, HB.out⟩
                · have hn1' : decide ((p.nodes.length : Int) < 1) = false := decide_eq_false hn1
                  have hn1'' : decide (p.nodes.length < 1) = false := decide_eq_false (by omega)
                  by_cases hn12 : (12 : Int) < p.nodes.length
                  · have hn12' : decide ((12 : Int) < p.nodes.length) = true := decide_eq_true hn12
                    have hn12'' : decide (12 < p.nodes.length) = true := decide_eq_true (by omega)
                    have HF := Lib.hid (show rightB p = false from by rw [Bool.eq_false_iff]; intro hc; simp only [rightB, Bool.and_eq_true, routingB, nodesB, linksB, withinB, Bool.or_eq_true, decide_eq_true_eq, beq_iff_eq] at hc; omega)
                    clear q1 q2 qa qb hk0 hk4 hkl hn1 hn12
                    go_wp2
                    go_ret
                    exact ⟨ret_bool HF.out.symm, HB.out⟩
                  · have hn12' : decide ((12 : Int) < p.nodes.length) = false := decide_eq_false hn12
                    have hn12'' : decide (12 < p.nodes.length) = false := decide_eq_false (by omega)
                    by_cases hl16 : (16 : Int) < p.links.length
                    · have hl16' : decide ((16 : Int) < p.links.length) = true := decide_eq_true hl16
                      have hl16'' : decide (16 < p.links.length) = true := decide_eq_true (by omega)
                      have HF := Lib.hid (show rightB p = false from by rw [Bool.eq_false_iff]; intro hc; simp only [rightB, Bool.and_eq_true, routingB, nodesB, linksB, withinB, Bool.or_eq_true, decide_eq_true_eq, beq_iff_eq] at hc; omega)
                      clear q1 q2 qa qb hk0 hk4 hkl hn1 hn12 hl16
                      go_wp2
                      go_ret
                      exact ⟨ret_bool HF.out.symm, HB.out⟩
                    · have hl16' : decide ((16 : Int) < p.links.length) = false := decide_eq_false hl16
                      have hl16'' : decide (16 < p.links.length) = false := decide_eq_false (by omega)
                      by_cases hd4 : (4 : Int) < p.dests.length
                      · have hd4' : decide ((4 : Int) < p.dests.length) = true := decide_eq_true hd4
                        have hd4'' : decide (4 < p.dests.length) = true := decide_eq_true (by omega)
                        have HF := Lib.hid (show rightB p = false from by rw [Bool.eq_false_iff]; intro hc; simp only [rightB, Bool.and_eq_true, routingB, nodesB, linksB, withinB, Bool.or_eq_true, decide_eq_true_eq, beq_iff_eq] at hc; omega)
                        clear q1 q2 qa qb hk0 hk4 hkl hn1 hn12 hl16 hd4
                        go_wp2
                        go_ret
                        exact ⟨ret_bool HF.out.symm, HB.out⟩
                      · have hd4' : decide ((4 : Int) < p.dests.length) = false := decide_eq_false hd4
                        have hd4'' : decide (4 < p.dests.length) = false := decide_eq_false (by omega)
                        by_cases hc16 : (16 : Int) < p.checks.length
                        · have hc16' : decide ((16 : Int) < p.checks.length) = true := decide_eq_true hc16
                          have hc16'' : decide (16 < p.checks.length) = true := decide_eq_true (by omega)
                          have HF := Lib.hid (show rightB p = false from by rw [Bool.eq_false_iff]; intro hc; simp only [rightB, Bool.and_eq_true, routingB, nodesB, linksB, withinB, Bool.or_eq_true, decide_eq_true_eq, beq_iff_eq] at hc; omega)
                          clear q1 q2 qa qb hk0 hk4 hkl hn1 hn12 hl16 hd4 hc16
                          go_wp2
                          go_ret
                          exact ⟨ret_bool HF.out.symm, HB.out⟩
                        · have hc16' : decide ((16 : Int) < p.checks.length) = false := decide_eq_false hc16
                          have hc16'' : decide (16 < p.checks.length) = false := decide_eq_false (by omega)
                          have HLIM := Lib.hid (show routingB p = true ∧ withinB p.k 0 (min 4 (p.links.length : Int)) = true ∧ withinB p.nodes.length 1 12 = true ∧ p.links.length ≤ 16 ∧ p.dests.length ≤ 4 ∧ p.checks.length ≤ 16 from by refine ⟨by simp [routingB, withinB] <;> omega, by simp [withinB]; omega, by simp [withinB]; omega, by omega, by omega, by omega⟩)
                          clear q1 q2 qa qb hk0 hk4 hkl hn1 hn12 hl16 hd4 hc16 
                          go_upto_region 6 with fail
                          go_wp2_with fail
                          clear p0 p1 p2 p3 p4 p5 p6
                          go_loopw [5, 6] (fun v i wr => ∃ (k : Nat) (A : Option Addr) (c : Nat), k ≤ p.nodes.length ∧ i = .int .i64 k ∧ v = .slice A ((ndNames p).take k).length c ∧ (p.nodes.take k).any badNode = false ∧ NamesW w wr #[.int .i64 p.proto, .int .i64 p.cap, .int .i64 p.k, .slice an p.nodes.length cn, .slice al p.links.length cl, .slice ad p.dests.length cd, .slice ac p.checks.length cc] A c ((ndNames p).take k)) (fun _ i _ => p.nodes.length - (intOf i).toNat)
                          case atStart => exact ⟨0, none, 0, Nat.zero_le _, rfl, by simp, by simp, by simpa using HN0.out⟩
                          case round =>
                            obtain ⟨k, A, c, hk, rfl, rfl, hbad, hN⟩ := hrel
                            have HBD := Lib.hid hbad
                            clear hbad
                            have HBX := Lib.hid hN.below
                            have hsz := hN.size
                            have hszlt : w.heap.size < wr.heap.size := by omega
                            have hlen : ((ndNames p).take k).length ≤ 1000 := by simp [ndNames]; omega
                            have m3 := hN.at_ 3
                            have m5 := hN.at_ 5
                            simp at m3 m5
                            have hk0 : (0 : Int) ≤ (k : Int) := by omega
                            by_cases hlt : k < p.nodes.length
                            · obtain ⟨x, hx⟩ : ∃ x, p.nodes[k]? = some x := ⟨_, List.getElem?_eq_getElem hlt⟩
                              obtain ⟨b, o, e', hb, hc0, hc1⟩ := HP.out.nodes.node hx
                              simp only at e'
                              subst e'
                              rw [← hN.below.cell hb] at hc0 hc1
                              have hts : (ndNames p).take (k + 1) = (ndNames p).take k ++ [x.name] := by
                                rw [List.take_add_one]; simp [ndNames, hx]
                              have HT := Lib.hid hts
                              have htb : p.nodes.take (k + 1) = p.nodes.take k ++ [x] := by rw [List.take_add_one, hx]; rfl
                              have HTB := Lib.hid htb
                              have HBADX : Hid (badNode x = true → rightB p = false) := Lib.hid (fun hb => by
                                have : p.nodes.any badNode = true := List.any_eq_true.2 ⟨x, List.mem_of_getElem? hx, hb⟩
                                unfold rightB nodesB
                                rw [this]
                                simp)
                              clear hx hts htb
                              by_cases y1 : x.as_ < 1
                              · have y1' : decide (x.as_ < 1) = true := decide_eq_true y1
                                have HF := Lib.hid (HBADX.out (by simp [badNode, withinB]; omega))
                                clear y1 hN
                                go_wp2
                                go_ret
                                exact ⟨ret_bool HF.out.symm, HBX.out⟩
                              · have y1' : decide (x.as_ < 1) = false := decide_eq_false y1
                                by_cases y2 : 65535 < x.as_
                                · have y2' : decide (65535 < x.as_) = true := decide_eq_true y2
                                  have HF := Lib.hid (HBADX.out (by simp [badNode, withinB]; omega))
                                  clear y1 y2 hN
                                  go_wp2
                                  go_ret
                                  exact ⟨ret_bool HF.out.symm, HBX.out⟩
                                · have y2' : decide (65535 < x.as_) = false := decide_eq_false y2
                                  have HG := Lib.hid (show badNode x = false from by simp [badNode, withinB]; omega)
                                  clear y1 y2
                                  generalize (ndNames p).take k = l at *
                                  have HN1 := Lib.hid (hN.alloc (.cells #[.string x.name] 9))
                                  go_wp2_with (first | (at_builtin; refine wpList_app _ rfl _ _ 53 rfl (w.heap.size + 1) 9 is (.string ⟨#[]⟩) 1 16 Tryz.underlying53 his hsz0 hsz1 hsz2 rfl (by decide) _ _ _ (strs l) rfl (by exact HN1.out.own) _ 1 _ [.string x.name] rfl (Rd.new (by simp) rfl) (by intro u hu; simp at hu; subst hu; rfl) (by unfold maxLen; omega) (by omega) (by simp; omega) ?_; intro A2 c2 w2 hown2 hgrow2 hblk2 _))
                                  have R := HN1.out.app rfl hown2 hgrow2
                                  go_roundw
                                  case rel => exact ⟨k + 1, A2, c2, by omega, by go_num, by rw [HT.out, ← R.1], by rw [HTB.out, List.any_append, HBD.out]; simp [HG.out], by rw [HT.out]; exact R.2⟩
                                  case measure => simp [intOf]; omega
                            · have hkl : (ndNames p).take k = ndNames p := List.take_of_length_le (by simp [ndNames]; omega)
                              have HND := Lib.hid (show nodesB p = true from by
                                have := HBD.out
                                rw [List.take_of_length_le (by omega)] at this
                                unfold nodesB
                                rw [HLIM.out.2.2.1, this]; rfl)
                              rw [hkl] at hN hlen ⊢
                              clear hkl
                              go_wp2_with fail
                              go_loopw [5, 7] (fun v i wr => ∃ (k : Nat) (A : Option Addr) (c : Nat), k ≤ p.dests.length ∧ i = .int .i64 k ∧ v = .slice A (ndNames p ++ (dsNames p).take k).length c ∧ NamesW w wr #[.int .i64 p.proto, .int .i64 p.cap, .int .i64 p.k, .slice an p.nodes.length cn, .slice al p.links.length cl, .slice ad p.dests.length cd, .slice ac p.checks.length cc] A c (ndNames p ++ (dsNames p).take k)) (fun _ i _ => p.dests.length - (intOf i).toNat)
                              case atStart => exact ⟨0, A, c, Nat.zero_le _, rfl, by simp, by simpa using hN⟩
                              case round =>
                                clear hN hsz hszlt m3 m5 hk0 HBX
                                obtain ⟨k, A, c, hk, rfl, rfl, hN⟩ := hrel
                                have hsz := hN.size
                                have hszlt : w.heap.size < wr.heap.size := by omega
                                have hlen2 : (ndNames p ++ (dsNames p).take k).length ≤ 2000 := by simp [dsNames] at hlen ⊢; omega
                                have hk0 : (0 : Int) ≤ (k : Int) := by omega
                                have m5 := hN.at_ 5
                                simp at m5
                                by_cases hlt : k < p.dests.length
                                · obtain ⟨x, hx⟩ : ∃ x, p.dests[k]? = some x := ⟨_, List.getElem?_eq_getElem hlt⟩
                                  obtain ⟨b, o, a', cx, e', hb, hc0, hc1, _⟩ := HP.out.dest hx
                                  simp only at e'
                                  subst e'
                                  rw [← hN.below.cell hb] at hc0 hc1
                                  have hts : ndNames p ++ (dsNames p).take (k + 1) = (ndNames p ++ (dsNames p).take k) ++ [x.name] := by
                                    rw [List.take_add_one]; simp [dsNames, hx]
                                  have HT := Lib.hid hts
                                  clear hx hts
                                  generalize ndNames p ++ (dsNames p).take k = l at *
                                  have HN1 := Lib.hid (hN.alloc (.cells #[.string x.name] 9))
                                  go_wp2_with (first | (at_builtin; refine wpList_app _ rfl _ _ 53 rfl (w.heap.size + 1) 9 is (.string ⟨#[]⟩) 1 16 Tryz.underlying53 his hsz0 hsz1 hsz2 rfl (by decide) _ _ _ (strs l) rfl (by exact HN1.out.own) _ 1 _ [.string x.name] rfl (Rd.new (by simp) rfl) (by intro u hu; simp at hu; subst hu; rfl) (by unfold maxLen; omega) (by omega) (by simp; omega) ?_; intro A2 c2 w2 hown2 hgrow2 hblk2 _))
                                  have R := HN1.out.app rfl hown2 hgrow2
                                  go_roundw
                                  case rel => exact ⟨k + 1, A2, c2, by omega, by go_num, by rw [HT.out, ← R.1], by rw [HT.out]; exact R.2⟩
                                  case measure => simp [intOf]; omega
                                · have hkl : ndNames p ++ (dsNames p).take k = namesOf p := by rw [List.take_of_length_le (by simp [dsNames]; omega)]; rfl
                                  rw [hkl] at hN hlen2 ⊢
                                  have A0 : Hid (AtRight w p ⟨an, cn, al, cl, ad, cd, ac, cc, dv⟩ wr) := Lib.hid ⟨hN.below, by omega, fun i u hu => (hN.at_ i).trans hu, (HP.out.below hN.below (Nat.le_refl _)).more (by omega)⟩
                                  have HRD := Lib.hid hN.own.rd
                                  have HLN := Lib.hid (show (namesOf p).length ≤ 10000 from by omega)
                                  have GR := Lib.hid (right_parts p HLIM.out.1 HLIM.out.2.1 HND.out HLIM.out.2.2.2.1 HLIM.out.2.2.2.2.1 HLIM.out.2.2.2.2.2)
                                  clear hkl hN hlen2 hlen
                                  by_cases g1 : namesB (namesOf p) = true
                                  · by_cases g2 : linksB p = true
                                    · by_cases g3 : destsB p = true
                                      · have HF := Lib.hid (show checksB p = rightB p from by rw [GR.out, g1, g2, g3]; simp)
                                        go_wp2_with (first | (go_at_call 40; refine (rnames_any (namesOf p) _ _ _ HRD.out HLN.out).mono ?_; rintro e wa ⟨rfl, hba⟩; have A1 := Lib.hid (A0.out.call hba); clear hba; have a0 : wa.cell? ⟨w.heap.size, 0, none⟩ = some (.int .i64 p.proto) := A1.out.cells 0 _ rfl; have a1 : wa.cell? ⟨w.heap.size, 1, none⟩ = some (.int .i64 p.cap) := A1.out.cells 1 _ rfl; have a2 : wa.cell? ⟨w.heap.size, 2, none⟩ = some (.int .i64 p.k) := A1.out.cells 2 _ rfl; have a3 : wa.cell? ⟨w.heap.size, 3, none⟩ = some (.slice an p.nodes.length cn) := A1.out.cells 3 _ rfl; have a4 : wa.cell? ⟨w.heap.size, 4, none⟩ = some (.slice al p.links.length cl) := A1.out.cells 4 _ rfl; have a5 : wa.cell? ⟨w.heap.size, 5, none⟩ = some (.slice ad p.dests.length cd) := A1.out.cells 5 _ rfl; have a6 : wa.cell? ⟨w.heap.size, 6, none⟩ = some (.slice ac p.checks.length cc) := A1.out.cells 6 _ rfl) | (go_at_call 41; refine (rlinks_any p ⟨an, cn, al, cl, ad, cd, ac, cc, dv⟩ _ A1.out.net HSm.out).mono ?_; rintro e wb ⟨rfl, hbwb⟩; have A2 := Lib.hid (A1.out.call hbwb); clear hbwb; have a0 : wb.cell? ⟨w.heap.size, 0, none⟩ = some (.int .i64 p.proto) := A2.out.cells 0 _ rfl; have a1 : wb.cell? ⟨w.heap.size, 1, none⟩ = some (.int .i64 p.cap) := A2.out.cells 1 _ rfl; have a2 : wb.cell? ⟨w.heap.size, 2, none⟩ = some (.int .i64 p.k) := A2.out.cells 2 _ rfl; have a3 : wb.cell? ⟨w.heap.size, 3, none⟩ = some (.slice an p.nodes.length cn) := A2.out.cells 3 _ rfl; have a4 : wb.cell? ⟨w.heap.size, 4, none⟩ = some (.slice al p.links.length cl) := A2.out.cells 4 _ rfl; have a5 : wb.cell? ⟨w.heap.size, 5, none⟩ = some (.slice ad p.dests.length cd) := A2.out.cells 5 _ rfl; have a6 : wb.cell? ⟨w.heap.size, 6, none⟩ = some (.slice ac p.checks.length cc) := A2.out.cells 6 _ rfl) | (go_at_call 42; refine (rdests_any p ⟨an, cn, al, cl, ad, cd, ac, cc, dv⟩ _ A2.out.net HSm.out).mono ?_; rintro e wc ⟨rfl, hbwc⟩; have A3 := Lib.hid (A2.out.call hbwc); clear hbwc; have a0 : wc.cell? ⟨w.heap.size, 0, none⟩ = some (.int .i64 p.proto) := A3.out.cells 0 _ rfl; have a1 : wc.cell? ⟨w.heap.size, 1, none⟩ = some (.int .i64 p.cap) := A3.out.cells 1 _ rfl; have a2 : wc.cell? ⟨w.heap.size, 2, none⟩ = some (.int .i64 p.k) := A3.out.cells 2 _ rfl; have a3 : wc.cell? ⟨w.heap.size, 3, none⟩ = some (.slice an p.nodes.length cn) := A3.out.cells 3 _ rfl; have a4 : wc.cell? ⟨w.heap.size, 4, none⟩ = some (.slice al p.links.length cl) := A3.out.cells 4 _ rfl; have a5 : wc.cell? ⟨w.heap.size, 5, none⟩ = some (.slice ad p.dests.length cd) := A3.out.cells 5 _ rfl; have a6 : wc.cell? ⟨w.heap.size, 6, none⟩ = some (.slice ac p.checks.length cc) := A3.out.cells 6 _ rfl) | (go_at_call 43; refine (rchecks_any p ⟨an, cn, al, cl, ad, cd, ac, cc, dv⟩ _ A3.out.net HSm.out).mono ?_; rintro e wd ⟨rfl, hbwd⟩; have A4 := Lib.hid (A3.out.call hbwd); clear hbwd; have a0 : wd.cell? ⟨w.heap.size, 0, none⟩ = some (.int .i64 p.proto) := A4.out.cells 0 _ rfl; have a1 : wd.cell? ⟨w.heap.size, 1, none⟩ = some (.int .i64 p.cap) := A4.out.cells 1 _ rfl; have a2 : wd.cell? ⟨w.heap.size, 2, none⟩ = some (.int .i64 p.k) := A4.out.cells 2 _ rfl; have a3 : wd.cell? ⟨w.heap.size, 3, none⟩ = some (.slice an p.nodes.length cn) := A4.out.cells 3 _ rfl; have a4 : wd.cell? ⟨w.heap.size, 4, none⟩ = some (.slice al p.links.length cl) := A4.out.cells 4 _ rfl; have a5 : wd.cell? ⟨w.heap.size, 5, none⟩ = some (.slice ad p.dests.length cd) := A4.out.cells 5 _ rfl; have a6 : wd.cell? ⟨w.heap.size, 6, none⟩ = some (.slice ac p.checks.length cc) := A4.out.cells 6 _ rfl))
                                        go_ret
                                        exact ⟨ret_bool HF.out, A4.out.below⟩
                                      · have g3 : destsB p = false := by simpa using g3
                                        have HF := Lib.hid (show false = rightB p from by rw [GR.out, g3]; simp)
                                        go_wp2_with (first | (go_at_call 40; refine (rnames_any (namesOf p) _ _ _ HRD.out HLN.out).mono ?_; rintro e wa ⟨rfl, hba⟩; have A1 := Lib.hid (A0.out.call hba); clear hba; have a0 : wa.cell? ⟨w.heap.size, 0, none⟩ = some (.int .i64 p.proto) := A1.out.cells 0 _ rfl; have a1 : wa.cell? ⟨w.heap.size, 1, none⟩ = some (.int .i64 p.cap) := A1.out.cells 1 _ rfl; have a2 : wa.cell? ⟨w.heap.size, 2, none⟩ = some (.int .i64 p.k) := A1.out.cells 2 _ rfl; have a3 : wa.cell? ⟨w.heap.size, 3, none⟩ = some (.slice an p.nodes.length cn) := A1.out.cells 3 _ rfl; have a4 : wa.cell? ⟨w.heap.size, 4, none⟩ = some (.slice al p.links.length cl) := A1.out.cells 4 _ rfl; have a5 : wa.cell? ⟨w.heap.size, 5, none⟩ = some (.slice ad p.dests.length cd) := A1.out.cells 5 _ rfl; have a6 : wa.cell? ⟨w.heap.size, 6, none⟩ = some (.slice ac p.checks.length cc) := A1.out.cells 6 _ rfl) | (go_at_call 41; refine (rlinks_any p ⟨an, cn, al, cl, ad, cd, ac, cc, dv⟩ _ A1.out.net HSm.out).mono ?_; rintro e wb ⟨rfl, hbwb⟩; have A2 := Lib.hid (A1.out.call hbwb); clear hbwb; have a0 : wb.cell? ⟨w.heap.size, 0, none⟩ = some (.int .i64 p.proto) := A2.out.cells 0 _ rfl; have a1 : wb.cell? ⟨w.heap.size, 1, none⟩ = some (.int .i64 p.cap) := A2.out.cells 1 _ rfl; have a2 : wb.cell? ⟨w.heap.size, 2, none⟩ = some (.int .i64 p.k) := A2.out.cells 2 _ rfl; have a3 : wb.cell? ⟨w.heap.size, 3, none⟩ = some (.slice an p.nodes.length cn) := A2.out.cells 3 _ rfl; have a4 : wb.cell? ⟨w.heap.size, 4, none⟩ = some (.slice al p.links.length cl) := A2.out.cells 4 _ rfl; have a5 : wb.cell? ⟨w.heap.size, 5, none⟩ = some (.slice ad p.dests.length cd) := A2.out.cells 5 _ rfl; have a6 : wb.cell? ⟨w.heap.size, 6, none⟩ = some (.slice ac p.checks.length cc) := A2.out.cells 6 _ rfl) | (go_at_call 42; refine (rdests_any p ⟨an, cn, al, cl, ad, cd, ac, cc, dv⟩ _ A2.out.net HSm.out).mono ?_; rintro e wc ⟨rfl, hbwc⟩; have A3 := Lib.hid (A2.out.call hbwc); clear hbwc; have a0 : wc.cell? ⟨w.heap.size, 0, none⟩ = some (.int .i64 p.proto) := A3.out.cells 0 _ rfl; have a1 : wc.cell? ⟨w.heap.size, 1, none⟩ = some (.int .i64 p.cap) := A3.out.cells 1 _ rfl; have a2 : wc.cell? ⟨w.heap.size, 2, none⟩ = some (.int .i64 p.k) := A3.out.cells 2 _ rfl; have a3 : wc.cell? ⟨w.heap.size, 3, none⟩ = some (.slice an p.nodes.length cn) := A3.out.cells 3 _ rfl; have a4 : wc.cell? ⟨w.heap.size, 4, none⟩ = some (.slice al p.links.length cl) := A3.out.cells 4 _ rfl; have a5 : wc.cell? ⟨w.heap.size, 5, none⟩ = some (.slice ad p.dests.length cd) := A3.out.cells 5 _ rfl; have a6 : wc.cell? ⟨w.heap.size, 6, none⟩ = some (.slice ac p.checks.length cc) := A3.out.cells 6 _ rfl) | (go_at_call 43; refine (rchecks_any p ⟨an, cn, al, cl, ad, cd, ac, cc, dv⟩ _ A3.out.net HSm.out).mono ?_; rintro e wd ⟨rfl, hbwd⟩; have A4 := Lib.hid (A3.out.call hbwd); clear hbwd; have a0 : wd.cell? ⟨w.heap.size, 0, none⟩ = some (.int .i64 p.proto) := A4.out.cells 0 _ rfl; have a1 : wd.cell? ⟨w.heap.size, 1, none⟩ = some (.int .i64 p.cap) := A4.out.cells 1 _ rfl; have a2 : wd.cell? ⟨w.heap.size, 2, none⟩ = some (.int .i64 p.k) := A4.out.cells 2 _ rfl; have a3 : wd.cell? ⟨w.heap.size, 3, none⟩ = some (.slice an p.nodes.length cn) := A4.out.cells 3 _ rfl; have a4 : wd.cell? ⟨w.heap.size, 4, none⟩ = some (.slice al p.links.length cl) := A4.out.cells 4 _ rfl; have a5 : wd.cell? ⟨w.heap.size, 5, none⟩ = some (.slice ad p.dests.length cd) := A4.out.cells 5 _ rfl; have a6 : wd.cell? ⟨w.heap.size, 6, none⟩ = some (.slice ac p.checks.length cc) := A4.out.cells 6 _ rfl))
                                        go_ret
                                        exact ⟨ret_bool HF.out, A3.out.below⟩
                                    · have g2 : linksB p = false := by simpa using g2
                                      have HF := Lib.hid (show false = rightB p from by rw [GR.out, g2]; simp)
                                      go_wp2_with (first | (go_at_call 40; refine (rnames_any (namesOf p) _ _ _ HRD.out HLN.out).mono ?_; rintro e wa ⟨rfl, hba⟩; have A1 := Lib.hid (A0.out.call hba); clear hba; have a0 : wa.cell? ⟨w.heap.size, 0, none⟩ = some (.int .i64 p.proto) := A1.out.cells 0 _ rfl; have a1 : wa.cell? ⟨w.heap.size, 1, none⟩ = some (.int .i64 p.cap) := A1.out.cells 1 _ rfl; have a2 : wa.cell? ⟨w.heap.size, 2, none⟩ = some (.int .i64 p.k) := A1.out.cells 2 _ rfl; have a3 : wa.cell? ⟨w.heap.size, 3, none⟩ = some (.slice an p.nodes.length cn) := A1.out.cells 3 _ rfl; have a4 : wa.cell? ⟨w.heap.size, 4, none⟩ = some (.slice al p.links.length cl) := A1.out.cells 4 _ rfl; have a5 : wa.cell? ⟨w.heap.size, 5, none⟩ = some (.slice ad p.dests.length cd) := A1.out.cells 5 _ rfl; have a6 : wa.cell? ⟨w.heap.size, 6, none⟩ = some (.slice ac p.checks.length cc) := A1.out.cells 6 _ rfl) | (go_at_call 41; refine (rlinks_any p ⟨an, cn, al, cl, ad, cd, ac, cc, dv⟩ _ A1.out.net HSm.out).mono ?_; rintro e wb ⟨rfl, hbwb⟩; have A2 := Lib.hid (A1.out.call hbwb); clear hbwb; have a0 : wb.cell? ⟨w.heap.size, 0, none⟩ = some (.int .i64 p.proto) := A2.out.cells 0 _ rfl; have a1 : wb.cell? ⟨w.heap.size, 1, none⟩ = some (.int .i64 p.cap) := A2.out.cells 1 _ rfl; have a2 : wb.cell? ⟨w.heap.size, 2, none⟩ = some (.int .i64 p.k) := A2.out.cells 2 _ rfl; have a3 : wb.cell? ⟨w.heap.size, 3, none⟩ = some (.slice an p.nodes.length cn) := A2.out.cells 3 _ rfl; have a4 : wb.cell? ⟨w.heap.size, 4, none⟩ = some (.slice al p.links.length cl) := A2.out.cells 4 _ rfl; have a5 : wb.cell? ⟨w.heap.size, 5, none⟩ = some (.slice ad p.dests.length cd) := A2.out.cells 5 _ rfl; have a6 : wb.cell? ⟨w.heap.size, 6, none⟩ = some (.slice ac p.checks.length cc) := A2.out.cells 6 _ rfl) | (go_at_call 42; refine (rdests_any p ⟨an, cn, al, cl, ad, cd, ac, cc, dv⟩ _ A2.out.net HSm.out).mono ?_; rintro e wc ⟨rfl, hbwc⟩; have A3 := Lib.hid (A2.out.call hbwc); clear hbwc; have a0 : wc.cell? ⟨w.heap.size, 0, none⟩ = some (.int .i64 p.proto) := A3.out.cells 0 _ rfl; have a1 : wc.cell? ⟨w.heap.size, 1, none⟩ = some (.int .i64 p.cap) := A3.out.cells 1 _ rfl; have a2 : wc.cell? ⟨w.heap.size, 2, none⟩ = some (.int .i64 p.k) := A3.out.cells 2 _ rfl; have a3 : wc.cell? ⟨w.heap.size, 3, none⟩ = some (.slice an p.nodes.length cn) := A3.out.cells 3 _ rfl; have a4 : wc.cell? ⟨w.heap.size, 4, none⟩ = some (.slice al p.links.length cl) := A3.out.cells 4 _ rfl; have a5 : wc.cell? ⟨w.heap.size, 5, none⟩ = some (.slice ad p.dests.length cd) := A3.out.cells 5 _ rfl; have a6 : wc.cell? ⟨w.heap.size, 6, none⟩ = some (.slice ac p.checks.length cc) := A3.out.cells 6 _ rfl) | (go_at_call 43; refine (rchecks_any p ⟨an, cn, al, cl, ad, cd, ac, cc, dv⟩ _ A3.out.net HSm.out).mono ?_; rintro e wd ⟨rfl, hbwd⟩; have A4 := Lib.hid (A3.out.call hbwd); clear hbwd; have a0 : wd.cell? ⟨w.heap.size, 0, none⟩ = some (.int .i64 p.proto) := A4.out.cells 0 _ rfl; have a1 : wd.cell? ⟨w.heap.size, 1, none⟩ = some (.int .i64 p.cap) := A4.out.cells 1 _ rfl; have a2 : wd.cell? ⟨w.heap.size, 2, none⟩ = some (.int .i64 p.k) := A4.out.cells 2 _ rfl; have a3 : wd.cell? ⟨w.heap.size, 3, none⟩ = some (.slice an p.nodes.length cn) := A4.out.cells 3 _ rfl; have a4 : wd.cell? ⟨w.heap.size, 4, none⟩ = some (.slice al p.links.length cl) := A4.out.cells 4 _ rfl; have a5 : wd.cell? ⟨w.heap.size, 5, none⟩ = some (.slice ad p.dests.length cd) := A4.out.cells 5 _ rfl; have a6 : wd.cell? ⟨w.heap.size, 6, none⟩ = some (.slice ac p.checks.length cc) := A4.out.cells 6 _ rfl))
                                      go_ret
                                      exact ⟨ret_bool HF.out, A2.out.below⟩
                                  · have g1 : namesB (namesOf p) = false := by simpa using g1
                                    have HF := Lib.hid (show false = rightB p from by rw [GR.out, g1]; simp)
                                    go_wp2_with (first | (go_at_call 40; refine (rnames_any (namesOf p) _ _ _ HRD.out HLN.out).mono ?_; rintro e wa ⟨rfl, hba⟩; have A1 := Lib.hid (A0.out.call hba); clear hba; have a0 : wa.cell? ⟨w.heap.size, 0, none⟩ = some (.int .i64 p.proto) := A1.out.cells 0 _ rfl; have a1 : wa.cell? ⟨w.heap.size, 1, none⟩ = some (.int .i64 p.cap) := A1.out.cells 1 _ rfl; have a2 : wa.cell? ⟨w.heap.size, 2, none⟩ = some (.int .i64 p.k) := A1.out.cells 2 _ rfl; have a3 : wa.cell? ⟨w.heap.size, 3, none⟩ = some (.slice an p.nodes.length cn) := A1.out.cells 3 _ rfl; have a4 : wa.cell? ⟨w.heap.size, 4, none⟩ = some (.slice al p.links.length cl) := A1.out.cells 4 _ rfl; have a5 : wa.cell? ⟨w.heap.size, 5, none⟩ = some (.slice ad p.dests.length cd) := A1.out.cells 5 _ rfl; have a6 : wa.cell? ⟨w.heap.size, 6, none⟩ = some (.slice ac p.checks.length cc) := A1.out.cells 6 _ rfl) | (go_at_call 41; refine (rlinks_any p ⟨an, cn, al, cl, ad, cd, ac, cc, dv⟩ _ A1.out.net HSm.out).mono ?_; rintro e wb ⟨rfl, hbwb⟩; have A2 := Lib.hid (A1.out.call hbwb); clear hbwb; have a0 : wb.cell? ⟨w.heap.size, 0, none⟩ = some (.int .i64 p.proto) := A2.out.cells 0 _ rfl; have a1 : wb.cell? ⟨w.heap.size, 1, none⟩ = some (.int .i64 p.cap) := A2.out.cells 1 _ rfl; have a2 : wb.cell? ⟨w.heap.size, 2, none⟩ = some (.int .i64 p.k) := A2.out.cells 2 _ rfl; have a3 : wb.cell? ⟨w.heap.size, 3, none⟩ = some (.slice an p.nodes.length cn) := A2.out.cells 3 _ rfl; have a4 : wb.cell? ⟨w.heap.size, 4, none⟩ = some (.slice al p.links.length cl) := A2.out.cells 4 _ rfl; have a5 : wb.cell? ⟨w.heap.size, 5, none⟩ = some (.slice ad p.dests.length cd) := A2.out.cells 5 _ rfl; have a6 : wb.cell? ⟨w.heap.size, 6, none⟩ = some (.slice ac p.checks.length cc) := A2.out.cells 6 _ rfl) | (go_at_call 42; refine (rdests_any p ⟨an, cn, al, cl, ad, cd, ac, cc, dv⟩ _ A2.out.net HSm.out).mono ?_; rintro e wc ⟨rfl, hbwc⟩; have A3 := Lib.hid (A2.out.call hbwc); clear hbwc; have a0 : wc.cell? ⟨w.heap.size, 0, none⟩ = some (.int .i64 p.proto) := A3.out.cells 0 _ rfl; have a1 : wc.cell? ⟨w.heap.size, 1, none⟩ = some (.int .i64 p.cap) := A3.out.cells 1 _ rfl; have a2 : wc.cell? ⟨w.heap.size, 2, none⟩ = some (.int .i64 p.k) := A3.out.cells 2 _ rfl; have a3 : wc.cell? ⟨w.heap.size, 3, none⟩ = some (.slice an p.nodes.length cn) := A3.out.cells 3 _ rfl; have a4 : wc.cell? ⟨w.heap.size, 4, none⟩ = some (.slice al p.links.length cl) := A3.out.cells 4 _ rfl; have a5 : wc.cell? ⟨w.heap.size, 5, none⟩ = some (.slice ad p.dests.length cd) := A3.out.cells 5 _ rfl; have a6 : wc.cell? ⟨w.heap.size, 6, none⟩ = some (.slice ac p.checks.length cc) := A3.out.cells 6 _ rfl) | (go_at_call 43; refine (rchecks_any p ⟨an, cn, al, cl, ad, cd, ac, cc, dv⟩ _ A3.out.net HSm.out).mono ?_; rintro e wd ⟨rfl, hbwd⟩; have A4 := Lib.hid (A3.out.call hbwd); clear hbwd; have a0 : wd.cell? ⟨w.heap.size, 0, none⟩ = some (.int .i64 p.proto) := A4.out.cells 0 _ rfl; have a1 : wd.cell? ⟨w.heap.size, 1, none⟩ = some (.int .i64 p.cap) := A4.out.cells 1 _ rfl; have a2 : wd.cell? ⟨w.heap.size, 2, none⟩ = some (.int .i64 p.k) := A4.out.cells 2 _ rfl; have a3 : wd.cell? ⟨w.heap.size, 3, none⟩ = some (.slice an p.nodes.length cn) := A4.out.cells 3 _ rfl; have a4 : wd.cell? ⟨w.heap.size, 4, none⟩ = some (.slice al p.links.length cl) := A4.out.cells 4 _ rfl; have a5 : wd.cell? ⟨w.heap.size, 5, none⟩ = some (.slice ad p.dests.length cd) := A4.out.cells 5 _ rfl; have a6 : wd.cell? ⟨w.heap.size, 6, none⟩ = some (.slice ac p.checks.length cc) := A4.out.cells 6 _ rfl))
                                    go_ret
                                    exact ⟨ret_bool HF.out, A1.out.below⟩
        · have qb' : decide (p.cap ≤ 12) = false := decide_eq_false qb
          have HF := Lib.hid (show rightB p = false from by rw [Bool.eq_false_iff]; intro hc; simp only [rightB, Bool.and_eq_true, routingB, nodesB, linksB, withinB, Bool.or_eq_true, decide_eq_true_eq, beq_iff_eq] at hc; omega)
          clear q1 q2 qa qb
          go_wp2
          go_ret
          exact ⟨ret_bool HF.out.symm, HB.out⟩
      · have qa' : decide (1 ≤ p.cap) = false := decide_eq_false qa
        have HF := Lib.hid (show rightB p = false from by rw [Bool.eq_false_iff]; intro hc; simp only [rightB, Bool.and_eq_true, routingB, nodesB, linksB, withinB, Bool.or_eq_true, decide_eq_true_eq, beq_iff_eq] at hc; omega)
        clear q1 q2 qa
        go_wp2
        go_ret
        exact ⟨ret_bool HF.out.symm, HB.out⟩
    · have q2' : (p.proto == 2) = false := by simp [q2]
      have HF := Lib.hid (show rightB p = false from by rw [Bool.eq_false_iff]; intro hc; simp only [rightB, Bool.and_eq_true, routingB, nodesB, linksB, withinB, Bool.or_eq_true, decide_eq_true_eq, beq_iff_eq] at hc; omega)
      clear q1 q2
      go_wp2
      go_ret
      exact ⟨ret_bool HF.out.symm, HB.out⟩
end Go.Proofs.YtakolnmoieiicaaGreat
