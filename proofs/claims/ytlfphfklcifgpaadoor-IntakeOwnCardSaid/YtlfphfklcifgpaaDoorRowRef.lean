/-
  Whether rows may be a party's, by walking the document's text: the same; conditions: the rows lie in memory.
-/
import Derived.Test.YtlfphfklcifgpaaDoorRowChk
namespace Go.Proofs.YtlfphfklcifgpaaDoor
open Go.RowKit Go.Own

theorem bcell_any {B : Nat} {w w' : World} (h : Below B w w') : ∀ c : Addr, c.block < B → w'.cell? c = w.cell? c := fun c hc => h.cell (p := c) hc
theorem refLess_fun (q r : RowS) : ∀ w, Calls Tryd.prog 94 #[.agg #[.int .i64 q.o, .int .i64 q.d], .agg #[.int .i64 r.o, .int .i64 r.d]] w fun e w' => e = .returned (.bool (keyLess q.o q.d r.o r.d)) ∧ Below w.heap.size w w' :=
  fun w => refLess_any q.o q.d r.o r.d w
theorem rowOkAt_may {rs : List RowS} {p : Int} {j : Nat} (h : j < rs.length) (hf : mayRow rs[j] p = false) : rowOkAt rs p j = false := by
  simp [rowOkAt, List.getElem?_eq_getElem h, hf]
theorem rowOkAt_less {rs : List RowS} {p : Int} {j : Nat} (h : j + 1 < rs.length) (hf : keyLess rs[j].o rs[j].d rs[j + 1].o rs[j + 1].d = false) : rowOkAt rs p (j + 1) = false := by
  have h2 : j < rs.length := by omega
  simp [rowOkAt, List.getElem?_eq_getElem h, List.getElem?_eq_getElem h2, hf]
theorem rowOkAt_ok {rs : List RowS} {p : Int} {j : Nat} (h : j < rs.length) (hf : mayRow rs[j] p = true) (hl : ∀ i, j = i + 1 → ∀ (hi : i < rs.length), keyLess rs[i].o rs[i].d rs[j].o rs[j].d = true) : rowOkAt rs p j = true := by
  rcases j with _ | i
  · simp [rowOkAt, List.getElem?_eq_getElem h, hf]
  · have h2 : i < rs.length := by omega
    simp [rowOkAt, List.getElem?_eq_getElem h, List.getElem?_eq_getElem h2, hf, hl i rfl h2]

set_option maxHeartbeats 8000000 in
set_option maxRecDepth 100000 in
theorem rowsRef_some (rs : List RowS) (a : Addr) (cap : Nat) (p : Int) (w : World) (_hlen : rs.length ≤ cap) (_hcap : cap ≤ maxLen) (hR : RowsAt w a rs) :
    Calls Tryd.prog 77 #[.slice (some a) rs.length cap, .int .i64 p] w fun e w' => e = .returned (.bool (chkRows rs p)) ∧ Below w.heap.size w w' := by
  have HR := Lib.hid hR
  have hpos : 0 < w.heap.size := by have := hR.lt; omega
  have hlt := hR.lt
  clear hR
  by_cases hp : 0 ≤ p ∧ p ≤ 2 ∧ rs.length ≤ 400
  · obtain ⟨hp0, hp2, hl⟩ := hp
    have hl1 : (rs.length : Int) ≤ 400 := by omega
    go_enter Tryd.func77, Tryd.ntmps77
    go_wp2_with fail
    go_loopw [5, 6] (fun k _ wr => ∃ j : Nat, j ≤ rs.length ∧ k = .int .i64 (j : Int) ∧ Below w.heap.size w wr ∧ ∀ i, i < j → rowOkAt rs p i = true) (fun k _ _ => (rs.length - (intOf k).toNat))
    case atStart => exact ⟨0, by omega, rfl, Below.refl _ _, by omega⟩
    case round =>
      obtain ⟨j, hj, rfl, hbr, hok⟩ := hrel
      by_cases hjl : j = rs.length
      · subst hjl
        go_wp2_with fail
        go_ret
        refine ⟨ret_bool ?_, hbr⟩
        simp [chkRows, hp0, hp2, hl]
        exact fun i hi => hok i hi
      · have hj1 : j < rs.length := by omega
        have hj2 : (j : Int) < (rs.length : Int) := by omega
        have hRr := HR.out.below hbr hlt
        have c0 := hRr.c0 j hj1
        have c1 := hRr.c1 j hj1
        have c2 := hRr.c2 j hj1
        have c3 := hRr.c3 j hj1
        have c4 := hRr.c4 j hj1
        have hb0 : (a.add (j * 5)).block < wr.heap.size := hRr.lt' _
        have hzr := hbr.size
        have HM := Lib.hid (show mayRow rs[j] p = mayRow ⟨rs[j].o, rs[j].d, rs[j].code, rs[j].amt, rs[j].qty⟩ p from rfl)
        have HNO := Lib.hid (fun (h : mayRow rs[j] p = false) => chkRows_no (p := p) hj1 (rowOkAt_may hj1 h))
        have HOK := Lib.hid (fun (h : mayRow rs[j] p = true) h2 => rowOkAt_ok (p := p) hj1 h h2)
        have HL := Lib.hid (fun i (e : j = i + 1) (h : keyLess (rs[i]'(by omega)).o (rs[i]'(by omega)).d rs[j].o rs[j].d = false) => chkRows_no (p := p) hj1 (by subst e; exact rowOkAt_less hj1 h))
        have HI := Lib.hid (fun i (e : j = i + 1) => (⟨hRr.c0 i (by omega), hRr.c1 i (by omega)⟩ : _ ∧ _))
        have hK := fun w => refKeyCheck_any rs[j].o rs[j].d w
        have hP := fun w => refParty_any rs[j].d w
        have HZ := Lib.hid (fun i (hi : i < rs.length) => refLess_fun rs[i] rs[j])
        have HB := Lib.hid hRr.lt'
        clear hRr
        generalize rs[j] = r at *
        obtain ⟨o, d, code, amt, qty⟩ := r
        simp only at c0 c1 c2 c3 c4 hK hP
        cases hk : keyOk o d
        · rw [hk] at hK
          have HQ := Lib.hid (HNO.out (by rw [HM.out]; simp [mayRow, hk]))
          go_wp2_with (first | (go_at_call 47; go_must ((with_reducible refine (hK _).mono ?_); rintro e w1 ⟨rfl, hb⟩; obtain ⟨hc, hf⟩ := bcell hb; have hz := hb.size; (try simp at hz); (try have hzT := Nat.lt_of_succ_le hz); have hcA := bcell_any hb; (try (have hbA : (a.add (i * 5)).block < w1.heap.size := by omega)))) | (go_at_call 48; go_must ((with_reducible refine (hP _).mono ?_); rintro e w1 ⟨rfl, hb⟩; obtain ⟨hc, hf⟩ := bcell hb; have hz := hb.size; (try simp at hz); (try have hzT := Nat.lt_of_succ_le hz); have hcA := bcell_any hb; (try (have hbA : (a.add (i * 5)).block < w1.heap.size := by omega)))))
          go_ret
          exact ⟨by rw [HQ.out]; rfl, (by with_reducible (repeat (first | assumption | exact Below.refl _ _ | refine Below.drew ?_ | refine below_drewN ?_ _ | refine Below.alloc ?_ (by first | (simp; done) | omega | (simp; omega)) _ | refine Below.setCell ?_ (by first | (simp; done) | omega | (simp; omega)) _ | refine Below.trans ?_ (Below.mono (by assumption) (by first | (simp; done) | omega | (simp; omega))))))⟩
        · rw [hk] at hK
          by_cases hq : partyOf d = p
          rotate_left
          · have HQ := Lib.hid (HNO.out (by rw [HM.out]; simp [mayRow, hq]))
            generalize partyOf d = q at *
            have hqb : (q == p) = false := by simpa using hq
            have hqn : (q != p) = true := by simpa using hq
            clear hq
            go_wp2_with (first | (go_at_call 47; go_must ((with_reducible refine (hK _).mono ?_); rintro e w1 ⟨rfl, hb⟩; obtain ⟨hc, hf⟩ := bcell hb; have hz := hb.size; (try simp at hz); (try have hzT := Nat.lt_of_succ_le hz); have hcA := bcell_any hb; (try (have hbA : (a.add (i * 5)).block < w1.heap.size := by omega)))) | (go_at_call 48; go_must ((with_reducible refine (hP _).mono ?_); rintro e w1 ⟨rfl, hb⟩; obtain ⟨hc, hf⟩ := bcell hb; have hz := hb.size; (try simp at hz); (try have hzT := Nat.lt_of_succ_le hz); have hcA := bcell_any hb; (try (have hbA : (a.add (i * 5)).block < w1.heap.size := by omega)))))
            go_ret
            exact ⟨by rw [HQ.out]; rfl, (by with_reducible (repeat (first | assumption | exact Below.refl _ _ | refine Below.drew ?_ | refine below_drewN ?_ _ | refine Below.alloc ?_ (by first | (simp; done) | omega | (simp; omega)) _ | refine Below.setCell ?_ (by first | (simp; done) | omega | (simp; omega)) _ | refine Below.trans ?_ (Below.mono (by assumption) (by first | (simp; done) | omega | (simp; omega))))))⟩
          rw [hq] at hP
          by_cases hc : code = 1 ∨ code = 2
          rotate_left
          · have HQ := Lib.hid (HNO.out (by rw [HM.out]; simp [mayRow]; omega))
            by_cases hc1 : code < 1
            · go_wp2_with (first | (go_at_call 47; go_must ((with_reducible refine (hK _).mono ?_); rintro e w1 ⟨rfl, hb⟩; obtain ⟨hc, hf⟩ := bcell hb; have hz := hb.size; (try simp at hz); (try have hzT := Nat.lt_of_succ_le hz); have hcA := bcell_any hb; (try (have hbA : (a.add (i * 5)).block < w1.heap.size := by omega)))) | (go_at_call 48; go_must ((with_reducible refine (hP _).mono ?_); rintro e w1 ⟨rfl, hb⟩; obtain ⟨hc, hf⟩ := bcell hb; have hz := hb.size; (try simp at hz); (try have hzT := Nat.lt_of_succ_le hz); have hcA := bcell_any hb; (try (have hbA : (a.add (i * 5)).block < w1.heap.size := by omega)))))
              go_ret
              exact ⟨by rw [HQ.out]; rfl, (by with_reducible (repeat (first | assumption | exact Below.refl _ _ | refine Below.drew ?_ | refine below_drewN ?_ _ | refine Below.alloc ?_ (by first | (simp; done) | omega | (simp; omega)) _ | refine Below.setCell ?_ (by first | (simp; done) | omega | (simp; omega)) _ | refine Below.trans ?_ (Below.mono (by assumption) (by first | (simp; done) | omega | (simp; omega))))))⟩
              
            · have hc2 : 2 < code := by omega
              go_wp2_with (first | (go_at_call 47; go_must ((with_reducible refine (hK _).mono ?_); rintro e w1 ⟨rfl, hb⟩; obtain ⟨hc, hf⟩ := bcell hb; have hz := hb.size; (try simp at hz); (try have hzT := Nat.lt_of_succ_le hz); have hcA := bcell_any hb; (try (have hbA : (a.add (i * 5)).block < w1.heap.size := by omega)))) | (go_at_call 48; go_must ((with_reducible refine (hP _).mono ?_); rintro e w1 ⟨rfl, hb⟩; obtain ⟨hc, hf⟩ := bcell hb; have hz := hb.size; (try simp at hz); (try have hzT := Nat.lt_of_succ_le hz); have hcA := bcell_any hb; (try (have hbA : (a.add (i * 5)).block < w1.heap.size := by omega)))))
              go_ret
              exact ⟨by rw [HQ.out]; rfl, (by with_reducible (repeat (first | assumption | exact Below.refl _ _ | refine Below.drew ?_ | refine below_drewN ?_ _ | refine Below.alloc ?_ (by first | (simp; done) | omega | (simp; omega)) _ | refine Below.setCell ?_ (by first | (simp; done) | omega | (simp; omega)) _ | refine Below.trans ?_ (Below.mono (by assumption) (by first | (simp; done) | omega | (simp; omega))))))⟩
              
          have hc1 : ¬ code < 1 := by omega
          have hc2 : ¬ 2 < code := by omega
          by_cases hlf : ∃ i, ∃ e : j = i + 1, keyLess (rs[i]'(by omega)).o (rs[i]'(by omega)).d o d = false
          · obtain ⟨i, e, hf⟩ := hlf
            have HQ := Lib.hid (HL.out i e hf)
            obtain ⟨d0, d1⟩ := HI.out i e
            have hb1 := HB.out (i * 5)
            have hb2 : (a.add (i * 5)).block < wr.heap.size + 1 := by omega
            have hb3 : (a.add (i * 5)).block ≤ wr.heap.size := by omega
            have hb4 : (a.add (i * 5)).block ≠ wr.heap.size := by omega
            have hK2 := HZ.out i (by omega)
            subst e
            simp only at hK2
            rw [hf] at hK2
            have hj3 : (((i + 1 : Nat)) : Int) - 1 = (i : Int) := by omega
            have hi3 : (i : Int) < (rs.length : Int) := by omega
            have hi4 : (0 : Int) < ((i + 1 : Nat) : Int) := by omega
            go_wp2_with (first | (go_at_call 47; go_must ((with_reducible refine (hK _).mono ?_); rintro e w1 ⟨rfl, hb⟩; obtain ⟨hc, hf⟩ := bcell hb; have hz := hb.size; (try simp at hz); (try have hzT := Nat.lt_of_succ_le hz); have hcA := bcell_any hb; (try (have hbA : (a.add (i * 5)).block < w1.heap.size := by omega)))) | (go_at_call 48; go_must ((with_reducible refine (hP _).mono ?_); rintro e w1 ⟨rfl, hb⟩; obtain ⟨hc, hf⟩ := bcell hb; have hz := hb.size; (try simp at hz); (try have hzT := Nat.lt_of_succ_le hz); have hcA := bcell_any hb; (try (have hbA : (a.add (i * 5)).block < w1.heap.size := by omega)))))
            have hz0 := hb.size
            have hzp : wr.heap.size < w1.heap.size := (by first | omega | (simp at hz0; omega))
            refine region_later (by kernel_rfl) (by kernel_rfl) ?_
            repeat (first | go_big_quiet_step ((go_at_call 94; (with_reducible exact calls_later (by first | exact Nat.le_refl _ | (simp; done)) (hK2 _)))) | quiet_step ((go_at_call 94; (with_reducible exact calls_later (by first | exact Nat.le_refl _ | (simp; done)) (hK2 _)))))
            refine wpQuiet_nil ?_
            intro w1 hb
            obtain ⟨hc, hf⟩ := bcell hb
            have hcA := bcell_any hb
            have hz2 := hb.size
            have hzq : wr.heap.size < w1.heap.size := (by first | omega | (simp at hz2; omega))
            go_wp2_with fail
            go_ret
            exact ⟨by rw [HQ.out]; rfl, (by with_reducible (repeat (first | assumption | exact Below.refl _ _ | refine Below.drew ?_ | refine below_drewN ?_ _ | refine Below.alloc ?_ (by first | (simp; done) | omega | (simp; omega)) _ | refine Below.setCell ?_ (by first | (simp; done) | omega | (simp; omega)) _ | refine Below.trans ?_ (Below.mono (by assumption) (by first | (simp; done) | omega | (simp; omega))))))⟩
          by_cases h2 : code = 2
          · have HX := Lib.hid (HM.out.trans (show _ = (decide (amt = 0) && decide (qty = 0)) by simp [mayRow, hk, hq, h2]))
            have h2b : (code == 2) = true := by simpa using h2
            by_cases hj0 : j = 0
            · have hji : ¬ 0 < j := by omega
              have HLT := Lib.hid (show ∀ i, j = i + 1 → ∀ (hi : i < rs.length), keyLess rs[i].o rs[i].d o d = true from fun i e => by omega)
              clear hj0
              have HK2 := Lib.hid (show mayRow ⟨o, d, code, amt, qty⟩ p = true → ∀ k, k < j + 1 → rowOkAt rs p k = true from fun h k hk2 => by
                rcases Nat.lt_or_ge k j with h3 | h3
                · exact hok k h3
                · obtain rfl : k = j := by omega
                  exact HOK.out h HLT.out)
              go_wp2_with (first | (go_at_call 47; go_must ((with_reducible refine (hK _).mono ?_); rintro e w1 ⟨rfl, hb⟩; obtain ⟨hc, hf⟩ := bcell hb; have hz := hb.size; (try simp at hz); (try have hzT := Nat.lt_of_succ_le hz); have hcA := bcell_any hb; (try (have hbA : (a.add (i * 5)).block < w1.heap.size := by omega)))) | (go_at_call 48; go_must ((with_reducible refine (hP _).mono ?_); rintro e w1 ⟨rfl, hb⟩; obtain ⟨hc, hf⟩ := bcell hb; have hz := hb.size; (try simp at hz); (try have hzT := Nat.lt_of_succ_le hz); have hcA := bcell_any hb; (try (have hbA : (a.add (i * 5)).block < w1.heap.size := by omega)))))
              have hz0 := hb.size
              have hzp : wr.heap.size < w1.heap.size := (by first | omega | (simp at hz0; omega))
              refine region_later (by kernel_rfl) (by kernel_rfl) ?_
              repeat (first | go_big_quiet_step (fail) | quiet_step (fail))
              refine wpQuiet_nil ?_
              intro w1 hb
              obtain ⟨hc, hf⟩ := bcell hb
              have hz2 := hb.size
              have hzq : wr.heap.size < w1.heap.size := (by first | omega | (simp at hz2; omega))
              go_wp2_with fail
              all_goals first
                | (go_ret; refine ⟨ret_bool (Eq.symm (HNO.out ?_)), (by with_reducible (repeat (first | assumption | exact Below.refl _ _ | refine Below.drew ?_ | refine below_drewN ?_ _ | refine Below.alloc ?_ (by first | (simp; done) | omega | (simp; omega)) _ | refine Below.setCell ?_ (by first | (simp; done) | omega | (simp; omega)) _ | refine Below.trans ?_ (Below.mono (by assumption) (by first | (simp; done) | omega | (simp; omega))))))⟩; rw [HX.out]; simp <;> omega)
                | (refine ⟨⟨j + 1, by omega, by go_num, (by with_reducible (repeat (first | assumption | exact Below.refl _ _ | refine Below.drew ?_ | refine below_drewN ?_ _ | refine Below.alloc ?_ (by first | (simp; done) | omega | (simp; omega)) _ | refine Below.setCell ?_ (by first | (simp; done) | omega | (simp; omega)) _ | refine Below.trans ?_ (Below.mono (by assumption) (by first | (simp; done) | omega | (simp; omega)))))), HK2.out ?_⟩, ?_⟩
                   · (rw [HX.out]; simp <;> omega)
                   · (simp [intOf] <;> omega))
            · obtain ⟨i, e⟩ : ∃ i, j = i + 1 := ⟨j - 1, by omega⟩
              have HLT := Lib.hid (show ∀ i, j = i + 1 → ∀ (hi : i < rs.length), keyLess rs[i].o rs[i].d o d = true from fun i e hi => by
                have := fun h => hlf ⟨i, e, h⟩
                simpa using this)
              have hf := HLT.out i e (by omega)
              obtain ⟨d0, d1⟩ := HI.out i e
              have hb1 := HB.out (i * 5)
              have hb2 : (a.add (i * 5)).block < wr.heap.size + 1 := by omega
              have hb3 : (a.add (i * 5)).block ≤ wr.heap.size := by omega
              have hb4 : (a.add (i * 5)).block ≠ wr.heap.size := by omega
              have hK2 := HZ.out i (by omega)
              subst e
              simp only at hK2
              rw [hf] at hK2
              have hj3 : (((i + 1 : Nat)) : Int) - 1 = (i : Int) := by omega
              have hi3 : (i : Int) < (rs.length : Int) := by omega
              have hi4 : (0 : Int) < ((i + 1 : Nat) : Int) := by omega
              have HK2 := Lib.hid (show mayRow ⟨o, d, code, amt, qty⟩ p = true → ∀ k, k < i + 2 → rowOkAt rs p k = true from fun h k hk2 => by
                rcases Nat.lt_or_ge k (i + 1) with h3 | h3
                · exact hok k h3
                · obtain rfl : k = i + 1 := by omega
                  exact HOK.out h HLT.out)
              go_wp2_with (first | (go_at_call 47; go_must ((with_reducible refine (hK _).mono ?_); rintro e w1 ⟨rfl, hb⟩; obtain ⟨hc, hf⟩ := bcell hb; have hz := hb.size; (try simp at hz); (try have hzT := Nat.lt_of_succ_le hz); have hcA := bcell_any hb; (try (have hbA : (a.add (i * 5)).block < w1.heap.size := by omega)))) | (go_at_call 48; go_must ((with_reducible refine (hP _).mono ?_); rintro e w1 ⟨rfl, hb⟩; obtain ⟨hc, hf⟩ := bcell hb; have hz := hb.size; (try simp at hz); (try have hzT := Nat.lt_of_succ_le hz); have hcA := bcell_any hb; (try (have hbA : (a.add (i * 5)).block < w1.heap.size := by omega)))))
              have hz0 := hb.size
              have hzp : wr.heap.size < w1.heap.size := (by first | omega | (simp at hz0; omega))
              refine region_later (by kernel_rfl) (by kernel_rfl) ?_
              repeat (first | go_big_quiet_step ((go_at_call 94; (with_reducible exact calls_later (by first | exact Nat.le_refl _ | (simp; done)) (hK2 _)))) | quiet_step ((go_at_call 94; (with_reducible exact calls_later (by first | exact Nat.le_refl _ | (simp; done)) (hK2 _)))))
              refine wpQuiet_nil ?_
              intro w1 hb
              obtain ⟨hc, hf⟩ := bcell hb
              have hcA := bcell_any hb
              have hz2 := hb.size
              have hzq : wr.heap.size < w1.heap.size := (by first | omega | (simp at hz2; omega))
              go_wp2_with fail
              all_goals first
                | (go_ret; refine ⟨ret_bool (Eq.symm (HNO.out ?_)), (by with_reducible (repeat (first | assumption | exact Below.refl _ _ | refine Below.drew ?_ | refine below_drewN ?_ _ | refine Below.alloc ?_ (by first | (simp; done) | omega | (simp; omega)) _ | refine Below.setCell ?_ (by first | (simp; done) | omega | (simp; omega)) _ | refine Below.trans ?_ (Below.mono (by assumption) (by first | (simp; done) | omega | (simp; omega))))))⟩; rw [HX.out]; simp <;> omega)
                | (refine ⟨⟨i + 2, by omega, by go_num, (by with_reducible (repeat (first | assumption | exact Below.refl _ _ | refine Below.drew ?_ | refine below_drewN ?_ _ | refine Below.alloc ?_ (by first | (simp; done) | omega | (simp; omega)) _ | refine Below.setCell ?_ (by first | (simp; done) | omega | (simp; omega)) _ | refine Below.trans ?_ (Below.mono (by assumption) (by first | (simp; done) | omega | (simp; omega)))))), HK2.out ?_⟩, ?_⟩
                   · (rw [HX.out]; simp <;> omega)
                   · (simp [intOf] <;> omega))
          · have h1 : code = 1 := by omega
            have h2b : (code == 2) = false := by simpa using h2
            by_cases hp00 : p = 0
            · have HX := Lib.hid (HM.out.trans (show _ = (decide (qty = 0) && decide (0 ≤ amt) && decide (amt ≤ 1099511627776)) by simp [mayRow, hk, hq, h1, hp00]))
              have hpb : (p == 0) = true := by simpa using hp00
              have hpn : (p != 0) = false := by simpa using hp00
              clear hp00
              by_cases hj0 : j = 0
              · have hji : ¬ 0 < j := by omega
                have HLT := Lib.hid (show ∀ i, j = i + 1 → ∀ (hi : i < rs.length), keyLess rs[i].o rs[i].d o d = true from fun i e => by omega)
                clear hj0
                have HK2 := Lib.hid (show mayRow ⟨o, d, code, amt, qty⟩ p = true → ∀ k, k < j + 1 → rowOkAt rs p k = true from fun h k hk2 => by
                  rcases Nat.lt_or_ge k j with h3 | h3
                  · exact hok k h3
                  · obtain rfl : k = j := by omega
                    exact HOK.out h HLT.out)
                go_wp2_with (first | (go_at_call 47; go_must ((with_reducible refine (hK _).mono ?_); rintro e w1 ⟨rfl, hb⟩; obtain ⟨hc, hf⟩ := bcell hb; have hz := hb.size; (try simp at hz); (try have hzT := Nat.lt_of_succ_le hz); have hcA := bcell_any hb; (try (have hbA : (a.add (i * 5)).block < w1.heap.size := by omega)))) | (go_at_call 48; go_must ((with_reducible refine (hP _).mono ?_); rintro e w1 ⟨rfl, hb⟩; obtain ⟨hc, hf⟩ := bcell hb; have hz := hb.size; (try simp at hz); (try have hzT := Nat.lt_of_succ_le hz); have hcA := bcell_any hb; (try (have hbA : (a.add (i * 5)).block < w1.heap.size := by omega)))))
                have hz0 := hb.size
                have hzp : wr.heap.size < w1.heap.size := (by first | omega | (simp at hz0; omega))
                refine region_later (by kernel_rfl) (by kernel_rfl) ?_
                repeat (first | go_big_quiet_step (fail) | quiet_step (fail))
                refine wpQuiet_nil ?_
                intro w1 hb
                obtain ⟨hc, hf⟩ := bcell hb
                have hz2 := hb.size
                have hzq : wr.heap.size < w1.heap.size := (by first | omega | (simp at hz2; omega))
                go_wp2_with fail
                all_goals first
                  | (go_ret; refine ⟨ret_bool (Eq.symm (HNO.out ?_)), (by with_reducible (repeat (first | assumption | exact Below.refl _ _ | refine Below.drew ?_ | refine below_drewN ?_ _ | refine Below.alloc ?_ (by first | (simp; done) | omega | (simp; omega)) _ | refine Below.setCell ?_ (by first | (simp; done) | omega | (simp; omega)) _ | refine Below.trans ?_ (Below.mono (by assumption) (by first | (simp; done) | omega | (simp; omega))))))⟩; rw [HX.out]; simp <;> omega)
                  | (refine ⟨⟨j + 1, by omega, by go_num, (by with_reducible (repeat (first | assumption | exact Below.refl _ _ | refine Below.drew ?_ | refine below_drewN ?_ _ | refine Below.alloc ?_ (by first | (simp; done) | omega | (simp; omega)) _ | refine Below.setCell ?_ (by first | (simp; done) | omega | (simp; omega)) _ | refine Below.trans ?_ (Below.mono (by assumption) (by first | (simp; done) | omega | (simp; omega)))))), HK2.out ?_⟩, ?_⟩
                     · (rw [HX.out]; simp <;> omega)
                     · (simp [intOf] <;> omega))
              · obtain ⟨i, e⟩ : ∃ i, j = i + 1 := ⟨j - 1, by omega⟩
                have HLT := Lib.hid (show ∀ i, j = i + 1 → ∀ (hi : i < rs.length), keyLess rs[i].o rs[i].d o d = true from fun i e hi => by
                  have := fun h => hlf ⟨i, e, h⟩
                  simpa using this)
                have hf := HLT.out i e (by omega)
                obtain ⟨d0, d1⟩ := HI.out i e
                have hb1 := HB.out (i * 5)
                have hb2 : (a.add (i * 5)).block < wr.heap.size + 1 := by omega
                have hb3 : (a.add (i * 5)).block ≤ wr.heap.size := by omega
                have hb4 : (a.add (i * 5)).block ≠ wr.heap.size := by omega
                have hK2 := HZ.out i (by omega)
                subst e
                simp only at hK2
                rw [hf] at hK2
                have hj3 : (((i + 1 : Nat)) : Int) - 1 = (i : Int) := by omega
                have hi3 : (i : Int) < (rs.length : Int) := by omega
                have hi4 : (0 : Int) < ((i + 1 : Nat) : Int) := by omega
                have HK2 := Lib.hid (show mayRow ⟨o, d, code, amt, qty⟩ p = true → ∀ k, k < i + 2 → rowOkAt rs p k = true from fun h k hk2 => by
                  rcases Nat.lt_or_ge k (i + 1) with h3 | h3
                  · exact hok k h3
                  · obtain rfl : k = i + 1 := by omega
                    exact HOK.out h HLT.out)
                go_wp2_with (first | (go_at_call 47; go_must ((with_reducible refine (hK _).mono ?_); rintro e w1 ⟨rfl, hb⟩; obtain ⟨hc, hf⟩ := bcell hb; have hz := hb.size; (try simp at hz); (try have hzT := Nat.lt_of_succ_le hz); have hcA := bcell_any hb; (try (have hbA : (a.add (i * 5)).block < w1.heap.size := by omega)))) | (go_at_call 48; go_must ((with_reducible refine (hP _).mono ?_); rintro e w1 ⟨rfl, hb⟩; obtain ⟨hc, hf⟩ := bcell hb; have hz := hb.size; (try simp at hz); (try have hzT := Nat.lt_of_succ_le hz); have hcA := bcell_any hb; (try (have hbA : (a.add (i * 5)).block < w1.heap.size := by omega)))))
                have hz0 := hb.size
                have hzp : wr.heap.size < w1.heap.size := (by first | omega | (simp at hz0; omega))
                refine region_later (by kernel_rfl) (by kernel_rfl) ?_
                repeat (first | go_big_quiet_step ((go_at_call 94; (with_reducible exact calls_later (by first | exact Nat.le_refl _ | (simp; done)) (hK2 _)))) | quiet_step ((go_at_call 94; (with_reducible exact calls_later (by first | exact Nat.le_refl _ | (simp; done)) (hK2 _)))))
                refine wpQuiet_nil ?_
                intro w1 hb
                obtain ⟨hc, hf⟩ := bcell hb
                have hcA := bcell_any hb
                have hz2 := hb.size
                have hzq : wr.heap.size < w1.heap.size := (by first | omega | (simp at hz2; omega))
                go_wp2_with fail
                all_goals first
                  | (go_ret; refine ⟨ret_bool (Eq.symm (HNO.out ?_)), (by with_reducible (repeat (first | assumption | exact Below.refl _ _ | refine Below.drew ?_ | refine below_drewN ?_ _ | refine Below.alloc ?_ (by first | (simp; done) | omega | (simp; omega)) _ | refine Below.setCell ?_ (by first | (simp; done) | omega | (simp; omega)) _ | refine Below.trans ?_ (Below.mono (by assumption) (by first | (simp; done) | omega | (simp; omega))))))⟩; rw [HX.out]; simp <;> omega)
                  | (refine ⟨⟨i + 2, by omega, by go_num, (by with_reducible (repeat (first | assumption | exact Below.refl _ _ | refine Below.drew ?_ | refine below_drewN ?_ _ | refine Below.alloc ?_ (by first | (simp; done) | omega | (simp; omega)) _ | refine Below.setCell ?_ (by first | (simp; done) | omega | (simp; omega)) _ | refine Below.trans ?_ (Below.mono (by assumption) (by first | (simp; done) | omega | (simp; omega)))))), HK2.out ?_⟩, ?_⟩
                     · (rw [HX.out]; simp <;> omega)
                     · (simp [intOf] <;> omega))
            · have HX := Lib.hid (HM.out.trans (show _ = (decide (amt = 0) && decide (0 ≤ qty) && decide (qty ≤ 999)) by simp [mayRow, hk, hq, h1, hp00]))
              have hpb : (p == 0) = false := by simpa using hp00
              have hpn : (p != 0) = true := by simpa using hp00
              by_cases hj0 : j = 0
              · have hji : ¬ 0 < j := by omega
                have HLT := Lib.hid (show ∀ i, j = i + 1 → ∀ (hi : i < rs.length), keyLess rs[i].o rs[i].d o d = true from fun i e => by omega)
                clear hj0
                have HK2 := Lib.hid (show mayRow ⟨o, d, code, amt, qty⟩ p = true → ∀ k, k < j + 1 → rowOkAt rs p k = true from fun h k hk2 => by
                  rcases Nat.lt_or_ge k j with h3 | h3
                  · exact hok k h3
                  · obtain rfl : k = j := by omega
                    exact HOK.out h HLT.out)
                go_wp2_with (first | (go_at_call 47; go_must ((with_reducible refine (hK _).mono ?_); rintro e w1 ⟨rfl, hb⟩; obtain ⟨hc, hf⟩ := bcell hb; have hz := hb.size; (try simp at hz); (try have hzT := Nat.lt_of_succ_le hz); have hcA := bcell_any hb; (try (have hbA : (a.add (i * 5)).block < w1.heap.size := by omega)))) | (go_at_call 48; go_must ((with_reducible refine (hP _).mono ?_); rintro e w1 ⟨rfl, hb⟩; obtain ⟨hc, hf⟩ := bcell hb; have hz := hb.size; (try simp at hz); (try have hzT := Nat.lt_of_succ_le hz); have hcA := bcell_any hb; (try (have hbA : (a.add (i * 5)).block < w1.heap.size := by omega)))))
                have hz0 := hb.size
                have hzp : wr.heap.size < w1.heap.size := (by first | omega | (simp at hz0; omega))
                refine region_later (by kernel_rfl) (by kernel_rfl) ?_
                repeat (first | go_big_quiet_step (fail) | quiet_step (fail))
                refine wpQuiet_nil ?_
                intro w1 hb
                obtain ⟨hc, hf⟩ := bcell hb
                have hz2 := hb.size
                have hzq : wr.heap.size < w1.heap.size := (by first | omega | (simp at hz2; omega))
                go_wp2_with fail
                all_goals first
                  | (go_ret; refine ⟨ret_bool (Eq.symm (HNO.out ?_)), (by with_reducible (repeat (first | assumption | exact Below.refl _ _ | refine Below.drew ?_ | refine below_drewN ?_ _ | refine Below.alloc ?_ (by first | (simp; done) | omega | (simp; omega)) _ | refine Below.setCell ?_ (by first | (simp; done) | omega | (simp; omega)) _ | refine Below.trans ?_ (Below.mono (by assumption) (by first | (simp; done) | omega | (simp; omega))))))⟩; rw [HX.out]; simp <;> omega)
                  | (refine ⟨⟨j + 1, by omega, by go_num, (by with_reducible (repeat (first | assumption | exact Below.refl _ _ | refine Below.drew ?_ | refine below_drewN ?_ _ | refine Below.alloc ?_ (by first | (simp; done) | omega | (simp; omega)) _ | refine Below.setCell ?_ (by first | (simp; done) | omega | (simp; omega)) _ | refine Below.trans ?_ (Below.mono (by assumption) (by first | (simp; done) | omega | (simp; omega)))))), HK2.out ?_⟩, ?_⟩
                     · (rw [HX.out]; simp <;> omega)
                     · (simp [intOf] <;> omega))
              · obtain ⟨i, e⟩ : ∃ i, j = i + 1 := ⟨j - 1, by omega⟩
                have HLT := Lib.hid (show ∀ i, j = i + 1 → ∀ (hi : i < rs.length), keyLess rs[i].o rs[i].d o d = true from fun i e hi => by
                  have := fun h => hlf ⟨i, e, h⟩
                  simpa using this)
                have hf := HLT.out i e (by omega)
                obtain ⟨d0, d1⟩ := HI.out i e
                have hb1 := HB.out (i * 5)
                have hb2 : (a.add (i * 5)).block < wr.heap.size + 1 := by omega
                have hb3 : (a.add (i * 5)).block ≤ wr.heap.size := by omega
                have hb4 : (a.add (i * 5)).block ≠ wr.heap.size := by omega
                have hK2 := HZ.out i (by omega)
                subst e
                simp only at hK2
                rw [hf] at hK2
                have hj3 : (((i + 1 : Nat)) : Int) - 1 = (i : Int) := by omega
                have hi3 : (i : Int) < (rs.length : Int) := by omega
                have hi4 : (0 : Int) < ((i + 1 : Nat) : Int) := by omega
                have HK2 := Lib.hid (show mayRow ⟨o, d, code, amt, qty⟩ p = true → ∀ k, k < i + 2 → rowOkAt rs p k = true from fun h k hk2 => by
                  rcases Nat.lt_or_ge k (i + 1) with h3 | h3
                  · exact hok k h3
                  · obtain rfl : k = i + 1 := by omega
                    exact HOK.out h HLT.out)
                go_wp2_with (first | (go_at_call 47; go_must ((with_reducible refine (hK _).mono ?_); rintro e w1 ⟨rfl, hb⟩; obtain ⟨hc, hf⟩ := bcell hb; have hz := hb.size; (try simp at hz); (try have hzT := Nat.lt_of_succ_le hz); have hcA := bcell_any hb; (try (have hbA : (a.add (i * 5)).block < w1.heap.size := by omega)))) | (go_at_call 48; go_must ((with_reducible refine (hP _).mono ?_); rintro e w1 ⟨rfl, hb⟩; obtain ⟨hc, hf⟩ := bcell hb; have hz := hb.size; (try simp at hz); (try have hzT := Nat.lt_of_succ_le hz); have hcA := bcell_any hb; (try (have hbA : (a.add (i * 5)).block < w1.heap.size := by omega)))))
                have hz0 := hb.size
                have hzp : wr.heap.size < w1.heap.size := (by first | omega | (simp at hz0; omega))
                refine region_later (by kernel_rfl) (by kernel_rfl) ?_
                repeat (first | go_big_quiet_step ((go_at_call 94; (with_reducible exact calls_later (by first | exact Nat.le_refl _ | (simp; done)) (hK2 _)))) | quiet_step ((go_at_call 94; (with_reducible exact calls_later (by first | exact Nat.le_refl _ | (simp; done)) (hK2 _)))))
                refine wpQuiet_nil ?_
                intro w1 hb
                obtain ⟨hc, hf⟩ := bcell hb
                have hcA := bcell_any hb
                have hz2 := hb.size
                have hzq : wr.heap.size < w1.heap.size := (by first | omega | (simp at hz2; omega))
                go_wp2_with fail
                all_goals first
                  | (go_ret; refine ⟨ret_bool (Eq.symm (HNO.out ?_)), (by with_reducible (repeat (first | assumption | exact Below.refl _ _ | refine Below.drew ?_ | refine below_drewN ?_ _ | refine Below.alloc ?_ (by first | (simp; done) | omega | (simp; omega)) _ | refine Below.setCell ?_ (by first | (simp; done) | omega | (simp; omega)) _ | refine Below.trans ?_ (Below.mono (by assumption) (by first | (simp; done) | omega | (simp; omega))))))⟩; rw [HX.out]; simp <;> omega)
                  | (refine ⟨⟨i + 2, by omega, by go_num, (by with_reducible (repeat (first | assumption | exact Below.refl _ _ | refine Below.drew ?_ | refine below_drewN ?_ _ | refine Below.alloc ?_ (by first | (simp; done) | omega | (simp; omega)) _ | refine Below.setCell ?_ (by first | (simp; done) | omega | (simp; omega)) _ | refine Below.trans ?_ (Below.mono (by assumption) (by first | (simp; done) | omega | (simp; omega)))))), HK2.out ?_⟩, ?_⟩
                     · (rw [HX.out]; simp <;> omega)
                     · (simp [intOf] <;> omega))
  · have hQ : chkRows rs p = false := by simp only [chkRows]; simp; omega
    have HQ := Lib.hid hQ
    clear hQ
    by_cases h0 : p < 0
    · go_enter Tryd.func77, Tryd.ntmps77
      go_wp2_with fail
      go_ret
      exact ⟨by rw [HQ.out]; rfl, (by with_reducible (repeat (first | assumption | exact Below.refl _ _ | refine Below.drew ?_ | refine below_drewN ?_ _ | refine Below.alloc ?_ (by first | (simp; done) | omega | (simp; omega)) _ | refine Below.setCell ?_ (by first | (simp; done) | omega | (simp; omega)) _ | refine Below.trans ?_ (Below.mono (by assumption) (by first | (simp; done) | omega | (simp; omega))))))⟩
    · by_cases h2 : 2 < p
      · go_enter Tryd.func77, Tryd.ntmps77
        go_wp2_with fail
        go_ret
        exact ⟨by rw [HQ.out]; rfl, (by with_reducible (repeat (first | assumption | exact Below.refl _ _ | refine Below.drew ?_ | refine below_drewN ?_ _ | refine Below.alloc ?_ (by first | (simp; done) | omega | (simp; omega)) _ | refine Below.setCell ?_ (by first | (simp; done) | omega | (simp; omega)) _ | refine Below.trans ?_ (Below.mono (by assumption) (by first | (simp; done) | omega | (simp; omega))))))⟩
      · have h4 : (400 : Int) < (rs.length : Int) := by omega
        go_enter Tryd.func77, Tryd.ntmps77
        go_wp2_with fail
        go_ret
        exact ⟨by rw [HQ.out]; rfl, (by with_reducible (repeat (first | assumption | exact Below.refl _ _ | refine Below.drew ?_ | refine below_drewN ?_ _ | refine Below.alloc ?_ (by first | (simp; done) | omega | (simp; omega)) _ | refine Below.setCell ?_ (by first | (simp; done) | omega | (simp; omega)) _ | refine Below.trans ?_ (Below.mono (by assumption) (by first | (simp; done) | omega | (simp; omega))))))⟩
end Go.Proofs.YtlfphfklcifgpaaDoor
