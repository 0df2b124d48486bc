/-
  Whether a saga may be, by walking the program's text; conditions: texts no longer than memory bears.
-/
import Derived.Test.YtlfphfklcifgpaaDoorSagaE
import Derived.Test.YtlfphfklcifgpaaDoorSagaF
import Derived.Test.YtlfphfklcifgpaaDoorSagaR
import Derived.Test.YtlfphfklcifgpaaDoorMem3
import Derived.Deep.LoopGhost
import Derived.ChangeKeysEq
namespace Go.Proofs.YtlfphfklcifgpaaDoor
open Go.RowKit Go.Own

def deedsV (s : D6) : Value := .agg #[.int .i64 s.a, .int .i64 s.b, .int .i64 s.c, .int .i64 s.d, .int .i64 s.e, .int .i64 s.f]
def sameDeeds (t s : D6) : Bool := decide (t.a = s.a) && decide (t.b = s.b) && decide (t.c = s.c) && decide (t.d = s.d) && decide (t.e = s.e) && decide (t.f = s.f)
theorem infoInt : (Tryd.prog.info? 3).map (fun i => (i.zero, i.size, i.bytes)) = some (some (.int .i64 0), 1, 8) := by kernel_rfl
theorem run_deeds_eq (t s : D6) (w : World) : (Op.equalIn 10000 61 (deedsV t) (deedsV s)).run Tryd.prog w = .ok (sameDeeds t s) w := by
  obtain ⟨a, b, c, d, e, f, x⟩ := s
  obtain ⟨a', b', c', d', e', f', x'⟩ := t
  simp only [deedsV]
  obtain ⟨i0, hi, hz0, hz1, hz2⟩ := info_parts infoInt
  have hr : List.range 6 = [0, 1, 2, 3, 4, 5] := by decide
  have hc : Tryd.prog.cellsOf 3 = 1 := by kernel_rfl
  rw [show (10000 : Nat) = 9999 + 1 from rfl, run_equalIn_array w 9999 _ _ Tryd.underlying61 hi, hr, hc]
  simp only [Op.eqItems]
  go_simp
  simp [sameDeeds]
  (repeat' split) <;> simp_all
theorem run_deeds_neq (t s : D6) (w : World) : (binOp .neq 61 (deedsV t) (deedsV s)).run Tryd.prog w = .ok (.bool (!sameDeeds t s)) w := by
  have h := run_deeds_eq t s w
  simp only [deedsV] at h ⊢
  rw [run_neq_struct, h]
  rfl
def cellsOf (o : OrdS) (s : D6) : Array Value := #[.int .i64 o.id, .string ⟨o.ref.toArray⟩, .string ⟨o.sku.toArray⟩, .int .i64 o.qty, .int .i64 o.amt,
  .int .i64 s.a, .int .i64 s.b, .int .i64 s.c, .int .i64 s.d, .int .i64 s.e, .int .i64 s.f, .bool s.x]
def validS (o : OrdS) (s : D6) : Bool := decide (ordCheck o.id o.ref o.sku o.qty o.amt = 0) && decide (s ∈ RL)
theorem Box.dD {w : World} {B : Nat} {o : OrdS} {s : D6} (h : Box w B (cellsOf o s)) (n : Nat) (hn : n < 6) : w.cell? ⟨B, 5 + n, none⟩ = some (.int .i64 (getD s n)) := by
  have hcs : n = 0 ∨ n = 1 ∨ n = 2 ∨ n = 3 ∨ n = 4 ∨ n = 5 := by omega
  rcases hcs with rfl | rfl | rfl | rfl | rfl | rfl
  · exact h.c 5 _ rfl
  · exact h.c 6 _ rfl
  · exact h.c 7 _ rfl
  · exact h.c 8 _ rfl
  · exact h.c 9 _ rfl
  · exact h.c 10 _ rfl
theorem d6_eq {t s : D6} (h1 : sameDeeds t s = true) (h2 : t.x = s.x) : t = s := by
  obtain ⟨a, b, c, d, e, f, x⟩ := s
  obtain ⟨a', b', c', d', e', f', x'⟩ := t
  simp only [sameDeeds, Bool.and_eq_true, decide_eq_true_eq] at h1
  obtain ⟨⟨⟨⟨⟨rfl, rfl⟩, rfl⟩, rfl⟩, rfl⟩, rfl⟩ := h1
  simp only at h2
  subst h2
  rfl
theorem dec_false {p : Prop} [Decidable p] (h : ¬ p) : decide p = false := by simp [h]
theorem getD_zero (m : Nat) : getD ⟨0, 0, 0, 0, 0, 0, false⟩ m = 0 := by
  unfold getD; split <;> rfl
theorem sameDeeds_self (t : D6) : sameDeeds t t = true := by simp [sameDeeds]

set_option maxHeartbeats 8000000 in
set_option maxRecDepth 100000 in
theorem valid_any (o : OrdS) (s : D6) (w : World) (h1 : o.ref.length ≤ maxLen) (h2 : o.sku.length ≤ maxLen) :
    Calls Tryd.prog 30 #[sagaV o s] w fun e w' => e = .returned (.bool (validS o s)) ∧ Below w.heap.size w w' := by
  have C := fun w => ordCheck_any o.id o.ref o.sku o.qty o.amt w h1 h2
  have G := fun w => begin_any o w
  simp only [sagaV, ordV, beginD] at G ⊢
  by_cases hc0 : ordCheck o.id o.ref o.sku o.qty o.amt = 0
  rotate_left
  · have HQ := Lib.hid (show validS o s = false by simp [validS, hc0])
    generalize ordCheck o.id o.ref o.sku o.qty o.amt = q at *
    have hcn : (q != 0) = true := by simpa using hc0
    clear hc0
    go_enter Tryd.func30, Tryd.ntmps30
    go_wp2_with (go_at_call 56; go_must ((with_reducible refine (C _).mono ?_); rintro e w1 ⟨rfl, hb⟩; obtain ⟨hc, hf⟩ := bcell hb; have hz := hb.size; (try simp at hz); (try have hzT := Nat.lt_of_succ_le hz); have hzA : w.heap.size < w1.heap.size := (by omega); have hzA2 := Nat.le_of_lt hzA))
    go_ret
    exact ⟨by rw [HQ.out]; rfl, (by with_reducible (repeat (first | assumption | exact Below.refl _ _ | refine Below.drew ?_ | refine below_drewN ?_ _ | refine Below.alloc ?_ (by first | (simp; done) | omega | (simp; omega)) _ | refine Below.setCell ?_ (by first | (simp; done) | omega | (simp; omega)) _ | refine Below.trans ?_ (Below.mono (by assumption) (by first | (simp; done) | omega | (simp; omega))))))⟩
  have HQ := Lib.hid (show validS o s = decide (s ∈ RL) by simp [validS, hc0])
  rw [hc0] at C
  clear hc0
  go_enter Tryd.func30, Tryd.ntmps30
  go_wp2_with (first
    | (go_at_call 56; go_must ((with_reducible refine (C _).mono ?_); rintro e w1 ⟨rfl, hb⟩; have hS := Box.of hb; have hB1 := Lib.hid (show Below w.heap.size w w1 from Below.trans ((Below.refl _ _).alloc (Nat.le_refl _) _) (hb.mono (by simp))); clear hb; obtain ⟨k0, k1, k2, k3, k4, k5, k6, k7, k8, k9, k10, k11⟩ := (hS).cells12; have fk := (hS).f; have HS1 := Lib.hid hS; clear hS))
    | (go_at_call 51; go_must ((with_reducible refine (G _).mono ?_); rintro e w2 ⟨rfl, hb⟩; have HS := Lib.hid (HS1.out.below hb HS1.out.lt); have hB := Lib.hid (hB1.out.trans (hb.mono (by have := hB1.out.size; omega))); clear hb k0 k1 k2 k3 k4 k5 k6 k7 k8 k9 k10 k11 fk)))
  have hST : w.heap.size < w2.heap.size := HS.out.lt
  go_loopg [4, 5] 11 (fun g _ _ wr => ∃ t : D6, t ∈ RL ∧ (s ∈ RL → onPath s t = true) ∧ g = 12 - rank t ∧ Below w2.heap.size w2 wr ∧ Box wr w2.heap.size (cellsOf o t))
  case atStart => exact ⟨beginD, start_ok.1, fun _ => start_ok.2 s, by decide, (Below.refl _ _).alloc (Nat.le_refl _) _, Box.new w2 (cellsOf o beginD) _⟩
  case round =>
    obtain ⟨t, htR, htP, hg, hbr, hT⟩ := hrel
    have hS := HS.out.below hbr hST
    have hzr := hbr.size
    have hzT := hT.lt
    have HBW := Lib.hid (show Below w.heap.size w w2 from hB.out)
    obtain ⟨k0, k1, k2, k3, k4, k5, k6, k7, k8, k9, k10, k11⟩ := (hS).cells12; have fk := (hS).f
    obtain ⟨m0, m1, m2, m3, m4, m5, m6, m7, m8, m9, m10, m11⟩ := (hT).cells12; have fm := (hT).f
    by_cases hts : t = s
    · have HN := Lib.hid (show decide (s ∈ RL) = true by rw [← hts]; simp [htR])
      have hne := fun w => run_deeds_eq t s w
      rw [show sameDeeds t s = true by rw [hts]; exact sameDeeds_self s] at hne
      have hxx : (t.x == s.x) = true := by rw [hts]; simp
      simp only [deedsV] at hne
      clear hts
      go_wp2_with fail
      go_ret
      exact ⟨by rw [HQ.out, HN.out]; rfl, HBW.out.trans (hbr.mono (Nat.le_of_lt hST))⟩
    have hq := fun (h : s ∈ RL) => path_ok s h t htR (htP h) hts
    have hne := fun w => run_deeds_eq t s w
    have hor : sameDeeds t s = false ∨ (sameDeeds t s = true ∧ (t.x == s.x) = false) := by
      cases hsd : sameDeeds t s
      · exact .inl rfl
      · refine .inr ⟨rfl, ?_⟩
        have : t.x ≠ s.x := fun h => hts (d6_eq hsd h)
        simpa using this
    clear hts
    simp only [deedsV] at hne
    have W := fun w => waits_any o t w
    have hcs := waitsOf_cases t
    simp only [sagaV] at W
    rcases hor with hsd | ⟨hsd, hxx⟩
    all_goals
      rw [hsd] at hne
      clear hsd
      generalize hw : waitsOf t = p at *
      obtain ⟨n, v⟩ := p
      simp only at W hcs hq
      cases v
      · have HN := Lib.hid (show decide (s ∈ RL) = false from dec_false (fun h => by have := (hq h).1; cases this))
        clear hcs hq hw
        go_wp2_with (go_at_call 31; go_must ((with_reducible refine (W _).mono ?_); rintro e w3 ⟨rfl, hb⟩))
        go_ret
        exact ⟨by rw [HQ.out, HN.out]; rfl, HBW.out.trans ((hbr.trans (hb.mono hzr)).mono (Nat.le_of_lt hST))⟩
      obtain ⟨m, hm, rfl⟩ : ∃ m : Nat, m < 6 ∧ n = (m : Int) := by
        rcases hcs with ⟨h, _⟩ | ⟨_, h⟩
        · cases h
        · exact ⟨n.toNat, by omega, by omega⟩
      clear hcs
      have hmz : (m : Int) < 6 := by omega
      have hm0 : 0 ≤ (m : Int) := by omega
      by_cases h4 : getD s m = 4
      · have P := fun w => stop_any o t w
        cases hr : stopOf t with
        | none =>
          rw [hr] at P
          simp only [stopV, replyV, noneV, sagaV] at P
          have HN := Lib.hid (show decide (s ∈ RL) = false from dec_false (fun h => by
            obtain ⟨_, u, hu, _⟩ := hq h
            simp [vnext, hw, h4, hr] at hu))
          have h4b : (getD s m == 4) = true := by simpa using h4
          have h4c : ((0 : Int) != getD s m) = true := by simp [h4]
          clear h4 hq hw
          go_wp2_with (first | (go_at_call 31; go_must ((with_reducible refine (W _).mono ?_); rintro e w3 ⟨rfl, hb⟩; have hS3 := hS.below hb hS.lt; have hT3 := hT.below hb hT.lt; have hB3 := Lib.hid (hbr.trans (hb.mono hzr)); have hz3 := hT3.lt; clear hb hS hT k0 k1 k2 k3 k4 k5 k6 k7 k8 k9 k10 k11 fk m0 m1 m2 m3 m4 m5 m6 m7 m8 m9 m10 m11 fm; obtain ⟨m0, m1, m2, m3, m4, m5, m6, m7, m8, m9, m10, m11⟩ := (hT3).cells12; have fm := (hT3).f; have hdS := Box.dD (o := o) (s := s) (hS3) m hm; have HS3 := Lib.hid hS3; have HT3 := Lib.hid hT3; clear hS3 hT3)) | (go_at_call 57; go_must ((with_reducible refine (P _).mono ?_); rintro e w4 ⟨rfl, hb⟩; have hS4 := HS3.out.below hb HS3.out.lt; have hT4 := HT3.out.below hb HT3.out.lt; have hB4 := Lib.hid (hB3.out.trans (hb.mono (Nat.le_of_lt hz3))); clear hb m0 m1 m2 m3 m4 m5 m6 m7 m8 m9 m10 m11 fm hdS; obtain ⟨m0, m1, m2, m3, m4, m5, m6, m7, m8, m9, m10, m11⟩ := (hT4).cells12; have fm := (hT4).f; have HS4 := Lib.hid hS4; have HT4 := Lib.hid hT4; clear hS4 hT4)))
          have hT5 := HT4.out.put12 (.int .i64 0) (.string ⟨#[]⟩) (.string ⟨#[]⟩) (.int .i64 0) (.int .i64 0) (.int .i64 0) (.int .i64 0) (.int .i64 0) (.int .i64 0) (.int .i64 0) (.int .i64 0) (.bool false)
          have hS5 := HS4.out.keep12 (T := w2.heap.size) (Nat.ne_of_gt hST) (.int .i64 0) (.string ⟨#[]⟩) (.string ⟨#[]⟩) (.int .i64 0) (.int .i64 0) (.int .i64 0) (.int .i64 0) (.int .i64 0) (.int .i64 0) (.int .i64 0) (.int .i64 0) (.bool false)
          have hB5 := below_put12 hB4.out (T := w2.heap.size) (Nat.le_refl _) (.int .i64 0) (.string ⟨#[]⟩) (.string ⟨#[]⟩) (.int .i64 0) (.int .i64 0) (.int .i64 0) (.int .i64 0) (.int .i64 0) (.int .i64 0) (.int .i64 0) (.int .i64 0) (.bool false)
          clear m0 m1 m2 m3 m4 m5 m6 m7 m8 m9 m10 m11 fm
          obtain ⟨w5, hW5⟩ : ∃ w5, w5 = (World.setCell (World.setCell (World.setCell (World.setCell (World.setCell (World.setCell (World.setCell (World.setCell (World.setCell (World.setCell (World.setCell (World.setCell w4 ⟨w2.heap.size, 0, none⟩ (.int .i64 0)) ⟨w2.heap.size, 1, none⟩ (.string ⟨#[]⟩)) ⟨w2.heap.size, 2, none⟩ (.string ⟨#[]⟩)) ⟨w2.heap.size, 3, none⟩ (.int .i64 0)) ⟨w2.heap.size, 4, none⟩ (.int .i64 0)) ⟨w2.heap.size, 5, none⟩ (.int .i64 0)) ⟨w2.heap.size, 6, none⟩ (.int .i64 0)) ⟨w2.heap.size, 7, none⟩ (.int .i64 0)) ⟨w2.heap.size, 8, none⟩ (.int .i64 0)) ⟨w2.heap.size, 9, none⟩ (.int .i64 0)) ⟨w2.heap.size, 10, none⟩ (.int .i64 0)) ⟨w2.heap.size, 11, none⟩ (.bool false)) := ⟨_, rfl⟩
          rw [← hW5] at hT5 hS5 hB5 ⊢
          clear hW5
          have hz5 := hT5.lt
          have hdT : w5.cell? ⟨w2.heap.size, 5 + m, none⟩ = some (.int .i64 0) := Box.dD (o := ⟨0, [], [], 0, 0⟩) (s := ⟨0, 0, 0, 0, 0, 0, false⟩) hT5 m hm |>.trans (by rw [getD_zero])
          have hdS := Box.dD (o := o) (s := s) hS5 m hm
          have hs5 := hS5.lt
          have HT5 := Lib.hid hT5
          have HB5 := Lib.hid hB5
          clear hT5 hS5 hB5
          refine region_later (by kernel_rfl) (by kernel_rfl) ?_
          repeat (first | go_big_quiet_step (fail) | quiet_step (fail))
          refine wpQuiet_nil ?_
          intro w1 hb
          obtain ⟨hc, hf⟩ := bcell hb
          go_wp2_with fail
          go_ret
          exact ⟨by rw [HQ.out, HN.out]; rfl, HBW.out.trans (HB5.out.trans (hb.mono (Nat.le_of_lt hz5)) |>.mono (Nat.le_of_lt hST))⟩
        | some z =>
          rw [hr] at P
          simp only [stopV, replyV, sagaV] at P
          obtain ⟨hzR, hz1, hz2⟩ := ways_ok t htR _ (show stopOf t ∈ ways t by simp [ways, hw]) z hr
          by_cases hzs : getD z m = getD s m
          · have hv : vnext s t = some z := by simp [vnext, hw, h4, hr, hzs]
            have HP := Lib.hid (show s ∈ RL → onPath s z = true from fun h => by
              obtain ⟨_, u, hu, hp⟩ := hq h
              rw [hv] at hu
              cases hu
              exact hp)
            have hzsb : (getD z m != getD s m) = false := by simpa using hzs
            have h4b : (getD s m == 4) = true := by simpa using h4
            have h4c : ((0 : Int) != getD s m) = true := by simp [h4]
            clear h4 hq hw
            clear hzs hv
            go_wp2_with (first | (go_at_call 31; go_must ((with_reducible refine (W _).mono ?_); rintro e w3 ⟨rfl, hb⟩; have hS3 := hS.below hb hS.lt; have hT3 := hT.below hb hT.lt; have hB3 := Lib.hid (hbr.trans (hb.mono hzr)); have hz3 := hT3.lt; clear hb hS hT k0 k1 k2 k3 k4 k5 k6 k7 k8 k9 k10 k11 fk m0 m1 m2 m3 m4 m5 m6 m7 m8 m9 m10 m11 fm; obtain ⟨m0, m1, m2, m3, m4, m5, m6, m7, m8, m9, m10, m11⟩ := (hT3).cells12; have fm := (hT3).f; have hdS := Box.dD (o := o) (s := s) (hS3) m hm; have HS3 := Lib.hid hS3; have HT3 := Lib.hid hT3; clear hS3 hT3)) | (go_at_call 57; go_must ((with_reducible refine (P _).mono ?_); rintro e w4 ⟨rfl, hb⟩; have hS4 := HS3.out.below hb HS3.out.lt; have hT4 := HT3.out.below hb HT3.out.lt; have hB4 := Lib.hid (hB3.out.trans (hb.mono (Nat.le_of_lt hz3))); clear hb m0 m1 m2 m3 m4 m5 m6 m7 m8 m9 m10 m11 fm hdS; obtain ⟨m0, m1, m2, m3, m4, m5, m6, m7, m8, m9, m10, m11⟩ := (hT4).cells12; have fm := (hT4).f; have HS4 := Lib.hid hS4; have HT4 := Lib.hid hT4; clear hS4 hT4)))
            have hT5 := HT4.out.put12 (.int .i64 o.id) (.string ⟨o.ref.toArray⟩) (.string ⟨o.sku.toArray⟩) (.int .i64 o.qty) (.int .i64 o.amt) (.int .i64 z.a) (.int .i64 z.b) (.int .i64 z.c) (.int .i64 z.d) (.int .i64 z.e) (.int .i64 z.f) (.bool z.x)
            have hS5 := HS4.out.keep12 (T := w2.heap.size) (Nat.ne_of_gt hST) (.int .i64 o.id) (.string ⟨o.ref.toArray⟩) (.string ⟨o.sku.toArray⟩) (.int .i64 o.qty) (.int .i64 o.amt) (.int .i64 z.a) (.int .i64 z.b) (.int .i64 z.c) (.int .i64 z.d) (.int .i64 z.e) (.int .i64 z.f) (.bool z.x)
            have hB5 := below_put12 hB4.out (T := w2.heap.size) (Nat.le_refl _) (.int .i64 o.id) (.string ⟨o.ref.toArray⟩) (.string ⟨o.sku.toArray⟩) (.int .i64 o.qty) (.int .i64 o.amt) (.int .i64 z.a) (.int .i64 z.b) (.int .i64 z.c) (.int .i64 z.d) (.int .i64 z.e) (.int .i64 z.f) (.bool z.x)
            clear m0 m1 m2 m3 m4 m5 m6 m7 m8 m9 m10 m11 fm
            obtain ⟨w5, hW5⟩ : ∃ w5, w5 = (World.setCell (World.setCell (World.setCell (World.setCell (World.setCell (World.setCell (World.setCell (World.setCell (World.setCell (World.setCell (World.setCell (World.setCell w4 ⟨w2.heap.size, 0, none⟩ (.int .i64 o.id)) ⟨w2.heap.size, 1, none⟩ (.string ⟨o.ref.toArray⟩)) ⟨w2.heap.size, 2, none⟩ (.string ⟨o.sku.toArray⟩)) ⟨w2.heap.size, 3, none⟩ (.int .i64 o.qty)) ⟨w2.heap.size, 4, none⟩ (.int .i64 o.amt)) ⟨w2.heap.size, 5, none⟩ (.int .i64 z.a)) ⟨w2.heap.size, 6, none⟩ (.int .i64 z.b)) ⟨w2.heap.size, 7, none⟩ (.int .i64 z.c)) ⟨w2.heap.size, 8, none⟩ (.int .i64 z.d)) ⟨w2.heap.size, 9, none⟩ (.int .i64 z.e)) ⟨w2.heap.size, 10, none⟩ (.int .i64 z.f)) ⟨w2.heap.size, 11, none⟩ (.bool z.x)) := ⟨_, rfl⟩
            rw [← hW5] at hT5 hS5 hB5 ⊢
            clear hW5
            have hz5 := hT5.lt
            have hdT := Box.dD (o := o) (s := z) hT5 m hm
            have hdS := Box.dD (o := o) (s := s) hS5 m hm
            have hs5 := hS5.lt
            have HT5 := Lib.hid hT5
            have HB5 := Lib.hid hB5
            clear hT5 hS5 hB5
            refine region_later (by kernel_rfl) (by kernel_rfl) ?_
            repeat (first | go_big_quiet_step (fail) | quiet_step (fail))
            refine wpQuiet_nil ?_
            intro w1 hb
            obtain ⟨hc, hf⟩ := bcell hb
            go_wp2_with fail
            go_roundg (12 - rank z)
            case measure => omega
            case rel => exact ⟨z, hzR, HP.out, rfl, HB5.out.trans (hb.mono (Nat.le_of_lt hz5)), HT5.out.below hb hz5⟩
          · have HN := Lib.hid (show decide (s ∈ RL) = false from dec_false (fun h => by
              obtain ⟨_, u, hu, _⟩ := hq h
              simp [vnext, hw, h4, hr, (show ¬ getD z m = 4 from h4 ▸ hzs)] at hu))
            have hzsb : (getD z m != getD s m) = true := by simpa using hzs
            have h4b : (getD s m == 4) = true := by simpa using h4
            have h4c : ((0 : Int) != getD s m) = true := by simp [h4]
            clear h4 hq hw
            clear hzs
            go_wp2_with (first | (go_at_call 31; go_must ((with_reducible refine (W _).mono ?_); rintro e w3 ⟨rfl, hb⟩; have hS3 := hS.below hb hS.lt; have hT3 := hT.below hb hT.lt; have hB3 := Lib.hid (hbr.trans (hb.mono hzr)); have hz3 := hT3.lt; clear hb hS hT k0 k1 k2 k3 k4 k5 k6 k7 k8 k9 k10 k11 fk m0 m1 m2 m3 m4 m5 m6 m7 m8 m9 m10 m11 fm; obtain ⟨m0, m1, m2, m3, m4, m5, m6, m7, m8, m9, m10, m11⟩ := (hT3).cells12; have fm := (hT3).f; have hdS := Box.dD (o := o) (s := s) (hS3) m hm; have HS3 := Lib.hid hS3; have HT3 := Lib.hid hT3; clear hS3 hT3)) | (go_at_call 57; go_must ((with_reducible refine (P _).mono ?_); rintro e w4 ⟨rfl, hb⟩; have hS4 := HS3.out.below hb HS3.out.lt; have hT4 := HT3.out.below hb HT3.out.lt; have hB4 := Lib.hid (hB3.out.trans (hb.mono (Nat.le_of_lt hz3))); clear hb m0 m1 m2 m3 m4 m5 m6 m7 m8 m9 m10 m11 fm hdS; obtain ⟨m0, m1, m2, m3, m4, m5, m6, m7, m8, m9, m10, m11⟩ := (hT4).cells12; have fm := (hT4).f; have HS4 := Lib.hid hS4; have HT4 := Lib.hid hT4; clear hS4 hT4)))
            have hT5 := HT4.out.put12 (.int .i64 o.id) (.string ⟨o.ref.toArray⟩) (.string ⟨o.sku.toArray⟩) (.int .i64 o.qty) (.int .i64 o.amt) (.int .i64 z.a) (.int .i64 z.b) (.int .i64 z.c) (.int .i64 z.d) (.int .i64 z.e) (.int .i64 z.f) (.bool z.x)
            have hS5 := HS4.out.keep12 (T := w2.heap.size) (Nat.ne_of_gt hST) (.int .i64 o.id) (.string ⟨o.ref.toArray⟩) (.string ⟨o.sku.toArray⟩) (.int .i64 o.qty) (.int .i64 o.amt) (.int .i64 z.a) (.int .i64 z.b) (.int .i64 z.c) (.int .i64 z.d) (.int .i64 z.e) (.int .i64 z.f) (.bool z.x)
            have hB5 := below_put12 hB4.out (T := w2.heap.size) (Nat.le_refl _) (.int .i64 o.id) (.string ⟨o.ref.toArray⟩) (.string ⟨o.sku.toArray⟩) (.int .i64 o.qty) (.int .i64 o.amt) (.int .i64 z.a) (.int .i64 z.b) (.int .i64 z.c) (.int .i64 z.d) (.int .i64 z.e) (.int .i64 z.f) (.bool z.x)
            clear m0 m1 m2 m3 m4 m5 m6 m7 m8 m9 m10 m11 fm
            obtain ⟨w5, hW5⟩ : ∃ w5, w5 = (World.setCell (World.setCell (World.setCell (World.setCell (World.setCell (World.setCell (World.setCell (World.setCell (World.setCell (World.setCell (World.setCell (World.setCell w4 ⟨w2.heap.size, 0, none⟩ (.int .i64 o.id)) ⟨w2.heap.size, 1, none⟩ (.string ⟨o.ref.toArray⟩)) ⟨w2.heap.size, 2, none⟩ (.string ⟨o.sku.toArray⟩)) ⟨w2.heap.size, 3, none⟩ (.int .i64 o.qty)) ⟨w2.heap.size, 4, none⟩ (.int .i64 o.amt)) ⟨w2.heap.size, 5, none⟩ (.int .i64 z.a)) ⟨w2.heap.size, 6, none⟩ (.int .i64 z.b)) ⟨w2.heap.size, 7, none⟩ (.int .i64 z.c)) ⟨w2.heap.size, 8, none⟩ (.int .i64 z.d)) ⟨w2.heap.size, 9, none⟩ (.int .i64 z.e)) ⟨w2.heap.size, 10, none⟩ (.int .i64 z.f)) ⟨w2.heap.size, 11, none⟩ (.bool z.x)) := ⟨_, rfl⟩
            rw [← hW5] at hT5 hS5 hB5 ⊢
            clear hW5
            have hz5 := hT5.lt
            have hdT := Box.dD (o := o) (s := z) hT5 m hm
            have hdS := Box.dD (o := o) (s := s) hS5 m hm
            have hs5 := hS5.lt
            have HT5 := Lib.hid hT5
            have HB5 := Lib.hid hB5
            clear hT5 hS5 hB5
            refine region_later (by kernel_rfl) (by kernel_rfl) ?_
            repeat (first | go_big_quiet_step (fail) | quiet_step (fail))
            refine wpQuiet_nil ?_
            intro w1 hb
            obtain ⟨hc, hf⟩ := bcell hb
            go_wp2_with fail
            go_ret
            exact ⟨by rw [HQ.out, HN.out]; rfl, HBW.out.trans (HB5.out.trans (hb.mono (Nat.le_of_lt hz5)) |>.mono (Nat.le_of_lt hST))⟩
      by_cases h3 : getD s m = 3
      · have P := fun w => reply_any o t (m : Int) 2 w
        cases hr : replyOf t (m : Int) 2 with
        | none =>
          rw [hr] at P
          simp only [stopV, replyV, noneV, sagaV] at P
          have HN := Lib.hid (show decide (s ∈ RL) = false from dec_false (fun h => by
            obtain ⟨_, u, hu, _⟩ := hq h
            simp [vnext, hw, h4, h3, hr] at hu))
          have h4b : (getD s m == 4) = false := by simpa using h4
          have h3b : (getD s m == 3) = true := by simpa using h3
          clear h4 h3 hq hw
          go_wp2_with (first | (go_at_call 31; go_must ((with_reducible refine (W _).mono ?_); rintro e w3 ⟨rfl, hb⟩; have hS3 := hS.below hb hS.lt; have hT3 := hT.below hb hT.lt; have hB3 := Lib.hid (hbr.trans (hb.mono hzr)); have hz3 := hT3.lt; clear hb hS hT k0 k1 k2 k3 k4 k5 k6 k7 k8 k9 k10 k11 fk m0 m1 m2 m3 m4 m5 m6 m7 m8 m9 m10 m11 fm; obtain ⟨m0, m1, m2, m3, m4, m5, m6, m7, m8, m9, m10, m11⟩ := (hT3).cells12; have fm := (hT3).f; have hdS := Box.dD (o := o) (s := s) (hS3) m hm; have HS3 := Lib.hid hS3; have HT3 := Lib.hid hT3; clear hS3 hT3)) | (go_at_call 50; go_must ((with_reducible refine (P _).mono ?_); rintro e w4 ⟨rfl, hb⟩; have hS4 := HS3.out.below hb HS3.out.lt; have hT4 := HT3.out.below hb HT3.out.lt; have hB4 := Lib.hid (hB3.out.trans (hb.mono (Nat.le_of_lt hz3))); clear hb m0 m1 m2 m3 m4 m5 m6 m7 m8 m9 m10 m11 fm hdS; obtain ⟨m0, m1, m2, m3, m4, m5, m6, m7, m8, m9, m10, m11⟩ := (hT4).cells12; have fm := (hT4).f; have HS4 := Lib.hid hS4; have HT4 := Lib.hid hT4; clear hS4 hT4)))
          have hT5 := HT4.out.put12 (.int .i64 0) (.string ⟨#[]⟩) (.string ⟨#[]⟩) (.int .i64 0) (.int .i64 0) (.int .i64 0) (.int .i64 0) (.int .i64 0) (.int .i64 0) (.int .i64 0) (.int .i64 0) (.bool false)
          have hS5 := HS4.out.keep12 (T := w2.heap.size) (Nat.ne_of_gt hST) (.int .i64 0) (.string ⟨#[]⟩) (.string ⟨#[]⟩) (.int .i64 0) (.int .i64 0) (.int .i64 0) (.int .i64 0) (.int .i64 0) (.int .i64 0) (.int .i64 0) (.int .i64 0) (.bool false)
          have hB5 := below_put12 hB4.out (T := w2.heap.size) (Nat.le_refl _) (.int .i64 0) (.string ⟨#[]⟩) (.string ⟨#[]⟩) (.int .i64 0) (.int .i64 0) (.int .i64 0) (.int .i64 0) (.int .i64 0) (.int .i64 0) (.int .i64 0) (.int .i64 0) (.bool false)
          clear m0 m1 m2 m3 m4 m5 m6 m7 m8 m9 m10 m11 fm
          obtain ⟨w5, hW5⟩ : ∃ w5, w5 = (World.setCell (World.setCell (World.setCell (World.setCell (World.setCell (World.setCell (World.setCell (World.setCell (World.setCell (World.setCell (World.setCell (World.setCell w4 ⟨w2.heap.size, 0, none⟩ (.int .i64 0)) ⟨w2.heap.size, 1, none⟩ (.string ⟨#[]⟩)) ⟨w2.heap.size, 2, none⟩ (.string ⟨#[]⟩)) ⟨w2.heap.size, 3, none⟩ (.int .i64 0)) ⟨w2.heap.size, 4, none⟩ (.int .i64 0)) ⟨w2.heap.size, 5, none⟩ (.int .i64 0)) ⟨w2.heap.size, 6, none⟩ (.int .i64 0)) ⟨w2.heap.size, 7, none⟩ (.int .i64 0)) ⟨w2.heap.size, 8, none⟩ (.int .i64 0)) ⟨w2.heap.size, 9, none⟩ (.int .i64 0)) ⟨w2.heap.size, 10, none⟩ (.int .i64 0)) ⟨w2.heap.size, 11, none⟩ (.bool false)) := ⟨_, rfl⟩
          rw [← hW5] at hT5 hS5 hB5 ⊢
          clear hW5
          have hz5 := hT5.lt
          have hdT : w5.cell? ⟨w2.heap.size, 5 + m, none⟩ = some (.int .i64 0) := Box.dD (o := ⟨0, [], [], 0, 0⟩) (s := ⟨0, 0, 0, 0, 0, 0, false⟩) hT5 m hm |>.trans (by rw [getD_zero])
          have hdS := Box.dD (o := o) (s := s) hS5 m hm
          have hs5 := hS5.lt
          have HT5 := Lib.hid hT5
          have HB5 := Lib.hid hB5
          clear hT5 hS5 hB5
          refine region_later (by kernel_rfl) (by kernel_rfl) ?_
          repeat (first | go_big_quiet_step (fail) | quiet_step (fail))
          refine wpQuiet_nil ?_
          intro w1 hb
          obtain ⟨hc, hf⟩ := bcell hb
          go_wp2_with fail
          go_ret
          exact ⟨by rw [HQ.out, HN.out]; rfl, HBW.out.trans (HB5.out.trans (hb.mono (Nat.le_of_lt hz5)) |>.mono (Nat.le_of_lt hST))⟩
        | some z =>
          rw [hr] at P
          simp only [stopV, replyV, sagaV] at P
          obtain ⟨hzR, hz1, hz2⟩ := ways_ok t htR _ (show replyOf t (m : Int) 2 ∈ ways t by simp [ways, hw]) z hr
          by_cases hzs : getD z m = getD s m
          · have hv : vnext s t = some z := by simp [vnext, hw, h4, h3, hr, hzs]
            have HP := Lib.hid (show s ∈ RL → onPath s z = true from fun h => by
              obtain ⟨_, u, hu, hp⟩ := hq h
              rw [hv] at hu
              cases hu
              exact hp)
            have hzsb : (getD z m != getD s m) = false := by simpa using hzs
            have h4b : (getD s m == 4) = false := by simpa using h4
            have h3b : (getD s m == 3) = true := by simpa using h3
            clear h4 h3 hq hw
            clear hzs hv
            go_wp2_with (first | (go_at_call 31; go_must ((with_reducible refine (W _).mono ?_); rintro e w3 ⟨rfl, hb⟩; have hS3 := hS.below hb hS.lt; have hT3 := hT.below hb hT.lt; have hB3 := Lib.hid (hbr.trans (hb.mono hzr)); have hz3 := hT3.lt; clear hb hS hT k0 k1 k2 k3 k4 k5 k6 k7 k8 k9 k10 k11 fk m0 m1 m2 m3 m4 m5 m6 m7 m8 m9 m10 m11 fm; obtain ⟨m0, m1, m2, m3, m4, m5, m6, m7, m8, m9, m10, m11⟩ := (hT3).cells12; have fm := (hT3).f; have hdS := Box.dD (o := o) (s := s) (hS3) m hm; have HS3 := Lib.hid hS3; have HT3 := Lib.hid hT3; clear hS3 hT3)) | (go_at_call 50; go_must ((with_reducible refine (P _).mono ?_); rintro e w4 ⟨rfl, hb⟩; have hS4 := HS3.out.below hb HS3.out.lt; have hT4 := HT3.out.below hb HT3.out.lt; have hB4 := Lib.hid (hB3.out.trans (hb.mono (Nat.le_of_lt hz3))); clear hb m0 m1 m2 m3 m4 m5 m6 m7 m8 m9 m10 m11 fm hdS; obtain ⟨m0, m1, m2, m3, m4, m5, m6, m7, m8, m9, m10, m11⟩ := (hT4).cells12; have fm := (hT4).f; have HS4 := Lib.hid hS4; have HT4 := Lib.hid hT4; clear hS4 hT4)))
            have hT5 := HT4.out.put12 (.int .i64 o.id) (.string ⟨o.ref.toArray⟩) (.string ⟨o.sku.toArray⟩) (.int .i64 o.qty) (.int .i64 o.amt) (.int .i64 z.a) (.int .i64 z.b) (.int .i64 z.c) (.int .i64 z.d) (.int .i64 z.e) (.int .i64 z.f) (.bool z.x)
            have hS5 := HS4.out.keep12 (T := w2.heap.size) (Nat.ne_of_gt hST) (.int .i64 o.id) (.string ⟨o.ref.toArray⟩) (.string ⟨o.sku.toArray⟩) (.int .i64 o.qty) (.int .i64 o.amt) (.int .i64 z.a) (.int .i64 z.b) (.int .i64 z.c) (.int .i64 z.d) (.int .i64 z.e) (.int .i64 z.f) (.bool z.x)
            have hB5 := below_put12 hB4.out (T := w2.heap.size) (Nat.le_refl _) (.int .i64 o.id) (.string ⟨o.ref.toArray⟩) (.string ⟨o.sku.toArray⟩) (.int .i64 o.qty) (.int .i64 o.amt) (.int .i64 z.a) (.int .i64 z.b) (.int .i64 z.c) (.int .i64 z.d) (.int .i64 z.e) (.int .i64 z.f) (.bool z.x)
            clear m0 m1 m2 m3 m4 m5 m6 m7 m8 m9 m10 m11 fm
            obtain ⟨w5, hW5⟩ : ∃ w5, w5 = (World.setCell (World.setCell (World.setCell (World.setCell (World.setCell (World.setCell (World.setCell (World.setCell (World.setCell (World.setCell (World.setCell (World.setCell w4 ⟨w2.heap.size, 0, none⟩ (.int .i64 o.id)) ⟨w2.heap.size, 1, none⟩ (.string ⟨o.ref.toArray⟩)) ⟨w2.heap.size, 2, none⟩ (.string ⟨o.sku.toArray⟩)) ⟨w2.heap.size, 3, none⟩ (.int .i64 o.qty)) ⟨w2.heap.size, 4, none⟩ (.int .i64 o.amt)) ⟨w2.heap.size, 5, none⟩ (.int .i64 z.a)) ⟨w2.heap.size, 6, none⟩ (.int .i64 z.b)) ⟨w2.heap.size, 7, none⟩ (.int .i64 z.c)) ⟨w2.heap.size, 8, none⟩ (.int .i64 z.d)) ⟨w2.heap.size, 9, none⟩ (.int .i64 z.e)) ⟨w2.heap.size, 10, none⟩ (.int .i64 z.f)) ⟨w2.heap.size, 11, none⟩ (.bool z.x)) := ⟨_, rfl⟩
            rw [← hW5] at hT5 hS5 hB5 ⊢
            clear hW5
            have hz5 := hT5.lt
            have hdT := Box.dD (o := o) (s := z) hT5 m hm
            have hdS := Box.dD (o := o) (s := s) hS5 m hm
            have hs5 := hS5.lt
            have HT5 := Lib.hid hT5
            have HB5 := Lib.hid hB5
            clear hT5 hS5 hB5
            refine region_later (by kernel_rfl) (by kernel_rfl) ?_
            repeat (first | go_big_quiet_step (fail) | quiet_step (fail))
            refine wpQuiet_nil ?_
            intro w1 hb
            obtain ⟨hc, hf⟩ := bcell hb
            go_wp2_with fail
            go_roundg (12 - rank z)
            case measure => omega
            case rel => exact ⟨z, hzR, HP.out, rfl, HB5.out.trans (hb.mono (Nat.le_of_lt hz5)), HT5.out.below hb hz5⟩
          · have HN := Lib.hid (show decide (s ∈ RL) = false from dec_false (fun h => by
              obtain ⟨_, u, hu, _⟩ := hq h
              simp [vnext, hw, h3, hr, (show ¬ getD z m = 3 from h3 ▸ hzs)] at hu))
            have hzsb : (getD z m != getD s m) = true := by simpa using hzs
            have h4b : (getD s m == 4) = false := by simpa using h4
            have h3b : (getD s m == 3) = true := by simpa using h3
            clear h4 h3 hq hw
            clear hzs
            go_wp2_with (first | (go_at_call 31; go_must ((with_reducible refine (W _).mono ?_); rintro e w3 ⟨rfl, hb⟩; have hS3 := hS.below hb hS.lt; have hT3 := hT.below hb hT.lt; have hB3 := Lib.hid (hbr.trans (hb.mono hzr)); have hz3 := hT3.lt; clear hb hS hT k0 k1 k2 k3 k4 k5 k6 k7 k8 k9 k10 k11 fk m0 m1 m2 m3 m4 m5 m6 m7 m8 m9 m10 m11 fm; obtain ⟨m0, m1, m2, m3, m4, m5, m6, m7, m8, m9, m10, m11⟩ := (hT3).cells12; have fm := (hT3).f; have hdS := Box.dD (o := o) (s := s) (hS3) m hm; have HS3 := Lib.hid hS3; have HT3 := Lib.hid hT3; clear hS3 hT3)) | (go_at_call 50; go_must ((with_reducible refine (P _).mono ?_); rintro e w4 ⟨rfl, hb⟩; have hS4 := HS3.out.below hb HS3.out.lt; have hT4 := HT3.out.below hb HT3.out.lt; have hB4 := Lib.hid (hB3.out.trans (hb.mono (Nat.le_of_lt hz3))); clear hb m0 m1 m2 m3 m4 m5 m6 m7 m8 m9 m10 m11 fm hdS; obtain ⟨m0, m1, m2, m3, m4, m5, m6, m7, m8, m9, m10, m11⟩ := (hT4).cells12; have fm := (hT4).f; have HS4 := Lib.hid hS4; have HT4 := Lib.hid hT4; clear hS4 hT4)))
            have hT5 := HT4.out.put12 (.int .i64 o.id) (.string ⟨o.ref.toArray⟩) (.string ⟨o.sku.toArray⟩) (.int .i64 o.qty) (.int .i64 o.amt) (.int .i64 z.a) (.int .i64 z.b) (.int .i64 z.c) (.int .i64 z.d) (.int .i64 z.e) (.int .i64 z.f) (.bool z.x)
            have hS5 := HS4.out.keep12 (T := w2.heap.size) (Nat.ne_of_gt hST) (.int .i64 o.id) (.string ⟨o.ref.toArray⟩) (.string ⟨o.sku.toArray⟩) (.int .i64 o.qty) (.int .i64 o.amt) (.int .i64 z.a) (.int .i64 z.b) (.int .i64 z.c) (.int .i64 z.d) (.int .i64 z.e) (.int .i64 z.f) (.bool z.x)
            have hB5 := below_put12 hB4.out (T := w2.heap.size) (Nat.le_refl _) (.int .i64 o.id) (.string ⟨o.ref.toArray⟩) (.string ⟨o.sku.toArray⟩) (.int .i64 o.qty) (.int .i64 o.amt) (.int .i64 z.a) (.int .i64 z.b) (.int .i64 z.c) (.int .i64 z.d) (.int .i64 z.e) (.int .i64 z.f) (.bool z.x)
            clear m0 m1 m2 m3 m4 m5 m6 m7 m8 m9 m10 m11 fm
            obtain ⟨w5, hW5⟩ : ∃ w5, w5 = (World.setCell (World.setCell (World.setCell (World.setCell (World.setCell (World.setCell (World.setCell (World.setCell (World.setCell (World.setCell (World.setCell (World.setCell w4 ⟨w2.heap.size, 0, none⟩ (.int .i64 o.id)) ⟨w2.heap.size, 1, none⟩ (.string ⟨o.ref.toArray⟩)) ⟨w2.heap.size, 2, none⟩ (.string ⟨o.sku.toArray⟩)) ⟨w2.heap.size, 3, none⟩ (.int .i64 o.qty)) ⟨w2.heap.size, 4, none⟩ (.int .i64 o.amt)) ⟨w2.heap.size, 5, none⟩ (.int .i64 z.a)) ⟨w2.heap.size, 6, none⟩ (.int .i64 z.b)) ⟨w2.heap.size, 7, none⟩ (.int .i64 z.c)) ⟨w2.heap.size, 8, none⟩ (.int .i64 z.d)) ⟨w2.heap.size, 9, none⟩ (.int .i64 z.e)) ⟨w2.heap.size, 10, none⟩ (.int .i64 z.f)) ⟨w2.heap.size, 11, none⟩ (.bool z.x)) := ⟨_, rfl⟩
            rw [← hW5] at hT5 hS5 hB5 ⊢
            clear hW5
            have hz5 := hT5.lt
            have hdT := Box.dD (o := o) (s := z) hT5 m hm
            have hdS := Box.dD (o := o) (s := s) hS5 m hm
            have hs5 := hS5.lt
            have HT5 := Lib.hid hT5
            have HB5 := Lib.hid hB5
            clear hT5 hS5 hB5
            refine region_later (by kernel_rfl) (by kernel_rfl) ?_
            repeat (first | go_big_quiet_step (fail) | quiet_step (fail))
            refine wpQuiet_nil ?_
            intro w1 hb
            obtain ⟨hc, hf⟩ := bcell hb
            go_wp2_with fail
            go_ret
            exact ⟨by rw [HQ.out, HN.out]; rfl, HBW.out.trans (HB5.out.trans (hb.mono (Nat.le_of_lt hz5)) |>.mono (Nat.le_of_lt hST))⟩
      · have P := fun w => reply_any o t (m : Int) 1 w
        cases hr : replyOf t (m : Int) 1 with
        | none =>
          rw [hr] at P
          simp only [stopV, replyV, noneV, sagaV] at P
          have HN := Lib.hid (show decide (s ∈ RL) = false from dec_false (fun h => by
            obtain ⟨_, u, hu, _⟩ := hq h
            simp [vnext, hw, h4, h3, hr] at hu))
          have h4b : (getD s m == 4) = false := by simpa using h4
          have h3b : (getD s m == 3) = false := by simpa using h3
          clear h4 h3 hq hw
          go_wp2_with (first | (go_at_call 31; go_must ((with_reducible refine (W _).mono ?_); rintro e w3 ⟨rfl, hb⟩; have hS3 := hS.below hb hS.lt; have hT3 := hT.below hb hT.lt; have hB3 := Lib.hid (hbr.trans (hb.mono hzr)); have hz3 := hT3.lt; clear hb hS hT k0 k1 k2 k3 k4 k5 k6 k7 k8 k9 k10 k11 fk m0 m1 m2 m3 m4 m5 m6 m7 m8 m9 m10 m11 fm; obtain ⟨m0, m1, m2, m3, m4, m5, m6, m7, m8, m9, m10, m11⟩ := (hT3).cells12; have fm := (hT3).f; have hdS := Box.dD (o := o) (s := s) (hS3) m hm; have HS3 := Lib.hid hS3; have HT3 := Lib.hid hT3; clear hS3 hT3)) | (go_at_call 50; go_must ((with_reducible refine (P _).mono ?_); rintro e w4 ⟨rfl, hb⟩; have hS4 := HS3.out.below hb HS3.out.lt; have hT4 := HT3.out.below hb HT3.out.lt; have hB4 := Lib.hid (hB3.out.trans (hb.mono (Nat.le_of_lt hz3))); clear hb m0 m1 m2 m3 m4 m5 m6 m7 m8 m9 m10 m11 fm hdS; obtain ⟨m0, m1, m2, m3, m4, m5, m6, m7, m8, m9, m10, m11⟩ := (hT4).cells12; have fm := (hT4).f; have HS4 := Lib.hid hS4; have HT4 := Lib.hid hT4; clear hS4 hT4)))
          have hT5 := HT4.out.put12 (.int .i64 0) (.string ⟨#[]⟩) (.string ⟨#[]⟩) (.int .i64 0) (.int .i64 0) (.int .i64 0) (.int .i64 0) (.int .i64 0) (.int .i64 0) (.int .i64 0) (.int .i64 0) (.bool false)
          have hS5 := HS4.out.keep12 (T := w2.heap.size) (Nat.ne_of_gt hST) (.int .i64 0) (.string ⟨#[]⟩) (.string ⟨#[]⟩) (.int .i64 0) (.int .i64 0) (.int .i64 0) (.int .i64 0) (.int .i64 0) (.int .i64 0) (.int .i64 0) (.int .i64 0) (.bool false)
          have hB5 := below_put12 hB4.out (T := w2.heap.size) (Nat.le_refl _) (.int .i64 0) (.string ⟨#[]⟩) (.string ⟨#[]⟩) (.int .i64 0) (.int .i64 0) (.int .i64 0) (.int .i64 0) (.int .i64 0) (.int .i64 0) (.int .i64 0) (.int .i64 0) (.bool false)
          clear m0 m1 m2 m3 m4 m5 m6 m7 m8 m9 m10 m11 fm
          obtain ⟨w5, hW5⟩ : ∃ w5, w5 = (World.setCell (World.setCell (World.setCell (World.setCell (World.setCell (World.setCell (World.setCell (World.setCell (World.setCell (World.setCell (World.setCell (World.setCell w4 ⟨w2.heap.size, 0, none⟩ (.int .i64 0)) ⟨w2.heap.size, 1, none⟩ (.string ⟨#[]⟩)) ⟨w2.heap.size, 2, none⟩ (.string ⟨#[]⟩)) ⟨w2.heap.size, 3, none⟩ (.int .i64 0)) ⟨w2.heap.size, 4, none⟩ (.int .i64 0)) ⟨w2.heap.size, 5, none⟩ (.int .i64 0)) ⟨w2.heap.size, 6, none⟩ (.int .i64 0)) ⟨w2.heap.size, 7, none⟩ (.int .i64 0)) ⟨w2.heap.size, 8, none⟩ (.int .i64 0)) ⟨w2.heap.size, 9, none⟩ (.int .i64 0)) ⟨w2.heap.size, 10, none⟩ (.int .i64 0)) ⟨w2.heap.size, 11, none⟩ (.bool false)) := ⟨_, rfl⟩
          rw [← hW5] at hT5 hS5 hB5 ⊢
          clear hW5
          have hz5 := hT5.lt
          have hdT : w5.cell? ⟨w2.heap.size, 5 + m, none⟩ = some (.int .i64 0) := Box.dD (o := ⟨0, [], [], 0, 0⟩) (s := ⟨0, 0, 0, 0, 0, 0, false⟩) hT5 m hm |>.trans (by rw [getD_zero])
          have hdS := Box.dD (o := o) (s := s) hS5 m hm
          have hs5 := hS5.lt
          have HT5 := Lib.hid hT5
          have HB5 := Lib.hid hB5
          clear hT5 hS5 hB5
          refine region_later (by kernel_rfl) (by kernel_rfl) ?_
          repeat (first | go_big_quiet_step (fail) | quiet_step (fail))
          refine wpQuiet_nil ?_
          intro w1 hb
          obtain ⟨hc, hf⟩ := bcell hb
          go_wp2_with fail
          go_ret
          exact ⟨by rw [HQ.out, HN.out]; rfl, HBW.out.trans (HB5.out.trans (hb.mono (Nat.le_of_lt hz5)) |>.mono (Nat.le_of_lt hST))⟩
        | some z =>
          rw [hr] at P
          simp only [stopV, replyV, sagaV] at P
          obtain ⟨hzR, hz1, hz2⟩ := ways_ok t htR _ (show replyOf t (m : Int) 1 ∈ ways t by simp [ways, hw]) z hr
          by_cases hzs : getD z m = getD s m
          · have hv : vnext s t = some z := by simp [vnext, hw, h4, h3, hr, hzs]
            have HP := Lib.hid (show s ∈ RL → onPath s z = true from fun h => by
              obtain ⟨_, u, hu, hp⟩ := hq h
              rw [hv] at hu
              cases hu
              exact hp)
            have hzsb : (getD z m != getD s m) = false := by simpa using hzs
            have h4b : (getD s m == 4) = false := by simpa using h4
            have h3b : (getD s m == 3) = false := by simpa using h3
            clear h4 h3 hq hw
            clear hzs hv
            go_wp2_with (first | (go_at_call 31; go_must ((with_reducible refine (W _).mono ?_); rintro e w3 ⟨rfl, hb⟩; have hS3 := hS.below hb hS.lt; have hT3 := hT.below hb hT.lt; have hB3 := Lib.hid (hbr.trans (hb.mono hzr)); have hz3 := hT3.lt; clear hb hS hT k0 k1 k2 k3 k4 k5 k6 k7 k8 k9 k10 k11 fk m0 m1 m2 m3 m4 m5 m6 m7 m8 m9 m10 m11 fm; obtain ⟨m0, m1, m2, m3, m4, m5, m6, m7, m8, m9, m10, m11⟩ := (hT3).cells12; have fm := (hT3).f; have hdS := Box.dD (o := o) (s := s) (hS3) m hm; have HS3 := Lib.hid hS3; have HT3 := Lib.hid hT3; clear hS3 hT3)) | (go_at_call 50; go_must ((with_reducible refine (P _).mono ?_); rintro e w4 ⟨rfl, hb⟩; have hS4 := HS3.out.below hb HS3.out.lt; have hT4 := HT3.out.below hb HT3.out.lt; have hB4 := Lib.hid (hB3.out.trans (hb.mono (Nat.le_of_lt hz3))); clear hb m0 m1 m2 m3 m4 m5 m6 m7 m8 m9 m10 m11 fm hdS; obtain ⟨m0, m1, m2, m3, m4, m5, m6, m7, m8, m9, m10, m11⟩ := (hT4).cells12; have fm := (hT4).f; have HS4 := Lib.hid hS4; have HT4 := Lib.hid hT4; clear hS4 hT4)))
            have hT5 := HT4.out.put12 (.int .i64 o.id) (.string ⟨o.ref.toArray⟩) (.string ⟨o.sku.toArray⟩) (.int .i64 o.qty) (.int .i64 o.amt) (.int .i64 z.a) (.int .i64 z.b) (.int .i64 z.c) (.int .i64 z.d) (.int .i64 z.e) (.int .i64 z.f) (.bool z.x)
            have hS5 := HS4.out.keep12 (T := w2.heap.size) (Nat.ne_of_gt hST) (.int .i64 o.id) (.string ⟨o.ref.toArray⟩) (.string ⟨o.sku.toArray⟩) (.int .i64 o.qty) (.int .i64 o.amt) (.int .i64 z.a) (.int .i64 z.b) (.int .i64 z.c) (.int .i64 z.d) (.int .i64 z.e) (.int .i64 z.f) (.bool z.x)
            have hB5 := below_put12 hB4.out (T := w2.heap.size) (Nat.le_refl _) (.int .i64 o.id) (.string ⟨o.ref.toArray⟩) (.string ⟨o.sku.toArray⟩) (.int .i64 o.qty) (.int .i64 o.amt) (.int .i64 z.a) (.int .i64 z.b) (.int .i64 z.c) (.int .i64 z.d) (.int .i64 z.e) (.int .i64 z.f) (.bool z.x)
            clear m0 m1 m2 m3 m4 m5 m6 m7 m8 m9 m10 m11 fm
            obtain ⟨w5, hW5⟩ : ∃ w5, w5 = (World.setCell (World.setCell (World.setCell (World.setCell (World.setCell (World.setCell (World.setCell (World.setCell (World.setCell (World.setCell (World.setCell (World.setCell w4 ⟨w2.heap.size, 0, none⟩ (.int .i64 o.id)) ⟨w2.heap.size, 1, none⟩ (.string ⟨o.ref.toArray⟩)) ⟨w2.heap.size, 2, none⟩ (.string ⟨o.sku.toArray⟩)) ⟨w2.heap.size, 3, none⟩ (.int .i64 o.qty)) ⟨w2.heap.size, 4, none⟩ (.int .i64 o.amt)) ⟨w2.heap.size, 5, none⟩ (.int .i64 z.a)) ⟨w2.heap.size, 6, none⟩ (.int .i64 z.b)) ⟨w2.heap.size, 7, none⟩ (.int .i64 z.c)) ⟨w2.heap.size, 8, none⟩ (.int .i64 z.d)) ⟨w2.heap.size, 9, none⟩ (.int .i64 z.e)) ⟨w2.heap.size, 10, none⟩ (.int .i64 z.f)) ⟨w2.heap.size, 11, none⟩ (.bool z.x)) := ⟨_, rfl⟩
            rw [← hW5] at hT5 hS5 hB5 ⊢
            clear hW5
            have hz5 := hT5.lt
            have hdT := Box.dD (o := o) (s := z) hT5 m hm
            have hdS := Box.dD (o := o) (s := s) hS5 m hm
            have hs5 := hS5.lt
            have HT5 := Lib.hid hT5
            have HB5 := Lib.hid hB5
            clear hT5 hS5 hB5
            refine region_later (by kernel_rfl) (by kernel_rfl) ?_
            repeat (first | go_big_quiet_step (fail) | quiet_step (fail))
            refine wpQuiet_nil ?_
            intro w1 hb
            obtain ⟨hc, hf⟩ := bcell hb
            go_wp2_with fail
            go_roundg (12 - rank z)
            case measure => omega
            case rel => exact ⟨z, hzR, HP.out, rfl, HB5.out.trans (hb.mono (Nat.le_of_lt hz5)), HT5.out.below hb hz5⟩
          · have HN := Lib.hid (show decide (s ∈ RL) = false from dec_false (fun h => by
              obtain ⟨_, u, hu, _⟩ := hq h
              simp [vnext, hw, h4, h3, hr, hzs] at hu))
            have hzsb : (getD z m != getD s m) = true := by simpa using hzs
            have h4b : (getD s m == 4) = false := by simpa using h4
            have h3b : (getD s m == 3) = false := by simpa using h3
            clear h4 h3 hq hw
            clear hzs
            go_wp2_with (first | (go_at_call 31; go_must ((with_reducible refine (W _).mono ?_); rintro e w3 ⟨rfl, hb⟩; have hS3 := hS.below hb hS.lt; have hT3 := hT.below hb hT.lt; have hB3 := Lib.hid (hbr.trans (hb.mono hzr)); have hz3 := hT3.lt; clear hb hS hT k0 k1 k2 k3 k4 k5 k6 k7 k8 k9 k10 k11 fk m0 m1 m2 m3 m4 m5 m6 m7 m8 m9 m10 m11 fm; obtain ⟨m0, m1, m2, m3, m4, m5, m6, m7, m8, m9, m10, m11⟩ := (hT3).cells12; have fm := (hT3).f; have hdS := Box.dD (o := o) (s := s) (hS3) m hm; have HS3 := Lib.hid hS3; have HT3 := Lib.hid hT3; clear hS3 hT3)) | (go_at_call 50; go_must ((with_reducible refine (P _).mono ?_); rintro e w4 ⟨rfl, hb⟩; have hS4 := HS3.out.below hb HS3.out.lt; have hT4 := HT3.out.below hb HT3.out.lt; have hB4 := Lib.hid (hB3.out.trans (hb.mono (Nat.le_of_lt hz3))); clear hb m0 m1 m2 m3 m4 m5 m6 m7 m8 m9 m10 m11 fm hdS; obtain ⟨m0, m1, m2, m3, m4, m5, m6, m7, m8, m9, m10, m11⟩ := (hT4).cells12; have fm := (hT4).f; have HS4 := Lib.hid hS4; have HT4 := Lib.hid hT4; clear hS4 hT4)))
            have hT5 := HT4.out.put12 (.int .i64 o.id) (.string ⟨o.ref.toArray⟩) (.string ⟨o.sku.toArray⟩) (.int .i64 o.qty) (.int .i64 o.amt) (.int .i64 z.a) (.int .i64 z.b) (.int .i64 z.c) (.int .i64 z.d) (.int .i64 z.e) (.int .i64 z.f) (.bool z.x)
            have hS5 := HS4.out.keep12 (T := w2.heap.size) (Nat.ne_of_gt hST) (.int .i64 o.id) (.string ⟨o.ref.toArray⟩) (.string ⟨o.sku.toArray⟩) (.int .i64 o.qty) (.int .i64 o.amt) (.int .i64 z.a) (.int .i64 z.b) (.int .i64 z.c) (.int .i64 z.d) (.int .i64 z.e) (.int .i64 z.f) (.bool z.x)
            have hB5 := below_put12 hB4.out (T := w2.heap.size) (Nat.le_refl _) (.int .i64 o.id) (.string ⟨o.ref.toArray⟩) (.string ⟨o.sku.toArray⟩) (.int .i64 o.qty) (.int .i64 o.amt) (.int .i64 z.a) (.int .i64 z.b) (.int .i64 z.c) (.int .i64 z.d) (.int .i64 z.e) (.int .i64 z.f) (.bool z.x)
            clear m0 m1 m2 m3 m4 m5 m6 m7 m8 m9 m10 m11 fm
            obtain ⟨w5, hW5⟩ : ∃ w5, w5 = (World.setCell (World.setCell (World.setCell (World.setCell (World.setCell (World.setCell (World.setCell (World.setCell (World.setCell (World.setCell (World.setCell (World.setCell w4 ⟨w2.heap.size, 0, none⟩ (.int .i64 o.id)) ⟨w2.heap.size, 1, none⟩ (.string ⟨o.ref.toArray⟩)) ⟨w2.heap.size, 2, none⟩ (.string ⟨o.sku.toArray⟩)) ⟨w2.heap.size, 3, none⟩ (.int .i64 o.qty)) ⟨w2.heap.size, 4, none⟩ (.int .i64 o.amt)) ⟨w2.heap.size, 5, none⟩ (.int .i64 z.a)) ⟨w2.heap.size, 6, none⟩ (.int .i64 z.b)) ⟨w2.heap.size, 7, none⟩ (.int .i64 z.c)) ⟨w2.heap.size, 8, none⟩ (.int .i64 z.d)) ⟨w2.heap.size, 9, none⟩ (.int .i64 z.e)) ⟨w2.heap.size, 10, none⟩ (.int .i64 z.f)) ⟨w2.heap.size, 11, none⟩ (.bool z.x)) := ⟨_, rfl⟩
            rw [← hW5] at hT5 hS5 hB5 ⊢
            clear hW5
            have hz5 := hT5.lt
            have hdT := Box.dD (o := o) (s := z) hT5 m hm
            have hdS := Box.dD (o := o) (s := s) hS5 m hm
            have hs5 := hS5.lt
            have HT5 := Lib.hid hT5
            have HB5 := Lib.hid hB5
            clear hT5 hS5 hB5
            refine region_later (by kernel_rfl) (by kernel_rfl) ?_
            repeat (first | go_big_quiet_step (fail) | quiet_step (fail))
            refine wpQuiet_nil ?_
            intro w1 hb
            obtain ⟨hc, hf⟩ := bcell hb
            go_wp2_with fail
            go_ret
            exact ⟨by rw [HQ.out, HN.out]; rfl, HBW.out.trans (HB5.out.trans (hb.mono (Nat.le_of_lt hz5)) |>.mono (Nat.le_of_lt hST))⟩
end Go.Proofs.YtlfphfklcifgpaaDoor
