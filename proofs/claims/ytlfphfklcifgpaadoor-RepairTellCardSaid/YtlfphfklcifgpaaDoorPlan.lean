/-
  Which deeds are asked for again, by walking both texts; conditions: the sagas lie in memory, the table of parties as laid.
-/
import Derived.Test.YtlfphfklcifgpaaDoorSagaA
import Derived.Test.YtlfphfklcifgpaaDoorKeys
import Derived.Test.YtlfphfklcifgpaaDoorDeep
import Derived.Test.YtlfphfklcifgpaaDoorOwn
namespace Go.Proofs.YtlfphfklcifgpaaDoor
open Go.RowKit Go.Own

def sagaL (x : OrdS × D6) : List Value := [.int .i64 x.1.id, .string ⟨x.1.ref.toArray⟩, .string ⟨x.1.sku.toArray⟩, .int .i64 x.1.qty, .int .i64 x.1.amt,
  .int .i64 x.2.a, .int .i64 x.2.b, .int .i64 x.2.c, .int .i64 x.2.d, .int .i64 x.2.e, .int .i64 x.2.f, .bool x.2.x]
def keyL (x : Int × Int) : List Value := [.int .i64 x.1, .int .i64 x.2]
def planAdd (x : OrdS × D6) (party : Int) : List (Int × Int) := if (waitsOf x.2).2 = true ∧ keyOk x.1.id (waitsOf x.2).1 = true ∧ partyOf (waitsOf x.2).1 = party then [(x.1.id, (waitsOf x.2).1)] else []
def planOf (L : List (OrdS × D6)) (party : Int) : List (Int × Int) := (L.map fun x => planAdd x party).flatten
theorem planOf_step {L : List (OrdS × D6)} {party : Int} {j : Nat} (h : j < L.length) : planOf (L.take (j + 1)) party = planOf (L.take j) party ++ planAdd L[j] party := by
  unfold planOf
  rw [List.take_succ_eq_append_getElem h, List.map_append, List.flatten_append]
  simp
theorem planOf_len (L : List (OrdS × D6)) (party : Int) : (planOf L party).length ≤ L.length := by
  induction L with
  | nil => simp [planOf]
  | cons x L ih =>
    unfold planOf at ih ⊢
    rw [List.map_cons, List.flatten_cons, List.length_append, List.length_cons]
    have : (planAdd x party).length ≤ 1 := by unfold planAdd; split <;> simp
    omega
theorem infoKey : (Tryd.prog.info? 43).map (fun i => (i.zero, i.size, i.bytes)) = some (some (.agg #[.int .i64 0, .int .i64 0]), 2, 16) := by kernel_rfl
/-- A call that hands back keys, in memory of its own. -/
def Keys (w : World) (K : List (Int × Int)) (e : Ending) (w' : World) : Prop := ∃ v, e = .returned v ∧ IsL w' 2 v (K.map keyL) ∧ Below w.heap.size w w' ∧ Fresh w v
theorem fresh_of_owns {w w' : World} {base e k n : Nat} {v : Value} {xs : List Value} (h : w'.ownsRow base e k v n xs) (hb : w.heap.size ≤ base) : Fresh w v := by
  intro a n' c hv hn
  rcases h.2 with ⟨h1, _⟩ | ⟨g, cap, cur, h1, hg, _⟩
  · rw [hv] at h1; cases h1
  · rw [hv] at h1; cases h1; exact Nat.le_trans hb hg

set_option maxHeartbeats 8000000 in
set_option maxRecDepth 100000 in
theorem plan_any {w : World} {v : Value} {L : List (OrdS × D6)} (party : Int) (h : IsL w 12 v (L.map sagaL)) (hL : Laid w) (hl : L.length ≤ 1000) :
    Calls Tryd.prog 26 #[v, .int .i64 party] w (Keys w (planOf L party)) := by
  have hpos : 0 < w.heap.size ∨ L = [] := by
    by_cases h0 : L = []
    · exact .inr h0
    · obtain ⟨a, cap, _, _, _, hR⟩ := h.at (by simp; exact List.length_pos_iff.2 h0)
      exact .inl (by have := hR.lt; omega)
  obtain ⟨sp, sc, rfl, _⟩ := h.slice
  have HH := Lib.hid h
  clear h
  simp only [List.length_map] at HH ⊢
  have hmx : (L.length : Int) ≤ 1000 := by omega
  have HL := Lib.hid hL
  clear hL hpos
  have hpos : 0 < w.heap.size := HL.out.1
  go_enter Tryd.func26, Tryd.ntmps26
  go_wp2_with fail
  go_loopw [5, 13] (fun v k wr => ∃ j : Nat, j ≤ L.length ∧ k = .int .i64 (j : Int) ∧ wr.ownsRow w.heap.size 43 2 v (planOf (L.take j) party).length ((planOf (L.take j) party).map keyL).flatten ∧ Below w.heap.size w wr) (fun _ k _ => (L.length - (intOf k).toNat))
  case atStart => exact ⟨0, by omega, rfl, World.ownsRow_nil _ _ _ _, (by with_reducible (repeat (first | assumption | exact Below.refl _ _ | refine Below.drew ?_ | refine below_drewN ?_ _ | refine Below.alloc ?_ (by first | (simp; done) | omega | (simp; omega)) _ | refine Below.setCell ?_ (by first | (simp; done) | omega | (simp; omega)) _ | refine Below.trans ?_ (Below.mono (by assumption) (by first | (simp; done) | omega | (simp; omega))))))⟩
  case round =>
    obtain ⟨j, hj, rfl, hown, hbw⟩ := hrel
    have hzr := hbw.size
    by_cases hjl : j = L.length
    · have HR := Lib.hid (show IsL wr 2 _ ((planOf L party).map keyL) from isL_of_owns (fun l hl => by obtain ⟨x, _, rfl⟩ := List.mem_map.1 hl; rfl) (by rw [List.take_of_length_le (by omega)] at hown; simpa using hown))
      have HFr := Lib.hid (fresh_of_owns hown (Nat.le_refl _))
      subst hjl
      obtain ⟨g, c, rfl⟩ := sliceL_of_owns hown
      clear hown
      go_wp2_with fail
      go_ret
      exact ⟨_, rfl, HR.out, hbw, HFr.out⟩
    · have hj1 : j < L.length := by omega
      have hj2 : (j : Int) < (L.length : Int) := by omega
      obtain ⟨a, cap, hv, hlen, hcap, hR⟩ := HH.out.at (by simp; omega)
      simp only [List.length_map] at hv hlen
      obtain ⟨rfl, -, rfl⟩ : sp = some a ∧ L.length = L.length ∧ sc = cap := by simpa using hv
      have hRr := hR.below hbw hR.lt
      have hb0 : (a.add (j * 12)).block < wr.heap.size := hRr.lt' _
      have hposr : 0 < wr.heap.size := by omega
      have HS := Lib.hid (planOf_step (party := party) hj1)
      have hgj : (L.map sagaL)[j]'(by simpa using hj1) = sagaL L[j] := by simp
      have q0 := hRr.c0 j (by simpa using hj1) _ (by rw [hgj]; rfl)
      have q1 := hRr.cj j (by simpa using hj1) 0 _ (by rw [hgj]; rfl)
      have q2 := hRr.cj j (by simpa using hj1) 1 _ (by rw [hgj]; rfl)
      have q3 := hRr.cj j (by simpa using hj1) 2 _ (by rw [hgj]; rfl)
      have q4 := hRr.cj j (by simpa using hj1) 3 _ (by rw [hgj]; rfl)
      have q5 := hRr.cj j (by simpa using hj1) 4 _ (by rw [hgj]; rfl)
      have q6 := hRr.cj j (by simpa using hj1) 5 _ (by rw [hgj]; rfl)
      have q7 := hRr.cj j (by simpa using hj1) 6 _ (by rw [hgj]; rfl)
      have q8 := hRr.cj j (by simpa using hj1) 7 _ (by rw [hgj]; rfl)
      have q9 := hRr.cj j (by simpa using hj1) 8 _ (by rw [hgj]; rfl)
      have q10 := hRr.cj j (by simpa using hj1) 9 _ (by rw [hgj]; rfl)
      have q11 := hRr.cj j (by simpa using hj1) 10 _ (by rw [hgj]; rfl)
      clear hRr hR hv hgj
      generalize L[j] = os at *
      obtain ⟨o, s⟩ := os
      simp only [Nat.zero_add, Nat.reduceAdd] at q0 q1 q2 q3 q4 q5 q6 q7 q8 q9 q10 q11
      have HLr := Lib.hid (HL.out.below hbw hpos)
      have W := fun w => waits_any o s w
      simp only [sagaV] at W
      obtain ⟨gg, gc, rfl⟩ := sliceL_of_owns hown
      have hown0 := Lib.hid hown
      have hpl : (planOf (L.take j) party).length ≤ 1000 := Nat.le_trans (planOf_len _ _) (by simp; omega)
      clear hown
      have HC := Lib.hid (show planAdd (o, s) party = if (waitsOf s).2 = true ∧ keyOk o.id (waitsOf s).1 = true ∧ partyOf (waitsOf s).1 = party then [(o.id, (waitsOf s).1)] else [] from rfl)
      generalize waitsOf s = p at *
      obtain ⟨n, v⟩ := p
      simp only at W HC
      have C := fun w => keyCheck_any o.id n w
      have P := party_any n
      cases v
      · have HS := Lib.hid (HS.out.trans (show _ = planOf (L.take j) party by rw [HC.out]; simp))
        clear C P
        go_wp2_with (go_at_call 31; go_must ((with_reducible refine (W _).mono ?_); rintro e w1 ⟨rfl, hb⟩; have hz := hb.size; (try simp at hz); obtain ⟨hc, hf⟩ := bcell hb; have hzA : wr.heap.size < w1.heap.size := (by first | omega | (simp at hz; omega)); have HB1 := Lib.hid (show Below wr.heap.size wr w1 from (by with_reducible (repeat (first | assumption | exact Below.refl _ _ | refine Below.drew ?_ | refine below_drewN ?_ _ | refine Below.alloc ?_ (by first | (simp; done) | omega | (simp; omega)) _ | refine Below.setCell ?_ (by first | (simp; done) | omega | (simp; omega)) _ | refine Below.trans ?_ (Below.mono (by assumption) (by first | (simp; done) | omega | (simp; omega))))))); clear hb))
        go_roundw
        case rel => exact ⟨j + 1, by omega, by go_num, by rw [HS.out]; exact ownsL_below hown0.out (show Below wr.heap.size wr _ from (HB1.out.alloc HB1.out.size _)) (Nat.le_refl _), hbw.trans ((show Below wr.heap.size wr _ from (HB1.out.alloc HB1.out.size _)).mono hzr)⟩
        case measure => simp [intOf] <;> omega
      cases hk : keyOk o.id n
      · rw [hk] at C
        have HS := Lib.hid (HS.out.trans (show _ = planOf (L.take j) party by rw [HC.out]; simp [hk]))
        clear P hk
        go_wp2_with (first | (go_at_call 31; go_must ((with_reducible refine (W _).mono ?_); rintro e w1 ⟨rfl, hb⟩; have hz := hb.size; (try simp at hz); obtain ⟨hc, hf⟩ := bcell hb; have hzA : wr.heap.size < w1.heap.size := (by first | omega | (simp at hz; omega)); have HB1 := Lib.hid (show Below wr.heap.size wr w1 from (by with_reducible (repeat (first | assumption | exact Below.refl _ _ | refine Below.drew ?_ | refine below_drewN ?_ _ | refine Below.alloc ?_ (by first | (simp; done) | omega | (simp; omega)) _ | refine Below.setCell ?_ (by first | (simp; done) | omega | (simp; omega)) _ | refine Below.trans ?_ (Below.mono (by assumption) (by first | (simp; done) | omega | (simp; omega))))))); clear hb)) | (go_at_call 52; go_must ((with_reducible refine (C _).mono ?_); rintro e w2 ⟨rfl, hb⟩; have hz2 := hb.size; (try simp at hz2); obtain ⟨hc2, hf2⟩ := bcell hb; have hzB : w1.heap.size < w2.heap.size := (by first | omega | (simp at hz2; omega)); have HB2 := Lib.hid (HB1.out.trans (show Below wr.heap.size w1 w2 from Below.trans ((Below.refl _ _).alloc (Nat.le_trans HB1.out.size (Nat.le_refl _)) _) (hb.mono (by have := HB1.out.size; simp; omega)))); clear hb)))
        go_roundw
        case rel => exact ⟨j + 1, by omega, by go_num, by rw [HS.out]; exact ownsL_below hown0.out HB2.out (Nat.le_refl _), hbw.trans (HB2.out.mono hzr)⟩
        case measure => simp [intOf] <;> omega
      rw [hk] at C
      by_cases hp : partyOf n = party
      rotate_left
      · have HS := Lib.hid (HS.out.trans (show _ = planOf (L.take j) party by rw [HC.out]; simp [hp]))
        generalize partyOf n = q at *
        have hpb : (q == party) = false := by simpa using hp
        clear hp hk
        go_wp2_with (first | (go_at_call 31; go_must ((with_reducible refine (W _).mono ?_); rintro e w1 ⟨rfl, hb⟩; have hz := hb.size; (try simp at hz); obtain ⟨hc, hf⟩ := bcell hb; have hzA : wr.heap.size < w1.heap.size := (by first | omega | (simp at hz; omega)); have HB1 := Lib.hid (show Below wr.heap.size wr w1 from (by with_reducible (repeat (first | assumption | exact Below.refl _ _ | refine Below.drew ?_ | refine below_drewN ?_ _ | refine Below.alloc ?_ (by first | (simp; done) | omega | (simp; omega)) _ | refine Below.setCell ?_ (by first | (simp; done) | omega | (simp; omega)) _ | refine Below.trans ?_ (Below.mono (by assumption) (by first | (simp; done) | omega | (simp; omega))))))); clear hb)) | (go_at_call 52; go_must ((with_reducible refine (C _).mono ?_); rintro e w2 ⟨rfl, hb⟩; have hz2 := hb.size; (try simp at hz2); obtain ⟨hc2, hf2⟩ := bcell hb; have hzB : w1.heap.size < w2.heap.size := (by first | omega | (simp at hz2; omega)); have HB2 := Lib.hid (HB1.out.trans (show Below wr.heap.size w1 w2 from Below.trans ((Below.refl _ _).alloc (Nat.le_trans HB1.out.size (Nat.le_refl _)) _) (hb.mono (by have := HB1.out.size; simp; omega)))); clear hb)) | (go_at_call 53; go_must ((with_reducible refine (P _ (by exact HLr.out.below HB2.out hposr)).mono ?_); rintro e w3 ⟨rfl, hb⟩; have hz3 := hb.size; obtain ⟨hc3, hf3⟩ := bcell hb; have hzC : w1.heap.size < w3.heap.size := (by omega); have HB3 := Lib.hid (HB2.out.trans (hb.mono HB2.out.size)); clear hb)))
        go_roundw
        case rel => exact ⟨j + 1, by omega, by go_num, by rw [HS.out]; exact ownsL_below hown0.out HB3.out (Nat.le_refl _), hbw.trans (HB3.out.mono hzr)⟩
        case measure => simp [intOf] <;> omega
      · have HS := Lib.hid (HS.out.trans (show _ = planOf (L.take j) party ++ [(o.id, n)] by rw [HC.out]; simp [hp, hk]))
        have hpb : (partyOf n == party) = true := by simpa using hp
        clear hp hk
        go_wp2_with (first | (go_at_call 31; go_must ((with_reducible refine (W _).mono ?_); rintro e w1 ⟨rfl, hb⟩; have hz := hb.size; (try simp at hz); obtain ⟨hc, hf⟩ := bcell hb; have hzA : wr.heap.size < w1.heap.size := (by first | omega | (simp at hz; omega)); have HB1 := Lib.hid (show Below wr.heap.size wr w1 from (by with_reducible (repeat (first | assumption | exact Below.refl _ _ | refine Below.drew ?_ | refine below_drewN ?_ _ | refine Below.alloc ?_ (by first | (simp; done) | omega | (simp; omega)) _ | refine Below.setCell ?_ (by first | (simp; done) | omega | (simp; omega)) _ | refine Below.trans ?_ (Below.mono (by assumption) (by first | (simp; done) | omega | (simp; omega))))))); clear hb)) | (go_at_call 52; go_must ((with_reducible refine (C _).mono ?_); rintro e w2 ⟨rfl, hb⟩; have hz2 := hb.size; (try simp at hz2); obtain ⟨hc2, hf2⟩ := bcell hb; have hzB : w1.heap.size < w2.heap.size := (by first | omega | (simp at hz2; omega)); have HB2 := Lib.hid (HB1.out.trans (show Below wr.heap.size w1 w2 from Below.trans ((Below.refl _ _).alloc (Nat.le_trans HB1.out.size (Nat.le_refl _)) _) (hb.mono (by have := HB1.out.size; simp; omega)))); clear hb)) | (go_at_call 53; go_must ((with_reducible refine (P _ (by exact HLr.out.below HB2.out hposr)).mono ?_); rintro e w3 ⟨rfl, hb⟩; have hz3 := hb.size; obtain ⟨hc3, hf3⟩ := bcell hb; have hzC : w1.heap.size < w3.heap.size := (by omega); have HB3 := Lib.hid (HB2.out.trans (hb.mono HB2.out.size)); clear hb)) | (at_builtin; go_must (refine wpList_push rfl rfl Tryd.underlying57 infoKey rfl (by decide) (ownsL_below hown0.out HB3.out (Nat.le_refl _)) (hbw.trans (HB3.out.mono hzr)) (Nat.le_trans hzr HB3.out.size) rfl rfl rfl rfl ?c1 ?c2 ?_)))
        case c1 => unfold maxLen; omega
        case c2 => omega
        intro v' w' hown' hb' hnn
        go_wp2_with fail
        go_roundw
        case rel => exact ⟨j + 1, by omega, by go_num, by rw [HS.out]; simpa [keyL] using hown', hb'⟩
        case measure => simp [intOf] <;> omega

set_option maxHeartbeats 8000000 in
set_option maxRecDepth 100000 in
theorem refPlan_any {w : World} {v : Value} {L : List (OrdS × D6)} (party : Int) (h : IsL w 12 v (L.map sagaL)) (hl : L.length ≤ 1000) :
    Calls Tryd.prog 27 #[v, .int .i64 party] w (Keys w (planOf L party)) := by
  have hpos : 0 < w.heap.size ∨ L = [] := by
    by_cases h0 : L = []
    · exact .inr h0
    · obtain ⟨a, cap, _, _, _, hR⟩ := h.at (by simp; exact List.length_pos_iff.2 h0)
      exact .inl (by have := hR.lt; omega)
  obtain ⟨sp, sc, rfl, _⟩ := h.slice
  have HH := Lib.hid h
  clear h
  simp only [List.length_map] at HH ⊢
  have hmx : (L.length : Int) ≤ 1000 := by omega
  go_enter Tryd.func27, Tryd.ntmps27
  go_wp2_with fail
  go_loopw [5, 6] (fun v k wr => ∃ j : Nat, j ≤ L.length ∧ k = .int .i64 (j : Int) ∧ wr.ownsRow w.heap.size 43 2 v (planOf (L.take j) party).length ((planOf (L.take j) party).map keyL).flatten ∧ Below w.heap.size w wr) (fun _ k _ => (L.length - (intOf k).toNat))
  case atStart => exact ⟨0, by omega, rfl, World.ownsRow_nil _ _ _ _, (by with_reducible (repeat (first | assumption | exact Below.refl _ _ | refine Below.drew ?_ | refine below_drewN ?_ _ | refine Below.alloc ?_ (by first | (simp; done) | omega | (simp; omega)) _ | refine Below.setCell ?_ (by first | (simp; done) | omega | (simp; omega)) _ | refine Below.trans ?_ (Below.mono (by assumption) (by first | (simp; done) | omega | (simp; omega))))))⟩
  case round =>
    obtain ⟨j, hj, rfl, hown, hbw⟩ := hrel
    have hzr := hbw.size
    by_cases hjl : j = L.length
    · have HR := Lib.hid (show IsL wr 2 _ ((planOf L party).map keyL) from isL_of_owns (fun l hl => by obtain ⟨x, _, rfl⟩ := List.mem_map.1 hl; rfl) (by rw [List.take_of_length_le (by omega)] at hown; simpa using hown))
      have HFr := Lib.hid (fresh_of_owns hown (Nat.le_refl _))
      subst hjl
      obtain ⟨g, c, rfl⟩ := sliceL_of_owns hown
      clear hown
      go_wp2_with fail
      go_ret
      exact ⟨_, rfl, HR.out, hbw, HFr.out⟩
    · have hj1 : j < L.length := by omega
      have hj2 : (j : Int) < (L.length : Int) := by omega
      obtain ⟨a, cap, hv, hlen, hcap, hR⟩ := HH.out.at (by simp; omega)
      simp only [List.length_map] at hv hlen
      obtain ⟨rfl, -, rfl⟩ : sp = some a ∧ L.length = L.length ∧ sc = cap := by simpa using hv
      have hRr := hR.below hbw hR.lt
      have hb0 : (a.add (j * 12)).block < wr.heap.size := hRr.lt' _
      have hposr : 0 < wr.heap.size := by omega
      have HS := Lib.hid (planOf_step (party := party) hj1)
      have hgj : (L.map sagaL)[j]'(by simpa using hj1) = sagaL L[j] := by simp
      have q0 := hRr.c0 j (by simpa using hj1) _ (by rw [hgj]; rfl)
      have q1 := hRr.cj j (by simpa using hj1) 0 _ (by rw [hgj]; rfl)
      have q2 := hRr.cj j (by simpa using hj1) 1 _ (by rw [hgj]; rfl)
      have q3 := hRr.cj j (by simpa using hj1) 2 _ (by rw [hgj]; rfl)
      have q4 := hRr.cj j (by simpa using hj1) 3 _ (by rw [hgj]; rfl)
      have q5 := hRr.cj j (by simpa using hj1) 4 _ (by rw [hgj]; rfl)
      have q6 := hRr.cj j (by simpa using hj1) 5 _ (by rw [hgj]; rfl)
      have q7 := hRr.cj j (by simpa using hj1) 6 _ (by rw [hgj]; rfl)
      have q8 := hRr.cj j (by simpa using hj1) 7 _ (by rw [hgj]; rfl)
      have q9 := hRr.cj j (by simpa using hj1) 8 _ (by rw [hgj]; rfl)
      have q10 := hRr.cj j (by simpa using hj1) 9 _ (by rw [hgj]; rfl)
      have q11 := hRr.cj j (by simpa using hj1) 10 _ (by rw [hgj]; rfl)
      clear hRr hR hv hgj
      generalize L[j] = os at *
      obtain ⟨o, s⟩ := os
      simp only [Nat.zero_add, Nat.reduceAdd] at q0 q1 q2 q3 q4 q5 q6 q7 q8 q9 q10 q11
      have W := fun w => refWaits_any o s w
      simp only [sagaV] at W
      obtain ⟨gg, gc, rfl⟩ := sliceL_of_owns hown
      have hown0 := Lib.hid hown
      have hpl : (planOf (L.take j) party).length ≤ 1000 := Nat.le_trans (planOf_len _ _) (by simp; omega)
      clear hown
      have HC := Lib.hid (show planAdd (o, s) party = if (waitsOf s).2 = true ∧ keyOk o.id (waitsOf s).1 = true ∧ partyOf (waitsOf s).1 = party then [(o.id, (waitsOf s).1)] else [] from rfl)
      generalize waitsOf s = p at *
      obtain ⟨n, v⟩ := p
      simp only at W HC
      have C := fun w => refKeyCheck_any o.id n w
      have P := refParty_any n
      cases v
      · have HS := Lib.hid (HS.out.trans (show _ = planOf (L.take j) party by rw [HC.out]; simp))
        clear C P
        go_wp2_with (go_at_call 54; go_must ((with_reducible refine (W _).mono ?_); rintro e w1 ⟨rfl, hb⟩; have hz := hb.size; (try simp at hz); obtain ⟨hc, hf⟩ := bcell hb; have hcA := bcellL hb; have HB1 := Lib.hid (show Below wr.heap.size wr w1 from (by with_reducible (repeat (first | assumption | exact Below.refl _ _ | refine Below.drew ?_ | refine below_drewN ?_ _ | refine Below.alloc ?_ (by first | (simp; done) | omega | (simp; omega)) _ | refine Below.setCell ?_ (by first | (simp; done) | omega | (simp; omega)) _ | refine Below.trans ?_ (Below.mono (by assumption) (by first | (simp; done) | omega | (simp; omega))))))); clear hb))
        go_roundw
        case rel => exact ⟨j + 1, by omega, by go_num, by rw [HS.out]; exact ownsL_below hown0.out (show Below wr.heap.size wr _ from (HB1.out.alloc HB1.out.size _)) (Nat.le_refl _), hbw.trans ((show Below wr.heap.size wr _ from (HB1.out.alloc HB1.out.size _)).mono hzr)⟩
        case measure => simp [intOf] <;> omega
      cases hk : keyOk o.id n
      · rw [hk] at C
        have HS := Lib.hid (HS.out.trans (show _ = planOf (L.take j) party by rw [HC.out]; simp [hk]))
        clear P hk
        go_wp2_with (first | (go_at_call 54; go_must ((with_reducible refine (W _).mono ?_); rintro e w1 ⟨rfl, hb⟩; have hz := hb.size; (try simp at hz); obtain ⟨hc, hf⟩ := bcell hb; have hcA := bcellL hb; have HB1 := Lib.hid (show Below wr.heap.size wr w1 from (by with_reducible (repeat (first | assumption | exact Below.refl _ _ | refine Below.drew ?_ | refine below_drewN ?_ _ | refine Below.alloc ?_ (by first | (simp; done) | omega | (simp; omega)) _ | refine Below.setCell ?_ (by first | (simp; done) | omega | (simp; omega)) _ | refine Below.trans ?_ (Below.mono (by assumption) (by first | (simp; done) | omega | (simp; omega))))))); clear hb)) | (go_at_call 47; go_must ((with_reducible refine (C _).mono ?_); rintro e w2 ⟨rfl, hb⟩; have hz2 := hb.size; (try simp at hz2); obtain ⟨hc2, hf2⟩ := bcell hb; have hzB : w1.heap.size < w2.heap.size := (by first | omega | (simp at hz2; omega)); have HB2 := Lib.hid (HB1.out.trans (show Below wr.heap.size w1 w2 from Below.trans ((Below.refl _ _).alloc (Nat.le_trans HB1.out.size (Nat.le_refl _)) _) (hb.mono (by have := HB1.out.size; simp; omega)))); clear hb)))
        go_roundw
        case rel => exact ⟨j + 1, by omega, by go_num, by rw [HS.out]; exact ownsL_below hown0.out HB2.out (Nat.le_refl _), hbw.trans (HB2.out.mono hzr)⟩
        case measure => simp [intOf] <;> omega
      rw [hk] at C
      by_cases hp : partyOf n = party
      rotate_left
      · have HS := Lib.hid (HS.out.trans (show _ = planOf (L.take j) party by rw [HC.out]; simp [hp]))
        generalize partyOf n = q at *
        have hpb : (q == party) = false := by simpa using hp
        clear hp hk
        go_wp2_with (first | (go_at_call 54; go_must ((with_reducible refine (W _).mono ?_); rintro e w1 ⟨rfl, hb⟩; have hz := hb.size; (try simp at hz); obtain ⟨hc, hf⟩ := bcell hb; have hcA := bcellL hb; have HB1 := Lib.hid (show Below wr.heap.size wr w1 from (by with_reducible (repeat (first | assumption | exact Below.refl _ _ | refine Below.drew ?_ | refine below_drewN ?_ _ | refine Below.alloc ?_ (by first | (simp; done) | omega | (simp; omega)) _ | refine Below.setCell ?_ (by first | (simp; done) | omega | (simp; omega)) _ | refine Below.trans ?_ (Below.mono (by assumption) (by first | (simp; done) | omega | (simp; omega))))))); clear hb)) | (go_at_call 47; go_must ((with_reducible refine (C _).mono ?_); rintro e w2 ⟨rfl, hb⟩; have hz2 := hb.size; (try simp at hz2); obtain ⟨hc2, hf2⟩ := bcell hb; have hzB : w1.heap.size < w2.heap.size := (by first | omega | (simp at hz2; omega)); have HB2 := Lib.hid (HB1.out.trans (show Below wr.heap.size w1 w2 from Below.trans ((Below.refl _ _).alloc (Nat.le_trans HB1.out.size (Nat.le_refl _)) _) (hb.mono (by have := HB1.out.size; simp; omega)))); clear hb)) | (go_at_call 48; go_must ((with_reducible refine (P _).mono ?_); rintro e w3 ⟨rfl, hb⟩; have hz3 := hb.size; obtain ⟨hc3, hf3⟩ := bcell hb; have hzC : w1.heap.size < w3.heap.size := (by omega); have HB3 := Lib.hid (HB2.out.trans (hb.mono HB2.out.size)); clear hb)))
        go_roundw
        case rel => exact ⟨j + 1, by omega, by go_num, by rw [HS.out]; exact ownsL_below hown0.out HB3.out (Nat.le_refl _), hbw.trans (HB3.out.mono hzr)⟩
        case measure => simp [intOf] <;> omega
      · have HS := Lib.hid (HS.out.trans (show _ = planOf (L.take j) party ++ [(o.id, n)] by rw [HC.out]; simp [hp, hk]))
        have hpb : (partyOf n == party) = true := by simpa using hp
        clear hp hk
        go_wp2_with (first | (go_at_call 54; go_must ((with_reducible refine (W _).mono ?_); rintro e w1 ⟨rfl, hb⟩; have hz := hb.size; (try simp at hz); obtain ⟨hc, hf⟩ := bcell hb; have hcA := bcellL hb; have HB1 := Lib.hid (show Below wr.heap.size wr w1 from (by with_reducible (repeat (first | assumption | exact Below.refl _ _ | refine Below.drew ?_ | refine below_drewN ?_ _ | refine Below.alloc ?_ (by first | (simp; done) | omega | (simp; omega)) _ | refine Below.setCell ?_ (by first | (simp; done) | omega | (simp; omega)) _ | refine Below.trans ?_ (Below.mono (by assumption) (by first | (simp; done) | omega | (simp; omega))))))); clear hb)) | (go_at_call 47; go_must ((with_reducible refine (C _).mono ?_); rintro e w2 ⟨rfl, hb⟩; have hz2 := hb.size; (try simp at hz2); obtain ⟨hc2, hf2⟩ := bcell hb; have hzB : w1.heap.size < w2.heap.size := (by first | omega | (simp at hz2; omega)); have HB2 := Lib.hid (HB1.out.trans (show Below wr.heap.size w1 w2 from Below.trans ((Below.refl _ _).alloc (Nat.le_trans HB1.out.size (Nat.le_refl _)) _) (hb.mono (by have := HB1.out.size; simp; omega)))); clear hb)) | (go_at_call 48; go_must ((with_reducible refine (P _).mono ?_); rintro e w3 ⟨rfl, hb⟩; have hz3 := hb.size; obtain ⟨hc3, hf3⟩ := bcell hb; have hzC : w1.heap.size < w3.heap.size := (by omega); have HB3 := Lib.hid (HB2.out.trans (hb.mono HB2.out.size)); clear hb)) | (at_builtin; go_must (refine wpList_push rfl rfl Tryd.underlying57 infoKey rfl (by decide) (ownsL_below hown0.out HB3.out (Nat.le_refl _)) (hbw.trans (HB3.out.mono hzr)) (Nat.le_trans hzr HB3.out.size) rfl rfl rfl rfl ?c1 ?c2 ?_)))
        case c1 => unfold maxLen; omega
        case c2 => omega
        intro v' w' hown' hb' hnn
        go_wp2_with fail
        go_roundw
        case rel => exact ⟨j + 1, by omega, by go_num, by rw [HS.out]; simpa [keyL] using hown', hb'⟩
        case measure => simp [intOf] <;> omega
end Go.Proofs.YtlfphfklcifgpaaDoor
