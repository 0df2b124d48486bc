/-
  The fields of a line, by walking the program's text; conditions: the widths lie in memory, the line is of at most 5000 bytes more than may be.
-/
import Derived.Test.YtklommbknfpolaaDoorFixTrim
import Derived.Laws.IdiomStrings
namespace Go.Own
open Go.RowKit
theorem Own.base {W WB w : World} {L : List Ent} (hb : Below W.heap.size W WB) (h : Own WB w L) : Own W w L :=
  ⟨hb.trans (h.grown.mono hb.size), h.has, h.ok, h.lt, fun e he b hbb => Nat.le_trans hb.size (h.new e he b hbb), h.apart⟩
section
variable {P : Program} {ops : Array Oper} {rest : List Oper} {o : Oper} {a : Act} {W w : World} {Q : Exit → Act → World → Prop}
theorem wpList_bytesOf {src dst e : TypeId} {x : Operand} {s : ByteArray} (ho : o.op = .convert src dst x) (hx : a.eval x = .string s) (hs : P.underlying src = some .string) (hd : P.underlying dst = some (.slice e)) (he : P.underlying e = some (.int .u8)) (hsz : s.size ≤ maxLen)
    (hw : Region.wanted o (yielded ops a.tmps) = true) (h : ∀ b c w', Below w.heap.size w w' → b < w'.heap.size → (∀ j (hj : j < s.data.toList.length), w'.cell? ((⟨b, 0, none⟩ : Addr).add j) = some (.int .u8 (s.data.toList[j].toNat : Int))) → s.size ≤ c → c ≤ maxLen → wpList P ops Q rest (a.put o.dst (.slice (some ⟨b, 0, none⟩) s.size c)) w') : wpList P ops Q (o :: rest) a w := by
  have hr : (execOp a.eval o).run P w = .ok (.value (.slice (some ⟨w.heap.size, 0, none⟩) s.size (grownCap w s.size 0 e))) (w.drew.alloc (.cells (bytesRow s (grownCap w s.size 0 e)) e ((bytesRow s (grownCap w s.size 0 e)).size, (bytesRow s (grownCap w s.size 0 e)).size + 1))) := by
    have h1 := run_bytes_of_string (P := P) w src dst e s hs hd he
    simp [execOp, ho, hx, h1, Result.andThen]
  have hheap : (w.drew.alloc (.cells (bytesRow s (grownCap w s.size 0 e)) e ((bytesRow s (grownCap w s.size 0 e)).size, (bytesRow s (grownCap w s.size 0 e)).size + 1))).heap[w.heap.size]? = some (.cells (bytesRow s (grownCap w s.size 0 e)) e ((bytesRow s (grownCap w s.size 0 e)).size, (bytesRow s (grownCap w s.size 0 e)).size + 1)) := by
    show (w.heap.push _)[w.heap.size]? = _
    simp
  refine wpList_value hw hr (h _ _ _ ((Below.refl _ _).drew.alloc (Nat.le_refl _) _) ?_ (fun j hj => ?_) (grownCap_ge _ _ _ _) (grownCap_le_maxLen _ _ _ _ hsz))
  · show w.heap.size < (w.heap.push _).size
    simp
  · have hj' : j < s.data.size := by simpa using hj
    have e1 : (⟨w.heap.size, 0, none⟩ : Addr).add j = ⟨w.heap.size, j, none⟩ := by
      unfold Addr.add
      split
      · subst_vars; rfl
      · simp
    rw [e1]
    simp only [World.cell?, hheap]
    rw [bytesRow_at s _ j hj']
    simp
theorem wpList_stringOf {src dst e : TypeId} {x : Operand} {q : Addr} {c : Nat} {l : List UInt8} (ho : o.op = .convert src dst x) (hx : a.eval x = .slice (some q) l.length c) (hs : P.underlying src = some (.slice e)) (he : P.underlying e = some (.int .u8)) (hd : P.underlying dst = some .string)
    (hc : ∀ j (hj : j < l.length), w.cell? (q.add j) = some (.int .u8 (l[j].toNat : Int)))
    (hw : Region.wanted o (yielded ops a.tmps) = true) (h : wpList P ops Q rest (a.put o.dst (.string ⟨l.toArray⟩)) w) : wpList P ops Q (o :: rest) a w := by
  have h1 := run_convert_bytes_back (P := P) w src dst e q c l hs he hd hc
  exact wpList_value hw (by simp [execOp, ho, hx, h1, Result.andThen]) h
end
end Go.Own
namespace Go.Proofs.YtklommbknfpolaaDoor
open Go.RowKit Go.Own

def strC (s : List UInt8) : List Value := [strV s]
theorem strC_len (ss : List (List UInt8)) : ∀ l ∈ ss.map strC, l.length = 1 := fun l hl => by obtain ⟨x, _, rfl⟩ := List.mem_map.1 hl; rfl
def fieldsN : List Nat → List UInt8 → List (List UInt8)
  | [], _ => []
  | n :: ns, l => trimR (l.take n) :: fieldsN ns (l.drop n)
theorem fieldsN_snoc : ∀ (ns : List Nat) (n : Nat) (l : List UInt8), fieldsN (ns ++ [n]) l = fieldsN ns l ++ [trimR ((l.drop ns.sum).take n)]
  | [], n, l => by simp [fieldsN]
  | m :: ns, n, l => by
    simp only [List.cons_append, fieldsN, fieldsN_snoc ns n (l.drop m), List.sum_cons, List.drop_drop]
theorem fieldsN_len : ∀ (ns : List Nat) (l : List UInt8), (fieldsN ns l).length = ns.length
  | [], _ => rfl
  | n :: ns, l => by simp [fieldsN, fieldsN_len ns]
/-- The fields of a line; where it is wrong. -/
def parseF (ws : List Int) (l : List UInt8) : List (List UInt8) × Int :=
  if okW ws = true then (if (l.length : Int) = ws.sum then (if firstOdd l < 0 then (fieldsN (ws.map Int.toNat) l, 0) else ([], firstOdd l + 1)) else ([], min (l.length : Int) ws.sum + 1)) else ([], 1)
def ParsePost (W : World) (r : List (List UInt8) × Int) (e : Ending) (w : World) : Prop :=
  ∃ p c, e = .returned (.tuple #[.slice p r.1.length c, .int .i64 r.2]) ∧ Own W w [row 9 1 (.slice p r.1.length c) (r.1.map strC)]
theorem nats_of : ∀ {ws : List Int}, ws.all inW = true → ws = (ws.map Int.toNat).map (fun n : Nat => (n : Int))
  | [], _ => rfl
  | w :: ws, h => by
    have h' : inW w = true ∧ ws.all inW = true := by simpa using h
    have h1 := h'.1
    simp only [inW, Bool.and_eq_true, decide_eq_true_eq] at h1
    have := nats_of h'.2
    simp only [List.map_cons]
    rw [← this]
    congr 1
    omega
theorem sum_nats : ∀ (ns : List Nat), (ns.map (fun n : Nat => (n : Int))).sum = ((ns.sum : Nat) : Int)
  | [] => rfl
  | n :: ns => by simp only [List.map_cons, List.sum_cons, sum_nats ns]; omega
theorem bytes_part {w : World} {b off m : Nat} {l : List UInt8} (h : BytesAt w ⟨b, 0, none⟩ l) : BytesAt w ⟨b, off, none⟩ ((l.drop off).take m) := by
  refine ⟨h.lt, fun j hj => ?_⟩
  rw [List.length_take, List.length_drop] at hj
  have := h.c (off + j) (by omega)
  rw [List.getElem_take, List.getElem_drop, ← this]
  congr 1
  unfold Addr.add
  split <;> split <;> simp_all <;> omega
theorem bytes_prefix {w : World} {a : Addr} {l l' : List UInt8} (h : BytesAt w a l) (hp : l' <+: l) : BytesAt w a l' := by
  refine ⟨h.lt, fun j hj => ?_⟩
  have h2 := hp.length_le
  rw [h.c j (by omega)]
  obtain ⟨t, rfl⟩ := hp
  rw [List.getElem_append_left hj]
theorem sum_le : ∀ (ns : List Nat) (j : Nat), (ns.take j).sum ≤ ns.sum
  | [], j => by simp
  | n :: ns, 0 => by simp
  | n :: ns, j + 1 => by
    have := sum_le ns j
    simp only [List.take_succ_cons, List.sum_cons]
    omega
theorem sum_takeN {ns : List Nat} {j : Nat} (hj : j < ns.length) : (ns.take (j + 1)).sum = (ns.take j).sum + ns[j] := by
  rw [List.take_succ_eq_append_getElem hj, List.sum_append]
  simp
theorem fieldsN_take {ns : List Nat} {j : Nat} (hj : j < ns.length) (l : List UInt8) : fieldsN (ns.take (j + 1)) l = fieldsN (ns.take j) l ++ [trimR ((l.drop (ns.take j).sum).take ns[j])] := by
  rw [List.take_succ_eq_append_getElem hj, fieldsN_snoc]
theorem nilRow (W : World) : Own W W [row 9 1 (.slice none 0 0) (([] : List (List UInt8)).map strC)] := (Own.start W).nil 9 1
set_option maxHeartbeats 8000000 in
set_option maxRecDepth 100000 in
theorem parse_any {W : World} {v : Value} {ws : List Int} (s : ByteArray) (h : IsInts W v ws) (hs : s.size ≤ 9223372036854775807) :
    Calls Tryd.prog 10 #[v, .string s] W (ParsePost W (parseF ws (tx s))) := by
  have MY := fun w (hb : Below W.heap.size W w) => may_any (W := w) (ws := ws) (h.below hb h.lt)
  have HH := Lib.hid h
  have hsl : (tx s).length = s.size := rfl
  have HP := Lib.hid (fun (r : List (List UInt8) × Int) (hr : parseF ws (tx s) = r) (e : Ending) (w : World) (p : Option Addr) (c : Nat) (he : e = .returned (.tuple #[.slice p r.1.length c, .int .i64 r.2])) (hO : Own W w [row 9 1 (.slice p r.1.length c) (r.1.map strC)]) => (show ParsePost W (parseF ws (tx s)) e w by rw [hr]; exact ⟨p, c, he, hO⟩))
  have HD := Lib.hid (show parseF ws (tx s) = if okW ws = true then (if (s.size : Int) = ws.sum then (if firstOdd (tx s) < 0 then (fieldsN (ws.map Int.toNat) (tx s), 0) else ([], firstOdd (tx s) + 1)) else ([], min (s.size : Int) ws.sum + 1)) else ([], 1) from rfl)
  generalize hPP : ParsePost W (parseF ws (tx s)) = Post at *
  generalize parseF ws (tx s) = R at HP HD
  clear hPP
  obtain ⟨sp, sc, rfl, hmx⟩ := h.slice
  rw [List.length_map] at hmx HH MY ⊢
  clear h
  have HO := Own.start W
  by_cases hok : okW ws = true
  rotate_left
  · have hok' : okW ws = false := by simpa using hok
    have HQ := Lib.hid (HP.out ([], 1) (by rw [HD.out, hok']; rfl))
    rw [hok'] at MY
    clear hok HP HD
    generalize sumOk ws = sm at *
    go_enter Tryd.func10, Tryd.ntmps10
    go_wp2_with (first | (first | go_big_skip | ((with_reducible apply wpList_loadAll HO); exact rfl; exact rfl; (repeat (with_reducible (first | exact At.head _ | apply At.tail))); infer_instance; exact rfl; exact rfl; (simp only [Act.put, List.setIfInBounds_toArray, List.set_cons_succ, List.set_cons_zero])) | ((with_reducible apply wpList_loadOne HO); exact rfl; exact rfl; (repeat (with_reducible (first | exact At.head _ | apply At.tail))); exact rfl; infer_instance; exact rfl; (simp only [Act.put, List.setIfInBounds_toArray, List.set_cons_succ, List.set_cons_zero]))) | (go_at_call 14; go_must ((with_reducible refine (MY _ HO.grown).mono ?_); rintro e w ⟨rfl, hb⟩; replace HO := HO.call hb; clear hb)))
    exact HQ.out _ _ none 0 rfl (HO.nil 9 1)
  obtain ⟨h100, hall⟩ : ws.length ≤ 100 ∧ ws.all inW = true := by
    rw [okW_eq] at hok
    simpa using hok
  rw [hok, (okW_yes hok).2.1] at MY
  have hsb := sum_bound (Nat.le_refl ws.length) h100 (by rw [List.take_length]; exact hall)
  rw [List.take_length] at hsb
  have hns := nats_of hall
  have hin : ∀ n ∈ ws.map Int.toNat, 1 ≤ n ∧ n ≤ 1000 := fun n hn => by
    obtain ⟨x, hx, rfl⟩ := List.mem_map.1 hn
    have := List.all_eq_true.1 hall x hx
    simp only [inW, Bool.and_eq_true, decide_eq_true_eq] at this
    omega
  have hln : (ws.map Int.toNat).length = ws.length := List.length_map _
  generalize ws.map Int.toNat = ns at *
  rw [hok] at HD
  clear hok hall
  subst hns
  rw [sum_nats] at HD MY hsb
  clear hln
  rw [List.length_map] at hmx HH MY h100 ⊢
  replace hin := Lib.hid hin
  by_cases hsum : (s.size : Int) = (ns.sum : Int)
  rotate_left
  · have hne : ((s.size : Int) == ((ns.sum : Nat) : Int)) = false := by simpa using hsum
    have HQ := Lib.hid (HP.out ([], min (s.size : Int) (ns.sum : Int) + 1) (by rw [HD.out, if_pos rfl, if_neg hsum]))
    clear HP HD hsum
    generalize ns.sum = sm at *
    go_enter Tryd.func10, Tryd.ntmps10
    go_wp2_with (first | (first | go_big_skip | ((with_reducible apply wpList_loadAll HO); exact rfl; exact rfl; (repeat (with_reducible (first | exact At.head _ | apply At.tail))); infer_instance; exact rfl; exact rfl; (simp only [Act.put, List.setIfInBounds_toArray, List.set_cons_succ, List.set_cons_zero])) | ((with_reducible apply wpList_loadOne HO); exact rfl; exact rfl; (repeat (with_reducible (first | exact At.head _ | apply At.tail))); exact rfl; infer_instance; exact rfl; (simp only [Act.put, List.setIfInBounds_toArray, List.set_cons_succ, List.set_cons_zero]))) | (go_at_call 14; go_must ((with_reducible refine (MY _ HO.grown).mono ?_); rintro e w ⟨rfl, hb⟩; replace HO := HO.call hb; clear hb)))
    exact HQ.out _ _ none 0 rfl (HO.nil 9 1)
  have hsN : s.size = ns.sum := by omega
  have hne : ((s.size : Int) == ((ns.sum : Nat) : Int)) = true := by simpa using hsum
  have hne2 : ((s.size : Int) != ((ns.sum : Nat) : Int)) = false := by simpa using hsum
  have IX := fun w => index_any (W := w) s
  rw [show s.data.toList = tx s from rfl] at IX
  by_cases hC : firstOdd (tx s) < 0
  rotate_left
  · have hC' : (0 : Int) ≤ firstOdd (tx s) := by omega
    have hC2 : firstOdd (tx s) < (s.size : Int) := by
      unfold firstOdd
      cases h : (tx s).findIdx? oddB with
      | none => simp only; omega
      | some i =>
        have := (List.findIdx?_eq_some_iff_getElem.1 h).1
        simp only
        omega
    have HQ := Lib.hid (HP.out ([], firstOdd (tx s) + 1) (by rw [HD.out, if_pos rfl, if_pos hsum, if_neg hC]))
    clear HP HD hsum hsN
    generalize ns.sum = sm at *
    generalize firstOdd (tx s) = k at *
    go_enter Tryd.func10, Tryd.ntmps10
    go_wp2_with (first | (first | go_big_skip | ((with_reducible apply wpList_loadAll HO); exact rfl; exact rfl; (repeat (with_reducible (first | exact At.head _ | apply At.tail))); infer_instance; exact rfl; exact rfl; (simp only [Act.put, List.setIfInBounds_toArray, List.set_cons_succ, List.set_cons_zero])) | ((with_reducible apply wpList_loadOne HO); exact rfl; exact rfl; (repeat (with_reducible (first | exact At.head _ | apply At.tail))); exact rfl; infer_instance; exact rfl; (simp only [Act.put, List.setIfInBounds_toArray, List.set_cons_succ, List.set_cons_zero]))) | (go_at_call 14; go_must ((with_reducible refine (MY _ HO.grown).mono ?_); rintro e w ⟨rfl, hb⟩; replace HO := HO.call hb; clear hb)) | (go_at_call 16; go_must ((with_reducible refine (IX _).mono ?_); rintro e w ⟨rfl, hb⟩; replace HO := HO.call hb; clear hb)))
    exact HQ.out _ _ none 0 rfl (HO.nil 9 1)
  have HQ := Lib.hid (HP.out (fieldsN ns (tx s), 0) (by rw [HD.out, if_pos rfl, if_pos hsum, if_pos hC]))
  have hC' : ¬ (0 : Int) ≤ firstOdd (tx s) := by omega
  clear HP HD hsum
  generalize hsm : ns.sum = sm at *
  generalize firstOdd (tx s) = k at *
  go_enter Tryd.func10, Tryd.ntmps10
  go_upto_region 9 with (first | (first | go_big_skip | ((with_reducible apply wpList_loadAll HO); exact rfl; exact rfl; (repeat (with_reducible (first | exact At.head _ | apply At.tail))); infer_instance; exact rfl; exact rfl; (simp only [Act.put, List.setIfInBounds_toArray, List.set_cons_succ, List.set_cons_zero])) | ((with_reducible apply wpList_loadOne HO); exact rfl; exact rfl; (repeat (with_reducible (first | exact At.head _ | apply At.tail))); exact rfl; infer_instance; exact rfl; (simp only [Act.put, List.setIfInBounds_toArray, List.set_cons_succ, List.set_cons_zero]))) | (go_at_call 14; go_must ((with_reducible refine (MY _ HO.grown).mono ?_); rintro e w ⟨rfl, hb⟩; replace HO := HO.call hb; clear hb)) | (go_at_call 16; go_must ((with_reducible refine (IX _).mono ?_); rintro e w ⟨rfl, hb⟩; replace HO := HO.call hb; clear hb)))
  clear MY IX
  go_upto_region 10 with (first | ((with_reducible apply wpList_bytesOf); exact rfl; exact rfl; exact Tryd.underlying9; exact Tryd.underlying31; exact Tryd.underlying5; (unfold maxLen; omega); exact rfl; intro b cp w1 hb1 hbl hby hcp hcm; replace HO := HO.call hb1; clear hb1; (simp only [Act.put, List.setIfInBounds_toArray, List.set_cons_succ, List.set_cons_zero])) | (first | go_big_skip | ((with_reducible apply wpList_loadAll HO); exact rfl; exact rfl; (repeat (with_reducible (first | exact At.head _ | apply At.tail))); infer_instance; exact rfl; exact rfl; (simp only [Act.put, List.setIfInBounds_toArray, List.set_cons_succ, List.set_cons_zero])) | ((with_reducible apply wpList_loadOne HO); exact rfl; exact rfl; (repeat (with_reducible (first | exact At.head _ | apply At.tail))); exact rfl; infer_instance; exact rfl; (simp only [Act.put, List.setIfInBounds_toArray, List.set_cons_succ, List.set_cons_zero]))))
  have hbW := HO.grown
  have hBY : BytesAt w1 ⟨b, 0, none⟩ (tx s) := ⟨hbl, hby⟩
  have HI := Lib.hid (HH.out.below hbW HH.out.lt)
  replace hbW := Lib.hid hbW
  replace hBY := Lib.hid hBY
  have hsl2 := Lib.hid hsl
  have hsm2 := Lib.hid hsm
  clear HO HH hby hbl hsl hsm
  have HO := nilRow w1
  have hcpI : (s.size : Int) ≤ (cp : Int) := by omega
  have hcm' : (cp : Int) ≤ 9223372036854775807 := by unfold maxLen at hcm; omega
  replace hsN := Lib.hid hsN
  go_wp2_with fail
  go_loopw [4, 9, 41] (fun f r i wr => ∃ (j off : Nat) (p fp : Option Addr) (fc : Nat), j ≤ ns.length ∧ i = .int .i64 (j : Int) ∧ off = (ns.take j).sum ∧ off ≤ s.size ∧ r = .slice p (s.size - off) (cp - off) ∧ (off < s.size → p = some ⟨b, off, none⟩) ∧ f = .slice fp j fc ∧ Own w1 wr [row 9 1 (.slice fp j fc) ((fieldsN (ns.take j) (tx s)).map strC)]) (fun _ _ i _ => ns.length - (intOf i).toNat)
  case atStart => exact ⟨0, 0, some ⟨b, 0, none⟩, none, 0, by omega, rfl, rfl, by omega, rfl, fun _ => rfl, rfl, HO⟩
  case round =>
    clear HO
    obtain ⟨j, off, p, fp, fc, hj, rfl, hoff, hos, rfl, hp, rfl, HO⟩ := hrel
    by_cases hjl : j < ns.length
    · have hjI : (j : Int) < (ns.length : Int) := by omega
      obtain ⟨a, rfl, hst⟩ := oldOne (xs := ns.map (fun n : Nat => (n : Int))) HI.out rfl (by rw [List.length_map]; exact hjl)
      rw [List.getElem_map] at hst
      replace hst := Lib.hid hst
      have hm := hin.out ns[j] (List.getElem_mem hjl)
      have HS := sum_takeN hjl
      have HF := Lib.hid (fieldsN_take hjl (tx s))
      have hle := sum_le ns (j + 1)
      rw [HS, hsm2.out, ← hsN.out, ← hoff] at hle
      rw [← hoff] at HF
      replace HS := Lib.hid HS
      have hfl := fieldsN_len (ns.take j) (tx s)
      rw [List.length_take, Nat.min_eq_left hj] at hfl
      generalize ns[j] = m at *
      obtain rfl := hp (by omega)
      have hl1 : (((tx s).drop off).take m).length = m := by
        rw [List.length_take, List.length_drop, hsl2.out]
        omega
      have hBY1 := bytes_part (off := off) (m := m) hBY.out
      have TR : ∀ w', Below w1.heap.size w1 w' → Calls Tryd.prog 23 #[.slice (some ⟨b, off, none⟩) m m, .string ⟨#[32]⟩] w' fun e w'' => e = .returned (.slice (some ⟨b, off, none⟩) (trimR (((tx s).drop off).take m)).length m) ∧ Below w'.heap.size w' w'' := fun w' hb => by
        have := trim_any (c := m) (hBY1.below hb) (by omega) (by omega) (by omega) (by unfold maxLen; omega)
        rwa [hl1] at this
      have hBY2 := Lib.hid (bytes_prefix hBY1 (trimR_prefix _))
      clear hBY1 hl1
      generalize trimR (((tx s).drop off).take m) = fd at *
      have g1 : (m : Int) ≤ ((s.size - off : Nat) : Int) := by omega
      have g2 : (m : Int) ≤ ((cp - off : Nat) : Int) := by omega
      have g3 : (0 : Int) ≤ (m : Int) := by omega
      replace hoff := Lib.hid hoff
      go_wp2_with (first | (first | go_big_skip | ((with_reducible apply wpList_loadAll HO); exact rfl; exact rfl; (repeat (with_reducible (first | exact At.head _ | apply At.tail))); infer_instance; exact rfl; exact rfl; (simp only [Act.put, List.setIfInBounds_toArray, List.set_cons_succ, List.set_cons_zero])) | ((with_reducible apply wpList_loadOne HO); exact rfl; exact rfl; (repeat (with_reducible (first | exact At.head _ | apply At.tail))); exact rfl; infer_instance; exact rfl; (simp only [Act.put, List.setIfInBounds_toArray, List.set_cons_succ, List.set_cons_zero]))) | ((with_reducible apply wpList_loadAt1 HO); exact rfl; exact rfl; exact (fun w' h1 => hst.out w' h1.grown); infer_instance; exact rfl; (simp only [Act.put, List.setIfInBounds_toArray, List.set_cons_succ, List.set_cons_zero])) | (go_at_call 23; go_must ((with_reducible refine (TR _ HO.grown).mono ?_); rintro e w ⟨rfl, hb⟩; replace HO := HO.call hb; clear hb)) | ((with_reducible apply wpList_stringOf (l := fd)); exact rfl; exact rfl; exact Tryd.underlying31; exact Tryd.underlying5; exact Tryd.underlying9; exact (hBY2.out.below HO.grown).c; exact rfl; (simp only [Act.put, List.setIfInBounds_toArray, List.set_cons_succ, List.set_cons_zero])) | (first | ((with_reducible apply wpList_lit1 HO); exact rfl; infer_instance; infer_instance; exact rfl; exact rfl; exact (by decide); exact rfl; clear HO; intro bb w HO; (simp only [Act.put, List.setIfInBounds_toArray, List.set_cons_succ, List.set_cons_zero])) | ((with_reducible apply wpList_lit1c HO); exact rfl; infer_instance; infer_instance; (first | (simp [Act.eval]; rfl) | exact rfl); exact rfl; exact rfl; clear HO; intro bb w HO; (simp only [Act.put, List.setIfInBounds_toArray, List.set_cons_succ, List.set_cons_zero]))) | ((with_reducible apply wpList_push1 HO); exact rfl; infer_instance; infer_instance; (first | (simp [Act.eval]; rfl) | exact rfl); exact rfl; intro _; (repeat (with_reducible (first | exact At.head _ | apply At.tail))); exact rfl; exact rfl; (first | omega | (simp; omega)); decide; exact rfl; clear HO; intro v2 w HO hv2; (simp only [Act.put, List.setIfInBounds_toArray, List.set_cons_succ, List.set_cons_zero])))
      have HV := (HO.rowForm (t := 9) (k := 1) (v := v2) (A := (fieldsN (ns.take j) (tx s)).map strC ++ [[strV fd]]) (.head _)).1
      obtain ⟨p3, c3, rfl⟩ := HV
      rw [List.length_append, List.length_map, hfl] at HO
      simp only [List.length_append, List.length_map, hfl, List.length_cons, List.length_nil, Nat.zero_add]
      go_roundw
      case rel => exact ⟨j + 1, off + m, _, p3, c3, by omega, by go_num, by rw [HS.out, ← hoff.out], by omega, by rw [Nat.sub_add_eq, Nat.sub_add_eq], fun h => by rw [if_neg (by omega)], rfl, by rw [HF.out, List.map_append]; exact HO⟩
      case measure => simp [intOf] <;> omega
    obtain rfl : j = ns.length := by omega
    rw [List.take_length] at HO
    have hfl := Lib.hid (fieldsN_len ns (tx s))
    go_wp2_with fail
    refine HQ.out _ _ fp fc ?_ ?_
    · rw [hfl.out]
      rfl
    · rw [hfl.out]
      exact Own.base hbW.out HO
end Go.Proofs.YtklommbknfpolaaDoor
