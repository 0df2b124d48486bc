/-
  What the functions on orders compute, by walking their text; conditions: texts no longer than memory bears.
-/
import Derived.Test.YtlfphfklcifgpaaDoorOrdChk
import Derived.Test.YtlfphfklcifgpaaDoorRefBits
import Derived.Test.YtlfphfklcifgpaaDoorKeys
namespace Go.Proofs.YtlfphfklcifgpaaDoor
open Go.RowKit Go.Own

def putOrd (id : Int) (ref sku : List UInt8) (qty amt : Int) : List UInt8 :=
  if ordCheck id ref sku qty amt = 0 then varF 10 id.toNat ++ textB ref ++ textB sku ++ varF 10 qty.toNat ++ varF 10 amt.toNat else []
theorem textB_len {l : List UInt8} {n : Nat} (h : l.length ≤ n) : (textB l).length ≤ n + 10 := by
  unfold textB; have := varF_len 10 l.length; simp; omega

set_option maxHeartbeats 2000000 in
theorem putOrd_any (id : Int) (ref sku : List UInt8) (qty amt : Int) (w : World) (h1 : ref.length ≤ maxLen) (h2 : sku.length ≤ maxLen) :
    Calls Tryd.prog 60 #[.agg #[.int .i64 id, .string ⟨ref.toArray⟩, .string ⟨sku.toArray⟩, .int .i64 qty, .int .i64 amt]] w fun e w' => e = .returned (.string ⟨(putOrd id ref sku qty amt).toArray⟩) ∧ Below w.heap.size w w' := by
  have C := fun w => ordCheck_any id ref sku qty amt w h1 h2
  by_cases hc0 : ordCheck id ref sku qty amt = 0
  · obtain ⟨b1, b2, b3, b4, b5, b6, _, _, b9, b10, _, _⟩ := ordCheck_ok hc0
    have HQ := Lib.hid (show putOrd id ref sku qty amt = varF 10 id.toNat ++ textB ref ++ textB sku ++ varF 10 qty.toNat ++ varF 10 amt.toNat by rw [putOrd, if_pos hc0])
    rw [hc0] at C
    clear hc0
    obtain ⟨i, rfl⟩ := Int.eq_ofNat_of_zero_le (show 0 ≤ id by omega)
    obtain ⟨q, rfl⟩ := Int.eq_ofNat_of_zero_le (show 0 ≤ qty by omega)
    obtain ⟨m, rfl⟩ := Int.eq_ofNat_of_zero_le (show 0 ≤ amt by omega)
    simp only [Int.toNat_natCast] at HQ
    have e1 := wrap_u64 i (by omega)
    have e2 := wrap_u64 q (by omega)
    have e3 := wrap_u64 m (by omega)
    have V1 := fun w => var_any i w (by omega)
    have V2 := fun w => var_any q w (by omega)
    have V3 := fun w => var_any m w (by omega)
    have T1 := fun w => text_any ref w (by omega)
    have T2 := fun w => text_any sku w (by omega)
    have l1 := varF_len 10 i
    have l2 := varF_len 10 q
    have l3 := varF_len 10 m
    have l4 := textB_len b9
    have l5 := textB_len b10
    go_enter Tryd.func60, Tryd.ntmps60
    go_wp2_with (go_at_call 56; go_must ((with_reducible refine (C _).mono ?_); rintro e w1 ⟨rfl, hb⟩; obtain ⟨hc, hf⟩ := bcell hb; have hz := hb.size; (try simp at hz); (try have hzT := Nat.lt_of_succ_le hz)))
    have g0 : w.heap.size < w1.heap.size := by omega
    refine region_later (by kernel_rfl) (by kernel_rfl) ?_
    repeat (first | go_big_quiet_step ((first | (go_at_call 59; first | (with_reducible exact calls_later (Nat.le_refl _) (V1 _)) | (with_reducible exact calls_later (Nat.le_refl _) (V2 _)) | (with_reducible exact calls_later (Nat.le_refl _) (V3 _))) | (go_at_call 82; first | (with_reducible exact calls_later (Nat.le_refl _) (T1 _)) | (with_reducible exact calls_later (Nat.le_refl _) (T2 _))))) | quiet_step ((first | (go_at_call 59; first | (with_reducible exact calls_later (Nat.le_refl _) (V1 _)) | (with_reducible exact calls_later (Nat.le_refl _) (V2 _)) | (with_reducible exact calls_later (Nat.le_refl _) (V3 _))) | (go_at_call 82; first | (with_reducible exact calls_later (Nat.le_refl _) (T1 _)) | (with_reducible exact calls_later (Nat.le_refl _) (T2 _))))))
    refine wpQuiet_nil ?_
    intro w1 hb
    obtain ⟨hc, hf⟩ := bcell hb
    go_wp2_with fail
    go_ret
    exact ⟨ret_list (by rw [HQ.out]; simp only [List.append_assoc]), (by with_reducible (repeat (first | assumption | exact Below.refl _ _ | refine Below.drew ?_ | refine below_drewN ?_ _ | refine Below.alloc ?_ (by first | (simp; done) | omega | (simp; omega)) _ | refine Below.setCell ?_ (by first | (simp; done) | omega | (simp; omega)) _ | refine Below.trans ?_ (Below.mono (by assumption) (by first | (simp; done) | omega | (simp; omega))))))⟩
  · have HQ := Lib.hid (show putOrd id ref sku qty amt = [] by rw [putOrd, if_neg hc0])
    have hne : (ordCheck id ref sku qty amt == 0) = false := by simpa using hc0
    clear hc0
    go_enter Tryd.func60, Tryd.ntmps60
    go_wp2_with (go_at_call 56; go_must ((with_reducible refine (C _).mono ?_); rintro e w1 ⟨rfl, hb⟩; obtain ⟨hc, hf⟩ := bcell hb; have hz := hb.size; (try simp at hz); (try have hzT := Nat.lt_of_succ_le hz)))
    go_ret
    exact ⟨ret_list (by rw [HQ.out]), (by with_reducible (repeat (first | assumption | exact Below.refl _ _ | refine Below.drew ?_ | refine below_drewN ?_ _ | refine Below.alloc ?_ (by first | (simp; done) | omega | (simp; omega)) _ | refine Below.setCell ?_ (by first | (simp; done) | omega | (simp; omega)) _ | refine Below.trans ?_ (Below.mono (by assumption) (by first | (simp; done) | omega | (simp; omega))))))⟩

set_option maxHeartbeats 2000000 in
theorem refPutOrd_any (id : Int) (ref sku : List UInt8) (qty amt : Int) (w : World) (h1 : ref.length ≤ maxLen) (h2 : sku.length ≤ maxLen) :
    Calls Tryd.prog 63 #[.agg #[.int .i64 id, .string ⟨ref.toArray⟩, .string ⟨sku.toArray⟩, .int .i64 qty, .int .i64 amt]] w fun e w' => e = .returned (.string ⟨(putOrd id ref sku qty amt).toArray⟩) ∧ Below w.heap.size w w' := by
  have C := fun w => refOrdCheck_any id ref sku qty amt w h1 h2
  by_cases hc0 : ordCheck id ref sku qty amt = 0
  · obtain ⟨b1, b2, b3, b4, b5, b6, _, _, b9, b10, _, _⟩ := ordCheck_ok hc0
    have HQ := Lib.hid (show putOrd id ref sku qty amt = varF 10 id.toNat ++ textB ref ++ textB sku ++ varF 10 qty.toNat ++ varF 10 amt.toNat by rw [putOrd, if_pos hc0])
    rw [hc0] at C
    clear hc0
    obtain ⟨i, rfl⟩ := Int.eq_ofNat_of_zero_le (show 0 ≤ id by omega)
    obtain ⟨q, rfl⟩ := Int.eq_ofNat_of_zero_le (show 0 ≤ qty by omega)
    obtain ⟨m, rfl⟩ := Int.eq_ofNat_of_zero_le (show 0 ≤ amt by omega)
    simp only [Int.toNat_natCast] at HQ
    have e1 := wrap_u64 i (by omega)
    have e2 := wrap_u64 q (by omega)
    have e3 := wrap_u64 m (by omega)
    have V1 := fun w => refVar_ten i w (by omega)
    have V2 := fun w => refVar_ten q w (by omega)
    have V3 := fun w => refVar_ten m w (by omega)
    have T1 := fun w => refText_any ref w (by omega)
    have T2 := fun w => refText_any sku w (by omega)
    have l1 := varF_len 10 i
    have l2 := varF_len 10 q
    have l3 := varF_len 10 m
    have l4 := textB_len b9
    have l5 := textB_len b10
    go_enter Tryd.func63, Tryd.ntmps63
    go_wp2_with (go_at_call 72; go_must ((with_reducible refine (C _).mono ?_); rintro e w1 ⟨rfl, hb⟩; obtain ⟨hc, hf⟩ := bcell hb; have hz := hb.size; (try simp at hz); (try have hzT := Nat.lt_of_succ_le hz)))
    have g0 : w.heap.size < w1.heap.size := by omega
    refine region_later (by kernel_rfl) (by kernel_rfl) ?_
    repeat (first | go_big_quiet_step ((first | (go_at_call 84; first | (with_reducible exact calls_later (Nat.le_refl _) (V1 _)) | (with_reducible exact calls_later (Nat.le_refl _) (V2 _)) | (with_reducible exact calls_later (Nat.le_refl _) (V3 _))) | (go_at_call 85; first | (with_reducible exact calls_later (Nat.le_refl _) (T1 _)) | (with_reducible exact calls_later (Nat.le_refl _) (T2 _))))) | quiet_step ((first | (go_at_call 84; first | (with_reducible exact calls_later (Nat.le_refl _) (V1 _)) | (with_reducible exact calls_later (Nat.le_refl _) (V2 _)) | (with_reducible exact calls_later (Nat.le_refl _) (V3 _))) | (go_at_call 85; first | (with_reducible exact calls_later (Nat.le_refl _) (T1 _)) | (with_reducible exact calls_later (Nat.le_refl _) (T2 _))))))
    refine wpQuiet_nil ?_
    intro w1 hb
    obtain ⟨hc, hf⟩ := bcell hb
    go_wp2_with fail
    go_ret
    exact ⟨ret_list (by rw [HQ.out]; simp only [List.append_assoc]), (by with_reducible (repeat (first | assumption | exact Below.refl _ _ | refine Below.drew ?_ | refine below_drewN ?_ _ | refine Below.alloc ?_ (by first | (simp; done) | omega | (simp; omega)) _ | refine Below.setCell ?_ (by first | (simp; done) | omega | (simp; omega)) _ | refine Below.trans ?_ (Below.mono (by assumption) (by first | (simp; done) | omega | (simp; omega))))))⟩
  · have HQ := Lib.hid (show putOrd id ref sku qty amt = [] by rw [putOrd, if_neg hc0])
    have hne : (ordCheck id ref sku qty amt == 0) = false := by simpa using hc0
    clear hc0
    go_enter Tryd.func63, Tryd.ntmps63
    go_wp2_with (go_at_call 72; go_must ((with_reducible refine (C _).mono ?_); rintro e w1 ⟨rfl, hb⟩; obtain ⟨hc, hf⟩ := bcell hb; have hz := hb.size; (try simp at hz); (try have hzT := Nat.lt_of_succ_le hz)))
    go_ret
    exact ⟨ret_list (by rw [HQ.out]), (by with_reducible (repeat (first | assumption | exact Below.refl _ _ | refine Below.drew ?_ | refine below_drewN ?_ _ | refine Below.alloc ?_ (by first | (simp; done) | omega | (simp; omega)) _ | refine Below.setCell ?_ (by first | (simp; done) | omega | (simp; omega)) _ | refine Below.trans ?_ (Below.mono (by assumption) (by first | (simp; done) | omega | (simp; omega))))))⟩
end Go.Proofs.YtlfphfklcifgpaaDoor
