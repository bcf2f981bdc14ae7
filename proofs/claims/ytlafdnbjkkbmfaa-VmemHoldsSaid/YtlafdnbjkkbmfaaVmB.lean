/- package vmem: Store, Load, Peek; no condition. -/
import Derived.Test.YtlafdnbjkkbmfaaVmA
namespace Go.Proofs.Ytlafdnbjkkbmfaa
open Go.RowKit
attribute [local go_sem] run_mf
attribute [local go_sem ↓] Go.wp_at_zero Go.wp_at_succ
section
variable {w w' : World} {mb tb eb pb fb rb : Nat} {many : Int} {T : List (Int × Ent)} {F : List (Int × Tak)} {R : List (Int × Int)}
set_option maxRecDepth 100000 in
set_option maxHeartbeats 1000000 in
theorem vm_store {o : Int} {a : Nat} {v : Value} {bs : List UInt8} (ha : a < 4294967296) (hbs : bs.length ≤ 500000000) (h : MemAt w mb tb eb pb fb rb many T F R) (hF : FOk F) (hv : BytesAt w v bs)
    (hM : askE T (max o (-1)) 2 a bs.length = 0 → ∀ p ∈ partsL a bs.length, thrE F many (frP T p) (p.2.1 : Int) (p.2.2 : Int) = 0) :
    Calls Try.prog 11 #[.pointer (some ⟨mb, 0, none⟩), .int .i64 o, .int .u32 a, v] w fun e w' => e = .returned (.int .i64 (askE T (max o (-1)) 2 a bs.length)) ∧ Upd [fb] w w' ∧
      MemAt w' mb tb eb pb fb rb many T (if askE T (max o (-1)) 2 a bs.length = 0 then (wfold T F bs (partsL a bs.length)).1 else F) R := by
  have hw := vm_write ha hbs h hF hv hM
  obtain ⟨o', ho'⟩ : ∃ o', max o (-1) = o' := ⟨_, rfl⟩
  rw [ho'] at hw ⊢
  obtain ⟨F', hF'⟩ : ∃ F', (if askE T o' 2 a bs.length = 0 then (wfold T F bs (partsL a bs.length)).1 else F) = F' := ⟨_, rfl⟩
  obtain ⟨r, hr⟩ : ∃ r, askE T o' 2 a bs.length = r := ⟨_, rfl⟩
  rw [hF'] at hw ⊢
  rw [hr] at hw ⊢
  obtain ⟨va, vc, hvv⟩ := hv.form
  obtain ⟨n, hn⟩ : ∃ n, bs.length = n := ⟨_, rfl⟩
  rw [hn] at hvv
  subst hvv
  have HO := Lib.hid ho'
  clear hF' hr hn ho' hM hbs hv
  go_enter Try.func11, Try.ntmps11
  go_wp2_with fail
  refine (vm_who o).mono ?_
  rintro e w2 ⟨rfl, rfl⟩
  rw [HO.out]
  go_wp2_with fail
  refine hw.mono ?_
  rintro e w2 ⟨rfl, hu, hm⟩
  go_wp2
  go_ret
  exact ⟨rfl, hu, hm⟩
set_option maxRecDepth 100000 in
set_option maxHeartbeats 1000000 in
theorem vm_load {o : Int} {a n : Nat} (ha : a < 4294967296) (hn : n ≤ 1000000000) (h : MemAt w mb tb eb pb fb rb many T F R) (hF : FOk F)
    (hM : askE T (max o (-1)) 1 a n = 0 → ∀ p ∈ partsL a n, thrE F many (frP T p) (p.2.1 : Int) (p.2.2 : Int) = 0) :
    Calls Try.prog 12 #[.pointer (some ⟨mb, 0, none⟩), .int .i64 o, .int .u32 a, .int .i64 (n : Int)] w fun e w' => ∃ v, e = .returned (.tuple #[v, .int .i64 (askE T (max o (-1)) 1 a n)]) ∧ Upd [fb] w w' ∧ MemAt w' mb tb eb pb fb rb many T F R ∧
      BytesAt w' v (if askE T (max o (-1)) 1 a n = 0 then rfold T F (partsL a n) else []) := by
  have hw := vm_read ha hn h hF hM
  obtain ⟨o', ho'⟩ : ∃ o', max o (-1) = o' := ⟨_, rfl⟩
  rw [ho'] at hw ⊢
  obtain ⟨bs, hbs⟩ : ∃ F', (if askE T o' 1 a n = 0 then rfold T F (partsL a n) else []) = F' := ⟨_, rfl⟩
  obtain ⟨r, hr⟩ : ∃ r, askE T o' 1 a n = r := ⟨_, rfl⟩
  rw [hbs] at hw ⊢
  rw [hr] at hw ⊢
  have HO := Lib.hid ho'
  clear hbs hr hn ho' hM
  go_enter Try.func12, Try.ntmps12
  go_wp2_with fail
  refine (vm_who o).mono ?_
  rintro e w2 ⟨rfl, rfl⟩
  rw [HO.out]
  go_wp2_with fail
  refine hw.mono ?_
  rintro e w2 ⟨v, rfl, hu, hm, hb⟩
  have HB := Lib.hid hb
  clear hb
  go_wp2
  refine bodyPost_ret (v := .tuple #[v, .int .i64 r]) ?_ rfl ⟨v, rfl, hu, hm, HB.out⟩
  simp [results, Try.results12, go_sem]
set_option maxRecDepth 100000 in
set_option maxHeartbeats 1000000 in
theorem vm_peek {a n : Nat} (ha : a < 4294967296) (hn : n ≤ 1000000000) (h : MemAt w mb tb eb pb fb rb many T F R) (hF : FOk F)
    (hM : askE T (-2) 1 a n = 0 → ∀ p ∈ partsL a n, thrE F many (frP T p) (p.2.1 : Int) (p.2.2 : Int) = 0) :
    Calls Try.prog 13 #[.pointer (some ⟨mb, 0, none⟩), .int .u32 a, .int .i64 (n : Int)] w fun e w' => ∃ v, e = .returned (.tuple #[v, .int .i64 (askE T (-2) 1 a n)]) ∧ Upd [fb] w w' ∧ MemAt w' mb tb eb pb fb rb many T F R ∧
      BytesAt w' v (if askE T (-2) 1 a n = 0 then rfold T F (partsL a n) else []) := by
  have hw := vm_read ha hn h hF hM
  obtain ⟨bs, hbs⟩ : ∃ F', (if askE T (-2) 1 a n = 0 then rfold T F (partsL a n) else []) = F' := ⟨_, rfl⟩
  obtain ⟨r, hr⟩ : ∃ r, askE T (-2) 1 a n = r := ⟨_, rfl⟩
  rw [hbs] at hw ⊢
  rw [hr] at hw ⊢
  clear hbs hr hn hM
  go_enter Try.func13, Try.ntmps13
  go_wp2_with fail
  refine hw.mono ?_
  rintro e w2 ⟨v, rfl, hu, hm, hb⟩
  have HB := Lib.hid hb
  clear hb
  go_wp2
  refine bodyPost_ret (v := .tuple #[v, .int .i64 r]) ?_ rfl ⟨v, rfl, hu, hm, HB.out⟩
  simp [results, Try.results13, go_sem]
end
end Go.Proofs.Ytlafdnbjkkbmfaa
