/- the statement's own functions: works; no condition. -/
import Derived.Test.YtlafdnbjkkbmfaaLaw2
import Derived.Test.YtlafdnbjkkbmfaaPl9
import Derived.Laws.IdiomStrings
import Derived.Lib.SlBytesConst
namespace Go.Proofs.Ytlafdnbjkkbmfaa
open Go.RowKit
attribute [local go_sem] run_mf
/-- blocks that hold no cells may turn -/
theorem BytesAt.upd {S : List Nat} {w w' : World} {v : Value} {bs : List UInt8} (h : BytesAt w v bs) (hu : Upd S w w') (hS : ∀ k ∈ S, ∀ i, w.cell? ⟨k, i, none⟩ = none) : BytesAt w' v bs :=
  h.other hu.size fun b i u hc => (hu.cell (a := ⟨b, i, none⟩) (World.block_lt_of_cell? _ _ hc) (fun hb => by have := hS b hb i; rw [hc] at this; cases this)).trans hc
theorem map_nocell {α : Type} {q : IntKind} {enc : α → Value} {l : List (Int × α)} {w : World} {b : Nat} (hm : MapI q enc l w b) (i : Nat) : w.cell? ⟨b, i, none⟩ = none := by
  obtain ⟨o, ho, es, k, rfl, _⟩ := hm
  simp [World.cell?, ho]
section
variable {w w' : World} {mb tb eb pb fb rb : Nat} {many : Int} {T : List (Int × Ent)} {F : List (Int × Tak)} {R : List (Int × Int)}
theorem MemAt.nocell (h : MemAt w mb tb eb pb fb rb many T F R) {S : List Nat} (hS : ∀ k ∈ S, k = eb ∨ k = fb ∨ k = rb) : ∀ k ∈ S, ∀ i, w.cell? ⟨k, i, none⟩ = none := by
  intro k hk i
  rcases hS k hk with rfl | rfl | rfl
  · exact map_nocell h.tab.en i
  · exact map_nocell h.pool.fr i
  · exact map_nocell h.pool.rs i
/-- the bytes as a string -/
theorem run_str {v : Value} {bs : List UInt8} (h : BytesAt w v bs) : (convert 35 9 v).run Try.prog w = .ok (.string ⟨bs.toArray⟩) w := by
  rcases h with ⟨rfl, rfl⟩ | ⟨b, o, cap, rfl, _, _, _, hc⟩
  · rw [run_convert_bytes_string w _ _ _ none 0 0 Try.underlying35 Try.underlying5 Try.underlying9]
    simp [Conv.bytesToString]
    rfl
  · exact run_convert_bytes_back w _ _ _ _ cap bs Try.underlying35 Try.underlying5 Try.underlying9 (fun j hj => by rw [add_lit]; exact hc j _ (by simp [u8s, hj]))
theorem ext_upd {S : List Nat} {w0 w w' : World} (h : Ext w0 w) (hu : Upd S w w') (hS : ∀ k ∈ S, w0.heap.size ≤ k) : Ext w0 w' :=
  (Upd.trans (Upd.of_ext (S := S) h) hu).new hS
def wkR : List (Int × Int) := [(1, 2)]
def wkT : List (Int × Ent) := [(3, ⟨1, 2, 0⟩)]
def wkF0 : List (Int × Tak) := [(0, tak1 1)]
def wkF : List (Int × Tak) := (wfold wkT wkF0 [97, 98] (partsL 768 2)).1
theorem wk_fok0 : FOk wkF0 := ⟨fun p hp => by simp [wkF0] at hp; subst hp; rw [takC_size]; show (List.replicate 256 (0 : UInt8)).length + 1 = 257; rw [List.length_replicate], by simp [wkF0]⟩
theorem wk_fok : FOk wkF := by
  have hM : ∀ p ∈ partsL 768 2, thrE wkF0 4 (frP wkT p) (p.2.1 : Int) (p.2.2 : Int) = 0 := by decide +kernel
  exact (wfold_ok (T := wkT) (bs := [97, 98]) wk_fok0 hM (by decide) _ (List.prefix_refl _)).1
theorem wk_new : newE 4 = 0 := by decide
theorem wk_load {o : Int} {a n : Nat} {r : Int} {x : List UInt8} (ha : a < 4294967296) (hn : n ≤ 1000000000) (h : MemAt w mb tb eb pb fb rb 4 wkT wkF wkR) (hr : askE wkT (max o (-1)) 1 a n = r)
    (hM : r = 0 → ∀ p ∈ partsL a n, thrE wkF 4 (frP wkT p) (p.2.1 : Int) (p.2.2 : Int) = 0) (hx : (if r = 0 then rfold wkT wkF (partsL a n) else []) = x) :
    Calls Try.prog 12 #[.pointer (some ⟨mb, 0, none⟩), .int .i64 o, .int .u32 a, .int .i64 (n : Int)] w fun e w' => ∃ v, e = .returned (.tuple #[v, .int .i64 r]) ∧ Upd [fb] w w' ∧ MemAt w' mb tb eb pb fb rb 4 wkT wkF wkR ∧ BytesAt w' v x := by
  subst hr
  subst hx
  exact vm_load ha hn h wk_fok hM
theorem wk_all {w : World} (h : MemAt w mb tb eb pb fb rb 4 [] [] []) :
    Calls Try.prog 8 #[.pointer (some ⟨mb, 0, none⟩), .int .i64 1, .int .i64 2] w fun e w' => e = .returned (.int .i64 0) ∧ Upd [rb] w w' ∧ MemAt w' mb tb eb pb fb rb 4 [] [] wkR := by
  have := vm_reserve (p := 1) (n := 2) h ⟨by simp, by simp⟩ ⟨by simp, by simp [sumR], by omega, by omega, by simp⟩
  exact this
theorem wk_map {w : World} (h : MemAt w mb tb eb pb fb rb 4 [] [] wkR) :
    Calls Try.prog 9 #[.pointer (some ⟨mb, 0, none⟩), .int .i64 3, .int .i64 1, .int .i64 1, .int .i64 2] w fun e w' => e = .returned (.int .i64 0) ∧ Upd [eb, fb] w w' ∧ MemAt w' mb tb eb pb fb rb 4 wkT wkF0 wkR := by
  have := vm_map (n := 3) (o := 1) (p := 1) (m := 2) h ⟨by simp, by simp⟩ ⟨by simp [wkR], by simp [sumR, wkR], by omega, by omega, by simp [wkR]⟩
  rw [show vmaR [] [] wkR 4 3 1 1 2 = 0 by decide +kernel, show vmaE [] [] wkR 3 1 1 2 = 0 by decide +kernel, show takN [] 4 = 0 by decide +kernel] at this
  exact this
theorem wk_store {w : World} {v : Value} (h : MemAt w mb tb eb pb fb rb 4 wkT wkF0 wkR) (hv : BytesAt w v [97, 98]) :
    Calls Try.prog 11 #[.pointer (some ⟨mb, 0, none⟩), .int .i64 1, .int .u32 768, v] w fun e w' => e = .returned (.int .i64 0) ∧ Upd [fb] w w' ∧ MemAt w' mb tb eb pb fb rb 4 wkT wkF wkR := by
  have := vm_store (o := 1) (a := 768) (by omega) (by simp) h wk_fok0 hv (fun _ => by decide +kernel)
  rw [show askE wkT (max 1 (-1)) 2 768 [(97 : UInt8), 98].length = 0 by decide +kernel] at this
  exact this
theorem wk_store2 {w : World} {v : Value} (h : MemAt w mb tb eb pb fb rb 4 wkT wkF wkR) (hv : BytesAt w v [120, 121]) :
    Calls Try.prog 11 #[.pointer (some ⟨mb, 0, none⟩), .int .i64 1, .int .u32 1023, v] w fun e w' => e = .returned (.int .i64 190) ∧ Upd [fb] w w' ∧ MemAt w' mb tb eb pb fb rb 4 wkT wkF wkR := by
  have hk : askE wkT (max 1 (-1)) 2 1023 [(120 : UInt8), 121].length = 190 := by decide +kernel
  have := vm_store (o := 1) (a := 1023) (by omega) (by simp) h wk_fok hv (fun h => by rw [hk] at h; cases h)
  rw [hk] at this
  exact this
theorem wk_peek {w : World} (h : MemAt w mb tb eb pb fb rb 4 wkT wkF wkR) :
    Calls Try.prog 13 #[.pointer (some ⟨mb, 0, none⟩), .int .u32 768, .int .i64 2] w fun e w' => ∃ v, e = .returned (.tuple #[v, .int .i64 0]) ∧ Upd [fb] w w' ∧ MemAt w' mb tb eb pb fb rb 4 wkT wkF wkR ∧ BytesAt w' v [97, 98] := by
  have := vm_peek (a := 768) (n := 2) (by omega) (by omega) h wk_fok (fun _ => by decide +kernel)
  rw [show askE wkT (-2) 1 768 2 = 0 by decide +kernel, if_pos rfl, show rfold wkT wkF (partsL 768 2) = [97, 98] by decide +kernel] at this
  exact this
/-- a row of bytes that was just laid -/
theorem bytes_new (w : World) (t : TypeId) (fr : Nat × Nat) (bs : List UInt8) (h : bs.length ≤ 1000000000) : BytesAt (w.alloc (.cells (u8s bs).toArray t fr)) (.slice (some ⟨w.heap.size, 0, none⟩) bs.length bs.length) bs :=
  .inr ⟨w.heap.size, 0, bs.length, rfl, Nat.le_refl _, by simp [maxLen]; omega, by simp, fun j u hu => by rw [Nat.zero_add]; exact cell_at (World.alloc_heap_new w _) (by simpa using hu)⟩
theorem str_eq (a b : List UInt8) : (⟨a.toArray⟩ : ByteArray) = ⟨b.toArray⟩ ↔ a = b := by
  constructor
  · intro h
    have := congrArg ByteArray.data h
    simpa using this
  · rintro rfl; rfl
set_option maxRecDepth 100000 in
set_option maxHeartbeats 1000000 in
theorem l9_works {w : World} : Calls Try.prog 5 #[] w fun e w' => e = .returned (.bool true) ∧ Ext w w' := by
  have kc := fun (w : World) (C : Array Value) (n c : Nat) => Lib.run_convert_bytes_const (P := Try.prog) w 35 5 C n c Try.underlying35 Try.underlying5
  have hn := vm_new (w := w) 4
  rw [wk_new] at hn
  simp only [if_true] at hn
  go_enter Try.func5, Try.ntmps5
  go_wp2_with fail
  refine hn.mono ?_
  rintro e w1 ⟨hx1, mb, tb, eb, pb, fb, rb, rfl, hm1, hl⟩
  have le : w.heap.size ≤ eb := hl eb (by simp)
  have lf : w.heap.size ≤ fb := hl fb (by simp)
  have lr : w.heap.size ≤ rb := hl rb (by simp)
  clear hl
  go_wp2_with fail
  refine (wk_all hm1).mono ?_
  rintro e w2 ⟨rfl, hu2, hm2⟩
  have hx2 := ext_upd hx1 hu2 (by simpa using lr)
  go_wp2_with fail
  refine (wk_map hm2).mono ?_
  rintro e w3 ⟨rfl, hu3, hm3⟩
  have hx3 := ext_upd hx2 hu3 (by simp; exact ⟨le, lf⟩)
  clear hm1 hm2 hu2 hu3 hx1 hx2 hn
  go_wp2_with fail
  have e4 : ∀ o : Obj, Ext w3 (w3.alloc o) := fun o => ext_n o (Ext.refl _)
  refine (wk_store (hm3.ext (e4 _)) (bytes_new w3 _ _ [97, 98] (by simp))).mono ?_
  rintro e w4 ⟨rfl, hu4, hm4⟩
  have hx4 := ext_upd (Ext.trans hx3 (e4 _)) hu4 (by simpa using lf)
  clear hm3 hu4 hx3 e4
  go_wp2_with fail
  refine (wk_load (o := 1) (a := 769) (n := 2) (r := 0) (x := [98, 0]) (by omega) (by omega) hm4 (by decide +kernel) (fun _ => by decide +kernel) (by decide +kernel)).mono ?_
  rintro e w5 ⟨x5, rfl, hu5, hm5, hb5⟩
  have hx5 := ext_upd hx4 hu5 (by simpa using lf)
  obtain ⟨a5, c5, h5⟩ := hb5.form
  subst h5
  have HB5 := Lib.hid hb5
  clear hm4 hu5 hx4 hb5
  go_wp2_with fail
  refine (wk_load (o := 2) (a := 768) (n := 1) (r := 190) (x := []) (by omega) (by omega) hm5 (by decide +kernel) (fun h => by cases h) (by decide +kernel)).mono ?_
  rintro e w6 ⟨x6, rfl, hu6, hm6, hb6⟩
  have hx6 := ext_upd hx5 hu6 (by simpa using lf)
  have hy6 := HB5.out.upd hu6 (hm5.nocell (by simp))
  obtain ⟨a6, c6, h6⟩ := hb6.form
  subst h6
  have HB6 := Lib.hid hy6
  clear hm5 hu6 hx5 hb6 hy6 HB5
  go_wp2_with fail
  have e7 : ∀ o : Obj, Ext w6 (w6.alloc o) := fun o => ext_n o (Ext.refl _)
  refine (wk_store2 (hm6.ext (e7 _)) (bytes_new w6 _ _ [120, 121] (by simp))).mono ?_
  rintro e w7 ⟨rfl, hu7, hm7⟩
  have hx7 := ext_upd (Ext.trans hx6 (e7 _)) hu7 (by simpa using lf)
  have hy7 := (HB6.out.ext (e7 _)).upd hu7 ((hm6.ext (e7 _)).nocell (by simp))
  have HB7 := Lib.hid hy7
  clear hm6 hu7 hx6 e7 hy7 HB6
  go_wp2_with fail
  refine (wk_load (o := 1) (a := 1023) (n := 1) (r := 0) (x := [0]) (by omega) (by omega) hm7 (by decide +kernel) (fun _ => by decide +kernel) (by decide +kernel)).mono ?_
  rintro e w8 ⟨x8, rfl, hu8, hm8, hb8⟩
  have hx8 := ext_upd hx7 hu8 (by simpa using lf)
  have hy8 := HB7.out.upd hu8 (hm7.nocell (by simp))
  obtain ⟨a8, c8, h8⟩ := hb8.form
  subst h8
  have HB8 := Lib.hid hy8
  have HC8 := Lib.hid hb8
  clear hm7 hu8 hx7 hb8 hy8 HB7
  go_wp2_with fail
  refine (wk_peek hm8).mono ?_
  rintro e w9 ⟨x9, rfl, hu9, hm9, hb9⟩
  have hx9 := ext_upd hx8 hu9 (by simpa using lf)
  have hy9 := HB8.out.upd hu9 (hm8.nocell (by simp))
  have hz9 := HC8.out.upd hu9 (hm8.nocell (by simp))
  obtain ⟨a9, c9, h9⟩ := hb9.form
  subst h9
  have HB9 := Lib.hid hy9
  have HC9 := Lib.hid hz9
  have HD9 := Lib.hid hb9
  clear hm8 hu9 hx8 hb9 hy9 hz9 HB8 HC8
  go_wp2_with fail
  refine (wk_load (o := 1) (a := 768) (n := 0) (r := 2) (x := []) (by omega) (by omega) hm9 (by decide +kernel) (fun h => by cases h) (by decide +kernel)).mono ?_
  rintro e w10 ⟨x10, rfl, hu10, hm10, hb10⟩
  have hx10 := ext_upd hx9 hu10 (by simpa using lf)
  have hy10 := HB9.out.upd hu10 (hm9.nocell (by simp))
  have hz10 := HC9.out.upd hu10 (hm9.nocell (by simp))
  have ht10 := HD9.out.upd hu10 (hm9.nocell (by simp))
  obtain ⟨a10, c10, h10⟩ := hb10.form
  subst h10
  have HB10 := Lib.hid hy10
  have HC10 := Lib.hid hz10
  have HD10 := Lib.hid ht10
  clear hm9 hu10 hx9 hb10 hy10 hz10 ht10 HB9 HC9 HD9
  go_wp2_with fail
  refine (wk_load (o := 1) (a := 16777215) (n := 2) (r := 4) (x := []) (by omega) (by omega) hm10 (by decide +kernel) (fun h => by cases h) (by decide +kernel)).mono ?_
  rintro e w11 ⟨x11, rfl, hu11, hm11, hb11⟩
  have hx11 := ext_upd hx10 hu11 (by simpa using lf)
  have hy11 := HB10.out.upd hu11 (hm10.nocell (by simp))
  have hz11 := HC10.out.upd hu11 (hm10.nocell (by simp))
  have ht11 := HD10.out.upd hu11 (hm10.nocell (by simp))
  obtain ⟨a11, c11, h11⟩ := hb11.form
  subst h11
  have s1 := run_str hy11
  have s2 := run_str hz11
  have s3 := run_str ht11
  simp only [List.length_cons, List.length_nil, Nat.zero_add, Nat.reduceAdd] at s1 s2 s3
  clear hm10 hu11 hx10 hb11 hy11 hz11 ht11 HB10 HC10 HD10 hm11 kc
  go_wp2_with (go_at_call 7; refine (l9_num _).mono ?_; rintro e w' ⟨rfl, rfl⟩)
  go_ret
  exact ⟨rfl, hx11⟩
end
end Go.Proofs.Ytlafdnbjkkbmfaa
