/- The program's reader of a step. It wants the tables, the two errors of a numeral, and the variable MaxLen. -/
import Derived.Test.YtcdfomoglkhboaaGreatDoorTm
namespace Go.Proofs.YtcdfomoglkhboaaGreatDoor
open Go.RowKit Go.Lib
set_option linter.unusedVariables false
set_option linter.unusedSimpArgs false
attribute [local go_sem] ext_cell ext_frozen ext_lt ext_le ext_le1 lt_s2 lt_s3 lt_s4 lt_s5 lt_s6 ext_lt1 ext_lt2 ext_lt3

/-- The variable that strings.Index reads is a number. -/
def MaxL (w : World) : Prop := ∃ m : Int, w.cell? ⟨2, 0, none⟩ = some (.int .i64 m)
theorem MaxL.grew {w w' : World} (h : MaxL w) (g : Grew w w') : MaxL w' := by
  obtain ⟨m, h⟩ := h
  have k : w'.cell? _ = _ := (World.cell?_of_block (g.block _ (World.block_lt_of_cell? w _ h))).trans h
  exact ⟨m, k⟩
theorem implSplit (s : List UInt8) (w : World) (hs : s.length ≤ 1100000) (M : MaxL w) :
    Calls Tryz.prog 37 #[.string ⟨s.toArray⟩, .string ⟨#[32]⟩] w fun e w' => ∃ v, e = .returned v ∧ RowS w.heap.size (split s [32]).length (split s [32]).length (split s [32]) w' v ∧ Grew w w' := by
  obtain ⟨m, hm⟩ := M
  have hsz : (⟨s.toArray⟩ : ByteArray).size = s.length := by show s.toArray.size = _; rw [List.size_toArray]
  refine (Tryz.strings_Split ⟨s.toArray⟩ ⟨#[32]⟩ m w (by rw [hsz]; omega) hm (by decide)).mono ?_
  rintro e w' ⟨rfl, rfl⟩
  have hd : (splitB ⟨#[32]⟩ 0 (countB ⟨s.toArray⟩ ⟨#[32]⟩) ⟨s.toArray⟩).map (·.data.toList) = split s [32] := by
    rw [splitB_data]
    rfl
  have hl := splitB_all ⟨#[32]⟩ (by decide) 0 _ ⟨s.toArray⟩ rfl
  have hn : (split s [32]).length = countB ⟨s.toArray⟩ ⟨#[32]⟩ + 1 := by rw [← hd, List.length_map, hl]
  refine ⟨_, rfl, ?_, grew_al (Below.refl _ w) _⟩
  rw [hn]
  refine ⟨_, rfl, Nat.le_refl _, by simp, fun j x hx => ?_⟩
  rw [(Blk.new w _ _).cell]
  rw [← hd, List.getElem?_map] at hx
  cases hb : (splitB ⟨#[32]⟩ 0 (countB ⟨s.toArray⟩ ⟨#[32]⟩) ⟨s.toArray⟩)[j]? with
  | none => rw [hb] at hx; cases hx
  | some b =>
    rw [hb] at hx
    simp only [Option.map_some, Option.some.injEq] at hx
    subst hx
    simp [hb]
def insV (o : Option Ins) : Value := match o with
  | some i => .tuple #[.agg #[.int .i64 i.op, .int .i64 i.d, .int .i64 i.a, .int .i64 i.b, .int .i64 i.rel, .int .i64 i.lo, .int .i64 i.hi, .int .i64 i.to], .bool true]
  | none => .tuple #[.agg #[.int .i64 0, .int .i64 0, .int .i64 0, .int .i64 0, .int .i64 0, .int .i64 0, .int .i64 0, .int .i64 0], .bool false]

/-- A reader that was found: what it does with the words behind the keyword. -/
def Found (x : List UInt8) (r : List (List UInt8)) (i : Ins) (s2 : Sc) (W : World) (fv : Value) : Prop :=
  ∃ (fid : FuncId) (caps : Array Value) (T : TypeId) (pv : Value) (mf : FuncId), fv = .func (.func fid) #[] caps ∧
    (∀ (args : Array Value) (w : World), (callFunc fid args).run Tryz.prog w = .ok (.enter fid args) w) ∧
    (∀ (g : Nat) (W' : World), Grew W W' → W.heap.size ≤ g → ScI g ⟨r, false⟩ W' → Env W' → Calls Tryz.prog fid (#[.pointer (some ⟨g, 0, none⟩)] ++ caps) W' fun e w' => e = .returned (.iface T pv) ∧ ScI g s2 w' ∧ Chg (fun b => b = g) W' w') ∧
    (∀ (n : Nat) (w : World), (method (n + 1) T pv "loop.example/outwork/impl.ins").run Tryz.prog w = .ok (mf, pv) w) ∧
    (∀ (args : Array Value) (w : World), (callFunc mf args).run Tryz.prog w = .ok (.enter mf args) w) ∧
    (∀ w, Calls Tryz.prog mf #[pv] w fun e w' => e = .returned (.agg #[.int .i64 i.op, .int .i64 i.d, .int .i64 i.a, .int .i64 i.b, .int .i64 i.rel, .int .i64 i.lo, .int .i64 i.hi, .int .i64 i.to]) ∧ Grew w w')
theorem Found.grew {x : List UInt8} {r : List (List UInt8)} {i : Ins} {s2 : Sc} {W W1 : World} {fv : Value} (h : Found x r i s2 W fv) (k : Grew W W1) : Found x r i s2 W1 fv := by
  obtain ⟨fid, caps, T, pv, mf, h1, h2, h3, h4⟩ := h
  exact ⟨fid, caps, T, pv, mf, h1, h2, fun g W' hg hge => h3 g W' (grew_tr k hg) (Nat.le_trans k.size hge), h4⟩
theorem body_letW {P : Program} {f : Func} {Q : Ending → World → Prop} {x : Exit} {a : Act} {W : World} (h : ∀ E, E = W → bodyPost P f Q x a E) : bodyPost P f Q x a W := h W rfl
theorem found_any (x : List UInt8) (r : List (List UInt8)) (W : World) (hs : ShortW r) (E0 : Env W) : Found x r (anyP ⟨r, false⟩).1 (anyP ⟨r, false⟩).2 W (.func (.func 76) #[] #[]) :=
  ⟨_, _, _, _, 179, rfl, fun _ _ => by kernel_rfl, fun g W' hg hge h E => rdr_any g ⟨r, false⟩ W' h hs E (E0.apart hge), fun n w => methAny n _ _ _ w, fun _ _ => by kernel_rfl, fun w => insAny _ _ _ w⟩
theorem found_load (x : List UInt8) (r : List (List UInt8)) (W : World) (hs : ShortW r) (E0 : Env W) : Found x r (loadP ⟨r, false⟩).1 (loadP ⟨r, false⟩).2 W (.func (.func 79) #[] #[]) :=
  ⟨_, _, _, _, 187, rfl, fun _ _ => by kernel_rfl, fun g W' hg hge h E => rdr_load g ⟨r, false⟩ W' h hs E (E0.apart hge), fun n w => methLoad n _ _ w, fun _ _ => by kernel_rfl, fun w => insLoad _ _ w⟩
theorem found_store (x : List UInt8) (r : List (List UInt8)) (W : World) (hs : ShortW r) (E0 : Env W) : Found x r (storeP ⟨r, false⟩).1 (storeP ⟨r, false⟩).2 W (.func (.func 80) #[] #[]) :=
  ⟨_, _, _, _, 188, rfl, fun _ _ => by kernel_rfl, fun g W' hg hge h E => rdr_store g ⟨r, false⟩ W' h hs E (E0.apart hge), fun n w => methStore n _ _ w, fun _ _ => by kernel_rfl, fun w => insStore _ _ w⟩
theorem found_jump (x : List UInt8) (r : List (List UInt8)) (W : World) (hs : ShortW r) (E0 : Env W) : Found x r (jumpP ⟨r, false⟩).1 (jumpP ⟨r, false⟩).2 W (.func (.func 81) #[] #[]) :=
  ⟨_, _, _, _, 181, rfl, fun _ _ => by kernel_rfl, fun g W' hg hge h E => rdr_jump g ⟨r, false⟩ W' h hs E (E0.apart hge), fun n w => methJump n _ w, fun _ _ => by kernel_rfl, fun w => insJump _ w⟩
theorem found_call (x : List UInt8) (r : List (List UInt8)) (W : World) (hs : ShortW r) (E0 : Env W) : Found x r (callP ⟨r, false⟩).1 (callP ⟨r, false⟩).2 W (.func (.func 82) #[] #[]) :=
  ⟨_, _, _, _, 182, rfl, fun _ _ => by kernel_rfl, fun g W' hg hge h E => rdr_call g ⟨r, false⟩ W' h hs E (E0.apart hge), fun n w => methCall n _ _ _ w, fun _ _ => by kernel_rfl, fun w => insCall _ _ _ w⟩
theorem found_ret (x : List UInt8) (r : List (List UInt8)) (W : World) (hs : ShortW r) (E0 : Env W) : Found x r (retP ⟨r, false⟩).1 (retP ⟨r, false⟩).2 W (.func (.func 83) #[] #[]) :=
  ⟨_, _, _, _, 189, rfl, fun _ _ => by kernel_rfl, fun g W' hg hge h E => rdr_ret g ⟨r, false⟩ W' h hs E (E0.apart hge), fun n w => methRet n _ w, fun _ _ => by kernel_rfl, fun w => insRet _ w⟩
theorem found_set (x : List UInt8) (r : List (List UInt8)) (W : World) (hs : ShortW r) (E0 : Env W) : Found x r (setP ⟨r, false⟩).1 (setP ⟨r, false⟩).2 W (.func (.func 84) #[] #[]) :=
  ⟨_, _, _, _, 179, rfl, fun _ _ => by kernel_rfl, fun g W' hg hge h E => rdr_set g ⟨r, false⟩ W' h hs E (E0.apart hge), fun n w => methAny n _ _ _ w, fun _ _ => by kernel_rfl, fun w => insAny _ _ _ w⟩
theorem found_if (x : List UInt8) (r : List (List UInt8)) (W : World) (hs : ShortW r) (E0 : Env W) : Found x r (ifP ⟨r, false⟩).1 (ifP ⟨r, false⟩).2 W (.func (.func 85) #[] #[]) :=
  ⟨_, _, _, _, 180, rfl, fun _ _ => by kernel_rfl, fun g W' hg hge h E => rdr_if g ⟨r, false⟩ W' h hs E (E0.apart hge), fun n w => methIf n _ _ _ _ w, fun _ _ => by kernel_rfl, fun w => insIf _ _ _ _ w⟩
theorem found_assert (x : List UInt8) (r : List (List UInt8)) (W : World) (hs : ShortW r) (E0 : Env W) : Found x r (assertP ⟨r, false⟩).1 (assertP ⟨r, false⟩).2 W (.func (.func 87) #[] #[]) :=
  ⟨_, _, _, _, 183, rfl, fun _ _ => by kernel_rfl, fun g W' hg hge h E => rdr_assert g ⟨r, false⟩ W' h hs E (E0.apart hge), fun n w => methAssert n _ _ _ w, fun _ _ => by kernel_rfl, fun w => insAssert _ _ _ w⟩
theorem found_arith (x : List UInt8) (r : List (List UInt8)) (W : World) (op : Int) (c : Nat) (hc : W.cell? ⟨c, 0, none⟩ = some (.int .i64 op)) : Found x r (arithP op ⟨r, false⟩).1 (arithP op ⟨r, false⟩).2 W (.func (.func 89) #[] #[.pointer (some ⟨c, 0, none⟩)]) :=
  ⟨_, _, _, _, 190, rfl, fun _ _ => by kernel_rfl, fun g W' hg hge h E => rdr_arith g c op ⟨r, false⟩ W' h (gk hg hc) (by have := World.block_lt_of_cell? W _ hc; simp only at this; omega), fun n w => methArith n _ _ _ _ w, fun _ _ => by kernel_rfl, fun w => insArith _ _ _ _ w⟩
theorem beqS {x y : List UInt8} (h : x ≠ y) : ((⟨x.toArray⟩ : ByteArray) == ⟨y.toArray⟩) = false := by
  show (x.toArray == y.toArray) = false
  exact beq_eq_false_iff_ne.2 (fun e => h (by simpa using e))
/-- What a look into the map of readers gives. -/
theorem lookM (w0 W : World) (g t : Nat) (cs : List Nat) (h : MapI w0 g t 5 cs W) (x : List UInt8) (r : List (List UInt8)) (hs : ShortW r) (E0 : Env W) :
    ∃ fv b, (Instr.lookup 77 (.map (some g)) (.string ⟨x.toArray⟩) true).run Tryz.prog W = .ok (.tuple #[fv, .bool b]) W ∧
      ((b = false ∧ readerP x = none ∧ x ≠ []) ∨ (b = true ∧ x = []) ∨ (b = true ∧ x ≠ [] ∧ ∃ f, readerP x = some f ∧ Found x r (f ⟨r, false⟩).1 (f ⟨r, false⟩).2 W fv)) := by
  obtain ⟨c0, c1, c2, c3, c4, rfl⟩ : ∃ c0 c1 c2 c3 c4, cs = [c0, c1, c2, c3, c4] := by
    have hl := h.len
    match cs, hl with
    | [c0, c1, c2, c3, c4], _ => exact ⟨c0, c1, c2, c3, c4, rfl⟩
  have he : (base9 ++ (entsA [c0, c1, c2, c3, c4] 0).toArray).isEmpty = false := rfl
  have LK := fun (k : ByteArray) (q : Option (Nat × Value)) hf v b hr hz => lookS (P := Tryz.prog) W 77 9 75 _ g k _ (by kernel_rfl) (by kernel_rfl) h.map he (r := q) hf v b hr hz
  by_cases k0 : x = nameT 5
  · subst k0
    exact ⟨_, true, LK _ _ rfl _ _ rfl (fun e => by cases e), .inr (.inr ⟨rfl, by decide, anyP, by simp [readerP, nameT, setT], found_any _ r W hs E0⟩)⟩
  by_cases k1 : x = nameT 6
  · subst k1
    exact ⟨_, true, LK _ _ rfl _ _ rfl (fun e => by cases e), .inr (.inr ⟨rfl, by decide, loadP, by simp [readerP, nameT, setT], found_load _ r W hs E0⟩)⟩
  by_cases k2 : x = nameT 7
  · subst k2
    exact ⟨_, true, LK _ _ rfl _ _ rfl (fun e => by cases e), .inr (.inr ⟨rfl, by decide, storeP, by simp [readerP, nameT, setT], found_store _ r W hs E0⟩)⟩
  by_cases k3 : x = nameT 9
  · subst k3
    exact ⟨_, true, LK _ _ rfl _ _ rfl (fun e => by cases e), .inr (.inr ⟨rfl, by decide, jumpP, by simp [readerP, nameT, setT], found_jump _ r W hs E0⟩)⟩
  by_cases k4 : x = nameT 10
  · subst k4
    exact ⟨_, true, LK _ _ rfl _ _ rfl (fun e => by cases e), .inr (.inr ⟨rfl, by decide, callP, by simp [readerP, nameT, setT], found_call _ r W hs E0⟩)⟩
  by_cases k5 : x = nameT 12
  · subst k5
    exact ⟨_, true, LK _ _ rfl _ _ rfl (fun e => by cases e), .inr (.inr ⟨rfl, by decide, retP, by simp [readerP, nameT, setT], found_ret _ r W hs E0⟩)⟩
  by_cases k6 : x = setT
  · subst k6
    exact ⟨_, true, LK _ _ rfl _ _ rfl (fun e => by cases e), .inr (.inr ⟨rfl, by decide, setP, by simp [readerP, nameT, setT], found_set _ r W hs E0⟩)⟩
  by_cases k7 : x = nameT 8
  · subst k7
    exact ⟨_, true, LK _ _ rfl _ _ rfl (fun e => by cases e), .inr (.inr ⟨rfl, by decide, ifP, by simp [readerP, nameT, setT], found_if _ r W hs E0⟩)⟩
  by_cases k8 : x = nameT 11
  · subst k8
    exact ⟨_, true, LK _ _ rfl _ _ rfl (fun e => by cases e), .inr (.inr ⟨rfl, by decide, assertP, by simp [readerP, nameT, setT], found_assert _ r W hs E0⟩)⟩
  by_cases a1 : x = nameT 1
  · subst a1
    exact ⟨_, true, LK _ _ rfl _ _ rfl (fun e => by cases e), .inr (.inr ⟨rfl, by decide, arithP 1, by simp [readerP, nameT, setT], found_arith _ r W 1 c1 (h.caps 1 c1 rfl).2⟩)⟩
  by_cases a2 : x = nameT 2
  · subst a2
    exact ⟨_, true, LK _ _ rfl _ _ rfl (fun e => by cases e), .inr (.inr ⟨rfl, by decide, arithP 2, by simp [readerP, nameT, setT], found_arith _ r W 2 c2 (h.caps 2 c2 rfl).2⟩)⟩
  by_cases a3 : x = nameT 3
  · subst a3
    exact ⟨_, true, LK _ _ rfl _ _ rfl (fun e => by cases e), .inr (.inr ⟨rfl, by decide, arithP 3, by simp [readerP, nameT, setT], found_arith _ r W 3 c3 (h.caps 3 c3 rfl).2⟩)⟩
  by_cases a4 : x = nameT 4
  · subst a4
    exact ⟨_, true, LK _ _ rfl _ _ rfl (fun e => by cases e), .inr (.inr ⟨rfl, by decide, arithP 4, by simp [readerP, nameT, setT], found_arith _ r W 4 c4 (h.caps 4 c4 rfl).2⟩)⟩
  by_cases e0 : x = []
  · subst e0
    exact ⟨_, true, LK _ _ rfl _ _ rfl (fun e => by cases e), .inr (.inl ⟨rfl, rfl⟩)⟩
  have hf : Instr.findNow .string (.string ⟨x.toArray⟩) (base9 ++ (entsA [c0, c1, c2, c3, c4] 0).toArray).toList 0 = some none := by
    simp only [nameT, setT] at k0 k1 k2 k3 k4 k5 k6 k7 k8 a1 a2 a3 a4
    have b0 := beqS k0
    have b1 := beqS k1
    have b2 := beqS k2
    have b3 := beqS k3
    have b4 := beqS k4
    have b5 := beqS k5
    have b6 := beqS k6
    have b7 := beqS k7
    have b8 := beqS k8
    have b9 := beqS a1
    have b10 := beqS a2
    have b11 := beqS a3
    have b12 := beqS a4
    have b13 := beqS e0
    simp only [Int.reduceEq, if_true, if_false, reduceIte] at b0 b1 b2 b3 b4 b5 b6 b7 b8 b9 b10 b11 b12 b13
    have hlist : (base9 ++ (entsA [c0, c1, c2, c3, c4] 0).toArray).toList = base9.toList ++ entsA [c0, c1, c2, c3, c4] 0 := by simp
    rw [hlist]
    simp [base9, entsA, entF, entA, arithL, Instr.findNow, Instr.sameNow, nameT, setT, b0, b1, b2, b3, b4, b5, b6, b7, b8, b9, b10, b11, b12, b13]
  obtain ⟨zv, hz⟩ : ∃ zv, ∀ w, (zeroValue 75).run Tryz.prog w = .ok zv w := ⟨.nilFunc, fun w => by kernel_rfl⟩
  refine ⟨zv, false, LK _ none hf _ _ rfl (fun _ => hz W), .inl ⟨rfl, ?_, e0⟩⟩
  simp [readerP, k0, k1, k2, k3, k4, k5, k6, k7, k8, a1, a2, a3, a4]

set_option maxRecDepth 100000 in
theorem insReadA (s : List UInt8) (procs size : Int) (w : World) (hs : 60 < s.length) :
    Calls Tryz.prog 16 #[.string ⟨s.toArray⟩, .int .i64 procs, .int .i64 size] w fun e w' => e = .returned (insV none) ∧ Grew w w' := by
  have hs' : (60 : Int) < (s.length : Int) := by omega
  go_enter Tryz.func16, Tryz.ntmps16
  go_wp2_with fail
  go_returns
  exact ⟨rfl, gr⟩

set_option maxRecDepth 100000 in
set_option maxHeartbeats 2000000 in
theorem insReadN (s x : List UInt8) (r : List (List UInt8)) (procs size : Int) (w : World) (hl : s.length ≤ 60) (hsp : split s [32] = x :: r) (hsr : ShortW r) (En : Env w) (ML : MaxL w) (hr : readerP x = none) (hx : x ≠ []) :
    Calls Tryz.prog 16 #[.string ⟨s.toArray⟩, .int .i64 procs, .int .i64 size] w fun e w' => e = .returned (insV none) ∧ Grew w w' := by
  have HRN := Lib.hid hr
  have HXN := Lib.hid hx
  clear hr hx
  have hl60 : ¬ (60 : Int) < (s.length : Int) := by omega
  have CS := fun w => implSplit s w (by omega)
  rw [hsp] at CS
  have HCS := Lib.hid CS
  have CR := Lib.hid fun w => readersM w
  have HEn := Lib.hid En
  have HML := Lib.hid ML
  have HSR := Lib.hid hsr
  have LM := Lib.hid fun (w0 W : World) (g t : Nat) (cs : List Nat) (h : MapI w0 g t 5 cs W) (E0 : Env W) => lookM w0 W g t cs h x r HSR.out E0
  clear CS En ML hsr hl hsp
  go_enter Tryz.func16, Tryz.ntmps16
  go_wp2_with fail
  have HB0 := Lib.hid (Blk.new w 38 #[.int .i64 0, .int .i64 0, .int .i64 0, .int .i64 0, .int .i64 0, .int .i64 0, .int .i64 0, .int .i64 0])
  have HG0 := Lib.hid (grew_al (Below.refl _ w) (.cells #[.int .i64 0, .int .i64 0, .int .i64 0, .int .i64 0, .int .i64 0, .int .i64 0, .int .i64 0, .int .i64 0] 38))
  refine (HCS.out _ (HML.out.grew HG0.out)).mono ?_
  rintro e w1 ⟨v, rfl, ⟨t, rfl, hB, hlt, hc⟩, g1⟩
  have HB1 := Lib.hid (HB0.out.grew g1)
  have HG1 := Lib.hid (grew_tr HG0.out g1)
  have HC1 := Lib.hid hc
  have q0 := hc 0 x rfl
  simp only [World.size_alloc] at hB
  clear g1 HB0 HG0 HCS hc
  go_wp2_with fail
  refine region_w 58 [⟨fun W v => ∃ w0 g t cs, v = .map (some g) ∧ MapI w0 g t 5 cs W, fun _ _ _ k ⟨w0, g, t, cs, h1, h2⟩ => ⟨w0, g, t, cs, h1, h2.grow k⟩⟩, pgV (.slice (some ⟨t, 0, none⟩) (r.length + 1) (r.length + 1)), pgV (.pointer (some ⟨t, 0, none⟩)), pgV (.string ⟨(x : List UInt8).toArray⟩), ⟨fun W v => ∃ fv, v = .tuple #[fv, .bool false] ∧ (fun (_ : World) (_ : Value) => True) W fv, fun _ _ _ k ⟨fv, h1, h2⟩ => ⟨fv, h1, trivial⟩⟩, ⟨fun W v => ∃ fv, v = .tuple #[fv, .bool false] ∧ (fun (_ : World) (_ : Value) => True) W fv, fun _ _ _ k ⟨fv, h1, h2⟩ => ⟨fv, h1, trivial⟩⟩, ⟨(fun (_ : World) (_ : Value) => True), fun _ _ _ k h2 => trivial⟩, pgV (.bool false), ⟨(fun (_ : World) (_ : Value) => True), fun _ _ _ k h2 => trivial⟩, pgV (.bool false)] (by kernel_rfl) rfl (by kernel_rfl) ⟨?_, ?_, ?_, ?_, ?_, ?_, ?_, ?_, ?_, ?_, trivial⟩ ?_
  · exact w_callX (fun A W h => by
    refine Eq.trans (b := .ok (.enter 38 #[]) W) (by kernel_rfl) ?_
    rfl) (fun W hW => (CR.out W).mono fun e w' ⟨g, t, cs, h1, h2⟩ => ⟨_, h1, ⟨W, g, t, cs, rfl, h2⟩, h2.grew⟩)
  · exact w_vx (v := .slice (some ⟨t, 0, none⟩) (r.length + 1) (r.length + 1)) rfl (fun A W h => by
    have e8 : A.eval (.tmp 8) = .slice (some ⟨t, 0, none⟩) (r.length + 1) (r.length + 1) := (h.slot 8).trans rfl
    simp only [execOp, e8]
    first | (simp [go_sem]; done) | rfl | kernel_rfl)
  · exact w_vx (v := .pointer (some ⟨t, 0, none⟩)) rfl (fun A W h => by
    have e21 : A.eval (.tmp 21) = .slice (some ⟨t, 0, none⟩) (r.length + 1) (r.length + 1) := h.vb 1 21
    simp only [execOp, e21]
    simp [go_sem])
  · exact w_vx (v := .string ⟨(x : List UInt8).toArray⟩) rfl (fun A W h => by
    have e22 : A.eval (.tmp 22) = .pointer (some ⟨t, 0, none⟩) := h.vb 2 22
    have k0 := gk h.grew q0
    simp only [execOp, e22]
    simp [go_sem, k0])
  · exact w_ex (fun A W h => by
    obtain ⟨w020, g20, t20, cs20, e20, hM20⟩ := h.vb 0 20
    have e23 : A.eval (.tmp 23) = .string ⟨x.toArray⟩ := h.vb 3 23
    obtain ⟨fv, b, hl, hc⟩ := LM.out _ _ _ _ _ hM20 (HEn.out.grew (grew_tr HG1.out h.grew))
    have hP : True := trivial
    obtain rfl : b = false := by
      rcases hc with ⟨h1, -⟩ | ⟨-, h1⟩ | ⟨-, -, f, h1, -⟩
      · exact h1
      · exact absurd h1 HXN.out
      · rw [HRN.out] at h1; cases h1
    refine ⟨_, W, ?_, ⟨fv, rfl, hP⟩, Below.refl _ _⟩
    simp only [execOp, e20, e23, Sem.run_bind, hl, Result.andThen_ok, Sem.run_pure])
  · exact w_ex (fun A W h => by
    obtain ⟨fv, e24, hP⟩ := h.vb 4 24
    exact ⟨_, W, by simp only [execOp, e24]; rfl, ⟨fv, rfl, hP⟩, Below.refl _ _⟩)
  · exact w_ex (fun A W h => by
    obtain ⟨fv, e19, hP⟩ := h.vb 5 19
    exact ⟨fv, W, by simp only [execOp, e19]; simp [go_sem], hP, Below.refl _ _⟩)
  · exact w_vx (v := .bool false) rfl (fun A W h => by
    obtain ⟨fv, e19, hP⟩ := h.vb 5 19
    simp only [execOp, e19]
    simp [go_sem])
  · exact w_ex (fun A W h => ⟨_, W, by simp only [execOp]; rfl, h.vb 6 25, Below.refl _ _⟩)
  · exact w_vx (v := .bool false) rfl (fun A W h => by
    have e26 : A.eval (.tmp 26) = .bool false := h.vb 7 26
    simp only [execOp, e26]
    rfl)
  intro vs w9 g9 hR
  obtain ⟨w0z, gz, tz, csz, x0, hMz⟩ := hR 0 20 (by kernel_rfl)
  have x1 : vs 1 = .slice (some ⟨t, 0, none⟩) (r.length + 1) (r.length + 1) := hR 1 21 (by kernel_rfl)
  have x2 : vs 2 = .pointer (some ⟨t, 0, none⟩) := hR 2 22 (by kernel_rfl)
  have x3 : vs 3 = .string ⟨(x : List UInt8).toArray⟩ := hR 3 23 (by kernel_rfl)
  obtain ⟨fv4, x4, -⟩ := hR 4 24 (by kernel_rfl)
  obtain ⟨fv5, x5, -⟩ := hR 5 19 (by kernel_rfl)
  skip
  have x7 : vs 7 = .bool false := hR 7 26 (by kernel_rfl)
  have hP8 := hR 8 9 (by kernel_rfl)
  have x9 : vs 9 = .bool false := hR 9 10 (by kernel_rfl)
  simp only [putAll, Act.put, List.setIfInBounds_toArray, List.set_cons_zero, List.set_cons_succ, Nat.zero_add, Nat.reduceAdd, x0, x1, x2, x3, x4, x5, x7, x9]
  clear hR x0 x1 x2 x3 x4 x5 x7 x9 hMz
  have HB9 := Lib.hid (HB1.out.grew g9)
  have HG9 := Lib.hid (grew_tr HG1.out g9)
  have z := fun j => HB9.out.cell j
  have zl := HB9.out.lt
  have zf := fun j => HB9.out.frozen j
  have z0 := z 0
  have z1 := z 1
  have z2 := z 2
  have z3 := z 3
  have z4 := z 4
  have z5 := z 5
  have z6 := z 6
  have z7 := z 7
  simp only [List.getElem?_toArray, List.getElem?_cons_zero, List.getElem?_cons_succ] at z0 z1 z2 z3 z4 z5 z6 z7
  clear z q0 hB hlt hP8
  go_wp2
  refine bodyPost_ret (by simp [results, Tryz.results16, go_sem, z0, z1, z2, z3, z4, z5, z6, z7, zl]; try rfl) rfl ?_
  refine ⟨by rfl, ?_⟩
  repeat (first | with_reducible exact HG9.out | with_reducible refine grew_set ?_ (by exact Nat.le_refl _) _)

set_option maxRecDepth 100000 in
set_option maxHeartbeats 2000000 in
theorem insReadE (s x : List UInt8) (r : List (List UInt8)) (procs size : Int) (w : World) (hl : s.length ≤ 60) (hsp : split s [32] = x :: r) (hsr : ShortW r) (En : Env w) (ML : MaxL w) (hx : x = []) :
    Calls Tryz.prog 16 #[.string ⟨s.toArray⟩, .int .i64 procs, .int .i64 size] w fun e w' => e = .returned (insV none) ∧ Grew w w' := by
  have HXN := Lib.hid hx
  clear hx
  have hl60 : ¬ (60 : Int) < (s.length : Int) := by omega
  have CS := fun w => implSplit s w (by omega)
  rw [hsp] at CS
  have HCS := Lib.hid CS
  have CR := Lib.hid fun w => readersM w
  have HEn := Lib.hid En
  have HML := Lib.hid ML
  have HSR := Lib.hid hsr
  have LM := Lib.hid fun (w0 W : World) (g t : Nat) (cs : List Nat) (h : MapI w0 g t 5 cs W) (E0 : Env W) => lookM w0 W g t cs h x r HSR.out E0
  clear CS En ML hsr hl hsp
  go_enter Tryz.func16, Tryz.ntmps16
  go_wp2_with fail
  have HB0 := Lib.hid (Blk.new w 38 #[.int .i64 0, .int .i64 0, .int .i64 0, .int .i64 0, .int .i64 0, .int .i64 0, .int .i64 0, .int .i64 0])
  have HG0 := Lib.hid (grew_al (Below.refl _ w) (.cells #[.int .i64 0, .int .i64 0, .int .i64 0, .int .i64 0, .int .i64 0, .int .i64 0, .int .i64 0, .int .i64 0] 38))
  refine (HCS.out _ (HML.out.grew HG0.out)).mono ?_
  rintro e w1 ⟨v, rfl, ⟨t, rfl, hB, hlt, hc⟩, g1⟩
  have HB1 := Lib.hid (HB0.out.grew g1)
  have HG1 := Lib.hid (grew_tr HG0.out g1)
  have HC1 := Lib.hid hc
  have q0 := hc 0 x rfl
  simp only [World.size_alloc] at hB
  clear g1 HB0 HG0 HCS hc
  go_wp2_with fail
  refine region_w 58 [⟨fun W v => ∃ w0 g t cs, v = .map (some g) ∧ MapI w0 g t 5 cs W, fun _ _ _ k ⟨w0, g, t, cs, h1, h2⟩ => ⟨w0, g, t, cs, h1, h2.grow k⟩⟩, pgV (.slice (some ⟨t, 0, none⟩) (r.length + 1) (r.length + 1)), pgV (.pointer (some ⟨t, 0, none⟩)), pgV (.string ⟨(x : List UInt8).toArray⟩), ⟨fun W v => ∃ fv, v = .tuple #[fv, .bool true] ∧ (fun (_ : World) (_ : Value) => True) W fv, fun _ _ _ k ⟨fv, h1, h2⟩ => ⟨fv, h1, trivial⟩⟩, ⟨fun W v => ∃ fv, v = .tuple #[fv, .bool true] ∧ (fun (_ : World) (_ : Value) => True) W fv, fun _ _ _ k ⟨fv, h1, h2⟩ => ⟨fv, h1, trivial⟩⟩, ⟨(fun (_ : World) (_ : Value) => True), fun _ _ _ k h2 => trivial⟩, pgV (.bool true), ⟨(fun (_ : World) (_ : Value) => True), fun _ _ _ k h2 => trivial⟩, pgV (.bool true)] (by kernel_rfl) rfl (by kernel_rfl) ⟨?_, ?_, ?_, ?_, ?_, ?_, ?_, ?_, ?_, ?_, trivial⟩ ?_
  · exact w_callX (fun A W h => by
    refine Eq.trans (b := .ok (.enter 38 #[]) W) (by kernel_rfl) ?_
    rfl) (fun W hW => (CR.out W).mono fun e w' ⟨g, t, cs, h1, h2⟩ => ⟨_, h1, ⟨W, g, t, cs, rfl, h2⟩, h2.grew⟩)
  · exact w_vx (v := .slice (some ⟨t, 0, none⟩) (r.length + 1) (r.length + 1)) rfl (fun A W h => by
    have e8 : A.eval (.tmp 8) = .slice (some ⟨t, 0, none⟩) (r.length + 1) (r.length + 1) := (h.slot 8).trans rfl
    simp only [execOp, e8]
    first | (simp [go_sem]; done) | rfl | kernel_rfl)
  · exact w_vx (v := .pointer (some ⟨t, 0, none⟩)) rfl (fun A W h => by
    have e21 : A.eval (.tmp 21) = .slice (some ⟨t, 0, none⟩) (r.length + 1) (r.length + 1) := h.vb 1 21
    simp only [execOp, e21]
    simp [go_sem])
  · exact w_vx (v := .string ⟨(x : List UInt8).toArray⟩) rfl (fun A W h => by
    have e22 : A.eval (.tmp 22) = .pointer (some ⟨t, 0, none⟩) := h.vb 2 22
    have k0 := gk h.grew q0
    simp only [execOp, e22]
    simp [go_sem, k0])
  · exact w_ex (fun A W h => by
    obtain ⟨w020, g20, t20, cs20, e20, hM20⟩ := h.vb 0 20
    have e23 : A.eval (.tmp 23) = .string ⟨x.toArray⟩ := h.vb 3 23
    obtain ⟨fv, b, hl, hc⟩ := LM.out _ _ _ _ _ hM20 (HEn.out.grew (grew_tr HG1.out h.grew))
    have hP : True := trivial
    obtain rfl : b = true := by
      rcases hc with ⟨-, -, h1⟩ | ⟨h1, -⟩ | ⟨h1, -⟩
      · exact absurd HXN.out h1
      · exact h1
      · exact h1
    refine ⟨_, W, ?_, ⟨fv, rfl, hP⟩, Below.refl _ _⟩
    simp only [execOp, e20, e23, Sem.run_bind, hl, Result.andThen_ok, Sem.run_pure])
  · exact w_ex (fun A W h => by
    obtain ⟨fv, e24, hP⟩ := h.vb 4 24
    exact ⟨_, W, by simp only [execOp, e24]; rfl, ⟨fv, rfl, hP⟩, Below.refl _ _⟩)
  · exact w_ex (fun A W h => by
    obtain ⟨fv, e19, hP⟩ := h.vb 5 19
    exact ⟨fv, W, by simp only [execOp, e19]; simp [go_sem], hP, Below.refl _ _⟩)
  · exact w_vx (v := .bool true) rfl (fun A W h => by
    obtain ⟨fv, e19, hP⟩ := h.vb 5 19
    simp only [execOp, e19]
    simp [go_sem])
  · exact w_ex (fun A W h => ⟨_, W, by simp only [execOp]; rfl, h.vb 6 25, Below.refl _ _⟩)
  · exact w_vx (v := .bool true) rfl (fun A W h => by
    have e26 : A.eval (.tmp 26) = .bool true := h.vb 7 26
    simp only [execOp, e26]
    rfl)
  intro vs w9 g9 hR
  obtain ⟨w0z, gz, tz, csz, x0, hMz⟩ := hR 0 20 (by kernel_rfl)
  have x1 : vs 1 = .slice (some ⟨t, 0, none⟩) (r.length + 1) (r.length + 1) := hR 1 21 (by kernel_rfl)
  have x2 : vs 2 = .pointer (some ⟨t, 0, none⟩) := hR 2 22 (by kernel_rfl)
  have x3 : vs 3 = .string ⟨(x : List UInt8).toArray⟩ := hR 3 23 (by kernel_rfl)
  obtain ⟨fv4, x4, -⟩ := hR 4 24 (by kernel_rfl)
  obtain ⟨fv5, x5, -⟩ := hR 5 19 (by kernel_rfl)
  skip
  have x7 : vs 7 = .bool true := hR 7 26 (by kernel_rfl)
  have hP8 := hR 8 9 (by kernel_rfl)
  have x9 : vs 9 = .bool true := hR 9 10 (by kernel_rfl)
  simp only [putAll, Act.put, List.setIfInBounds_toArray, List.set_cons_zero, List.set_cons_succ, Nat.zero_add, Nat.reduceAdd, x0, x1, x2, x3, x4, x5, x7, x9]
  clear hR x0 x1 x2 x3 x4 x5 x7 x9 hMz
  have HB9 := Lib.hid (HB1.out.grew g9)
  have HG9 := Lib.hid (grew_tr HG1.out g9)
  have z := fun j => HB9.out.cell j
  have zl := HB9.out.lt
  have zf := fun j => HB9.out.frozen j
  have z0 := z 0
  have z1 := z 1
  have z2 := z 2
  have z3 := z 3
  have z4 := z 4
  have z5 := z 5
  have z6 := z 6
  have z7 := z 7
  simp only [List.getElem?_toArray, List.getElem?_cons_zero, List.getElem?_cons_succ] at z0 z1 z2 z3 z4 z5 z6 z7
  have q9 := gk g9 q0
  have tl9 := Nat.lt_of_lt_of_le hlt g9.size
  rw [HXN.out] at q9
  clear z q0 hB hlt hP8
  go_wp2
  refine bodyPost_ret (by simp [results, Tryz.results16, go_sem, z0, z1, z2, z3, z4, z5, z6, z7, zl]; try rfl) rfl ?_
  refine ⟨by rfl, ?_⟩
  repeat (first | with_reducible exact HG9.out | with_reducible refine grew_set ?_ (by exact Nat.le_refl _) _)

end Go.Proofs.YtcdfomoglkhboaaGreatDoor
