/- The reference puts a place into a row. No condition. -/
import Derived.Test.YtdddhnepanjmfaaGreatVz
namespace Go.Proofs.YtdddhnepanjmfaaGreat
open Go.RowKit
set_option linter.unusedVariables false
set_option linter.unusedSimpArgs false
attribute [local go_sem] ext_cell ext_frozen ext_lt ext_le ext_le1 lt_s2 lt_s3 lt_s4 lt_s5 lt_s6 ext_lt1 ext_lt2 ext_lt3

set_option maxRecDepth 100000 in
theorem l10LessS (x y : Site) (w : World) : Calls Tryz.prog 46 #[.agg #[.int .i64 x.proc, .int .i64 x.pc], .agg #[.int .i64 y.proc, .int .i64 y.pc]] w fun e w' => e = .returned (.bool (lessB x y)) ∧ Grew w w' := by
  obtain ⟨p, q⟩ := x
  obtain ⟨r, s⟩ := y
  simp only [lessB]
  by_cases h1 : p < r
  · rw [decide_eq_true h1, Bool.true_or]
    have h1' : decide (p < r) = true := decide_eq_true h1
    clear h1
    go_enter Tryz.func46, Tryz.ntmps46
    go_wp2
    go_ret
    exact ⟨rfl, gr⟩
  · rw [decide_eq_false h1, Bool.false_or]
    have h1' : decide (p < r) = false := decide_eq_false h1
    by_cases h2 : p = r
    · have h2' : (p == r) = true := by simpa using h2
      rw [decide_eq_true h2, Bool.true_and]
      obtain ⟨b, hb⟩ : ∃ b, decide (q < s) = b := ⟨_, rfl⟩
      rw [hb]
      subst h2
      clear h1
      go_enter Tryz.func46, Tryz.ntmps46
      go_wp2
      go_ret
      exact ⟨rfl, gr⟩
    · have h2' : (p == r) = false := by simpa using h2
      rw [decide_eq_false h2, Bool.false_and]
      clear h1 h2
      go_enter Tryz.func46, Tryz.ntmps46
      go_wp2
      go_ret
      exact ⟨rfl, gr⟩
theorem putL_app {s : Site} : ∀ {A B : List Site}, (∀ x, x ∈ A → lessB s x = false) → putL (A ++ B) s = A ++ putL B s
  | [], B, _ => rfl
  | a :: A, B, h => by
    rw [List.cons_append, putL, h a (by simp)]
    simp only [Bool.false_eq_true, if_false, List.cons_append, List.cons.injEq, true_and]
    exact putL_app fun x hx => h x (by simp [hx])
theorem drop_get {α : Type} {L : List α} {k : Nat} {x : α} (h : L[k]? = some x) : L.drop k = x :: L.drop (k + 1) := by
  obtain ⟨hk, e⟩ := List.getElem?_eq_some_iff.1 h
  rw [List.drop_eq_getElem_cons hk, e]
/-- While a place is put in: whether it is in, and what is written. -/
def PutI (L : List Site) (s : Site) (k : Nat) (d : Bool) (O : List Site) : Prop := if d then O ++ L.drop k = putL L s else O = L.take k ∧ ∀ x, x ∈ L.take k → lessB s x = false
theorem PutI.len {L : List Site} {s : Site} {k : Nat} {d : Bool} {O : List Site} (h : PutI L s k d O) : O.length ≤ L.length + 1 := by
  unfold PutI at h
  split at h
  · have := congrArg List.length h
    rw [List.length_append, (putL_perm s L).length_eq, List.length_cons] at this
    omega
  · rw [h.1]
    have := List.length_take_le' k L
    omega
theorem PutI.start (L : List Site) (s : Site) : PutI L s 0 false [] := ⟨rfl, by simp⟩
theorem PutI.keep {L : List Site} {s : Site} {k : Nat} {O : List Site} {x : Site} (h : PutI L s k true O) (hx : L[k]? = some x) : PutI L s (k + 1) true (O ++ [x]) := by
  have h2 : O ++ L.drop k = putL L s := h
  rw [drop_get hx] at h2
  show (O ++ [x]) ++ L.drop (k + 1) = putL L s
  rw [List.append_assoc]
  exact h2
theorem PutI.skip {L : List Site} {s : Site} {k : Nat} {O : List Site} {x : Site} (h : PutI L s k false O) (hx : L[k]? = some x) (hl : lessB s x = false) : PutI L s (k + 1) false (O ++ [x]) := by
  obtain ⟨h1, h2⟩ : O = L.take k ∧ ∀ x, x ∈ L.take k → lessB s x = false := h
  have ht : L.take (k + 1) = L.take k ++ [x] := by rw [List.take_add_one, hx]; rfl
  refine (⟨by rw [ht, h1], fun y hy => ?_⟩ : O ++ [x] = L.take (k + 1) ∧ ∀ x, x ∈ L.take (k + 1) → lessB s x = false)
  rw [ht, List.mem_append, List.mem_singleton] at hy
  rcases hy with hy | rfl
  · exact h2 y hy
  · exact hl
theorem PutI.put {L : List Site} {s : Site} {k : Nat} {O : List Site} {x : Site} (h : PutI L s k false O) (hx : L[k]? = some x) (hl : lessB s x = true) : PutI L s (k + 1) true (O ++ [s] ++ [x]) := by
  obtain ⟨h1, h2⟩ : O = L.take k ∧ ∀ x, x ∈ L.take k → lessB s x = false := h
  show (O ++ [s] ++ [x]) ++ L.drop (k + 1) = putL L s
  rw [show putL L s = putL (L.take k ++ L.drop k) s by rw [List.take_append_drop], putL_app h2, drop_get hx, putL, if_pos hl, h1]
  simp
theorem PutI.end1 {L : List Site} {s : Site} {k : Nat} {O : List Site} (h : PutI L s k true O) (hk : L.length ≤ k) : O = putL L s := by
  have h2 : O ++ L.drop k = putL L s := h
  rw [List.drop_of_length_le hk, List.append_nil] at h2
  exact h2
theorem PutI.end2 {L : List Site} {s : Site} {k : Nat} {O : List Site} (h : PutI L s k false O) (hk : L.length ≤ k) : O ++ [s] = putL L s := by
  obtain ⟨h1, h2⟩ : O = L.take k ∧ ∀ x, x ∈ L.take k → lessB s x = false := h
  rw [List.take_of_length_le hk] at h1 h2
  have := putL_app (B := []) h2
  rw [List.append_nil] at this
  rw [this, h1]
  rfl

set_option maxRecDepth 100000 in
set_option maxHeartbeats 8000000 in
theorem l10PutS (la : Option Addr) (ln lc : Nat) (L : List Site) (s : Site) (w : World) (hr : Rd w la ln 2 (L.flatMap sitC)) (hl : L.length = ln) (hm : ln ≤ 100000) :
    Calls Tryz.prog 22 #[.slice la ln lc, .agg #[.int .i64 s.proc, .int .i64 s.pc]] w (RetSit (putL L s) w) := by
  obtain ⟨PL, hPL⟩ : ∃ PL, putL L s = PL := ⟨_, rfl⟩
  have HPL := Lib.hid hPL
  rw [hPL]
  have HR := Lib.hid hr
  have HL := Lib.hid hl
  clear hPL hr hl
  have CL := Lib.hid fun y W => l10LessS s y W
  obtain ⟨E0, hE0⟩ : ∃ E0, w.alloc (.cells #[.int .i64 s.proc, .int .i64 s.pc] 62) = E0 := ⟨_, rfl⟩
  have HB3 := Lib.hid (show Blk E0 w.heap.size 62 #[.int .i64 s.proc, .int .i64 s.pc] by rw [← hE0]; exact Blk.new w _ _)
  have HG0 := Lib.hid (show Grew w E0 by rw [← hE0]; exact grew_al (Below.refl _ w) _)
  have HZ0 := Lib.hid (show E0.heap.size = w.heap.size + 1 by rw [← hE0]; simp)
  have HO0 := Lib.hid (World.ownsRow_lit E0 (e := 62) (size := 2) #[] 0 (base := E0.heap.size) (by simp) (Nat.zero_le _) rfl)
  have HG00 := Lib.hid (grew_al (Below.refl _ E0) (.cells #[] 62))
  have HE0 := Lib.hid hE0
  clear hE0
  go_enter Tryz.func22, Tryz.ntmps22
  go_upto_region 2 with fail
  rw [HE0.out]
  refine wp_letV ?_
  intro E1 hE1
  have HG1 := Lib.hid (show Grew E0 E1 by rw [hE1]; exact HG00.out)
  have HO1 := Lib.hid (show E1.ownsRow E0.heap.size 62 2 (.slice (some ⟨w.heap.size + 1, 0, none⟩) 0 0) 0 [] by rw [hE1]; have h := HO0.out; rw [HZ0.out] at h ⊢; simpa using h)
  clear hE1 HO0 HG00 HE0
  go_wp2
  go_loopw [5, 6, 7] (fun out dn i wr => ∃ (k : Nat) (d : Bool), k ≤ ln ∧ i = .int .i64 k ∧ dn = .bool d ∧ Grew E0 wr ∧ ∃ (O : List Site) (M : Nat) (a1 : Option Addr) (cp : Nat), out = .slice a1 M cp ∧ M = O.length ∧ wr.ownsRow E0.heap.size 62 2 (.slice a1 M cp) M (O.flatMap sitC) ∧ Hid (PutI L s k d O)) (fun _ _ i _ => ln - (Go.RowKit.intOf i).toNat)
  case atStart => exact ⟨0, false, Nat.zero_le _, rfl, rfl, HG1.out, [], 0, _, 0, rfl, rfl, HO1.out, Lib.hid (PutI.start L s)⟩
  case round =>
    obtain ⟨k, d, hk, rfl, rfl, hg, O, M, a1, cp, rfl, hM, hO, hI⟩ := hrel
    have HG := Lib.hid hg
    have HO := Lib.hid hO
    have HM := Lib.hid hM
    have HI := Lib.hid hI.out
    have hMs : M ≤ 100001 := by have := hI.out.len; have := HL.out; omega
    clear hg hO hM hI
    have z0 := (HB3.out.grew HG.out).cell 0
    have z1 := (HB3.out.grew HG.out).cell 1
    have zl := (HB3.out.grew HG.out).lt
    simp only [List.getElem?_toArray, List.getElem?_cons_zero, List.getElem?_cons_succ] at z0 z1
    by_cases hlt : k < ln
    · obtain ⟨y, hy⟩ : ∃ y, L[k]? = some y := ⟨_, List.getElem?_eq_getElem (by rw [HL.out]; exact hlt)⟩
      obtain ⟨bl, ol, rfl, x0, x1⟩ := site_get (HR.out.grew (grew_tr HG0.out HG.out)) hy
      have HY := Lib.hid hy
      have xl := World.block_lt_of_cell? wr _ x0
      simp only at xl
      have X0 := Lib.hid x0
      have X1 := Lib.hid x1
      clear hy
      cases d with
      | true =>
        have HI2 := Lib.hid (HI.out.keep HY.out)
        go_wp2_with fail
        first | refine wp_region_ext2 (by kernel_rfl) (by kernel_rfl) ?_ | refine wp_region_ext (by kernel_rfl) (by kernel_rfl) ?_
        repeat (go_big_quiet_step ((first | fail)))
        refine wpQuiet_nil ?_
        intro _ hw'
        obtain ⟨u, hw''⟩ := hw'
        subst hw''
        clear x0 x1 z0 z1
        go_upto_region 9 with fail
        refine wp_letV ?_
        intro E hE
        have HE := Lib.hid (show Grew wr E by rw [hE]; exact ext_grew _ _)
        have y0 := gk HE.out X0.out
        have y1 := gk HE.out X1.out
        obtain ⟨a3, cp3, W, hrun, o3, g3⟩ := site_more (owns_grew HO.out HE.out) (by omega) (grew_tr HG.out HE.out) y.proc y.pc
        have HRU := Lib.hid hrun
        have HO3 := Lib.hid o3
        have HG3 := Lib.hid g3
        clear hrun o3 g3 hE
        go_wp2_with (at_builtin; refine wpList_append_run rfl _ _ rfl rfl rfl rfl HRU.out ?_)
        clear HRU
        go_roundw
        case rel => exact ⟨k + 1, true, by omega, by go_num, rfl, HG3.out, O ++ [y], M + 1, a3, cp3, rfl, by rw [List.length_append, ← HM.out]; rfl, HO3.out, HI2⟩
        case measure => simp [Go.RowKit.intOf]; omega
      | false =>
        have CLy := Lib.hid fun W => CL.out y W
        cases hls : lessB s y with
        | false =>
          rw [hls] at CLy
          have HI2 := Lib.hid (HI.out.skip HY.out hls)
          clear hls
          go_wp2_with fail
          first | refine wp_region_ext2 (by kernel_rfl) (by kernel_rfl) ?_ | refine wp_region_ext (by kernel_rfl) (by kernel_rfl) ?_
          repeat (go_big_quiet_step ((first | (with_reducible exact ext_grow (CLy.out _)))))
          refine wpQuiet_nil ?_
          intro _ hw'
          obtain ⟨u, hw''⟩ := hw'
          subst hw''
          clear x0 x1 z0 z1 CLy
          go_upto_region 9 with fail
          refine wp_letV ?_
          intro E hE
          have HE := Lib.hid (show Grew wr E by rw [hE]; exact ext_grew _ _)
          have y0 := gk HE.out X0.out
          have y1 := gk HE.out X1.out
          obtain ⟨a3, cp3, W, hrun, o3, g3⟩ := site_more (owns_grew HO.out HE.out) (by omega) (grew_tr HG.out HE.out) y.proc y.pc
          have HRU := Lib.hid hrun
          have HO3 := Lib.hid o3
          have HG3 := Lib.hid g3
          clear hrun o3 g3 hE
          go_wp2_with (at_builtin; refine wpList_append_run rfl _ _ rfl rfl rfl rfl HRU.out ?_)
          clear HRU
          go_roundw
          case rel => exact ⟨k + 1, false, by omega, by go_num, rfl, HG3.out, O ++ [y], M + 1, a3, cp3, rfl, by rw [List.length_append, ← HM.out]; rfl, HO3.out, HI2⟩
          case measure => simp [Go.RowKit.intOf]; omega
        | true =>
          rw [hls] at CLy
          have HI2 := Lib.hid (HI.out.put HY.out hls)
          clear hls
          go_wp2_with fail
          first | refine wp_region_ext2 (by kernel_rfl) (by kernel_rfl) ?_ | refine wp_region_ext (by kernel_rfl) (by kernel_rfl) ?_
          repeat (go_big_quiet_step ((first | (with_reducible exact ext_grow (CLy.out _)))))
          refine wpQuiet_nil ?_
          intro _ hw'
          obtain ⟨u, hw''⟩ := hw'
          subst hw''
          clear x0 x1 CLy
          go_upto_region 7 with fail
          refine wp_letV ?_
          intro E5 hE5
          have HE5 := Lib.hid (show Grew wr E5 by rw [hE5]; exact ext_grew _ _)
          have z0 := gk HE5.out z0
          have z1 := gk HE5.out z1
          obtain ⟨a5, cp5, W5, hrun5, o5, g5⟩ := site_more (owns_grew HO.out HE5.out) (by omega) (grew_tr HG.out HE5.out) s.proc s.pc
          have HRU := Lib.hid hrun5
          have HO5 := Lib.hid o5
          have HG5 := Lib.hid g5
          have X05 := Lib.hid (gk (grew_tr HG0.out HG5.out) (show w.cell? ⟨bl, ol + k * 2, none⟩ = some (.int .i64 y.proc) from by
            obtain ⟨b', o', e, h, -⟩ := site_get HR.out HY.out
            simp only [Option.some.injEq, Addr.mk.injEq] at e
            obtain ⟨rfl, rfl, -⟩ := e
            exact h))
          have X15 := Lib.hid (gk (grew_tr HG0.out HG5.out) (show w.cell? ⟨bl, ol + k * 2 + 1, none⟩ = some (.int .i64 y.pc) from by
            obtain ⟨b', o', e, -, h⟩ := site_get HR.out HY.out
            simp only [Option.some.injEq, Addr.mk.injEq] at e
            obtain ⟨rfl, rfl, -⟩ := e
            exact h))
          have HM5 := Lib.hid (show M + 1 = (O ++ [s]).length by rw [List.length_append, ← HM.out]; rfl)
          clear hrun5 o5 g5 hE5
          go_upto_region 9 with (at_builtin; refine wpList_append_run rfl _ _ rfl rfl rfl rfl HRU.out ?_)
          clear HRU z0 z1
          refine wp_letV ?_
          intro E hE
          have HE := Lib.hid (show Grew W5 E by rw [hE]; exact Below.refl _ _)
          have y0 := gk HE.out X05.out
          have y1 := gk HE.out X15.out
          obtain ⟨a3, cp3, W, hrun, o3, g3⟩ := site_more (owns_grew HO5.out HE.out) (by omega) (grew_tr HG5.out HE.out) y.proc y.pc
          have HRU := Lib.hid hrun
          have HO3 := Lib.hid o3
          have HG3 := Lib.hid g3
          clear hrun o3 g3 hE
          go_wp2_with (at_builtin; refine wpList_append_run rfl _ _ rfl rfl rfl rfl HRU.out ?_)
          clear HRU
          go_roundw
          case rel => exact ⟨k + 1, true, by omega, by go_num, rfl, HG3.out, (O ++ [s]) ++ [y], (M + 1) + 1, a3, cp3, rfl, by rw [List.length_append, ← HM5.out]; rfl, HO3.out, HI2⟩
          case measure => simp [Go.RowKit.intOf]; omega
    · obtain rfl : k = ln := by omega
      cases d with
      | true =>
        have hOe := HI.out.end1 (by rw [HL.out]; exact Nat.le_refl _)
        rw [HPL.out] at hOe
        subst hOe
        clear z0 z1
        go_wp2
        go_ret
        exact ⟨a1, cp, by rw [← HM.out]; rfl, by rw [← HM.out]; exact owns_mono HO.out HG0.out.size, grew_tr HG0.out HG.out⟩
      | false =>
        have hOe := HI.out.end2 (by rw [HL.out]; exact Nat.le_refl _)
        rw [HPL.out] at hOe
        subst hOe
        obtain ⟨a5, cp5, W5, hrun5, o5, g5⟩ := site_more HO.out (by omega) HG.out s.proc s.pc
        have HRU := Lib.hid hrun5
        have HO5 := Lib.hid o5
        have HG5 := Lib.hid g5
        have HM5 := Lib.hid (show (O ++ [s]).length = M + 1 by rw [List.length_append, ← HM.out]; rfl)
        clear hrun5 o5 g5
        go_wp2_with (at_builtin; refine wpList_append_run rfl _ _ rfl rfl rfl rfl HRU.out ?_)
        clear HRU
        go_ret
        exact ⟨a5, cp5, by rw [HM5.out]; rfl, by rw [HM5.out]; exact owns_mono HO5.out HG0.out.size, grew_tr HG0.out HG5.out⟩
end Go.Proofs.YtdddhnepanjmfaaGreat
