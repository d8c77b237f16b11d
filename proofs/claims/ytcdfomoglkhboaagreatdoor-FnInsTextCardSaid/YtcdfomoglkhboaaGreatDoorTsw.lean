/- The reference's words of a text, and what its reader makes of a word. No condition. -/
import Derived.Test.YtcdfomoglkhboaaGreatDoorTsn
import Derived.Test.YtcdfomoglkhboaaGreatDoorTxC
namespace Go.Proofs.YtcdfomoglkhboaaGreatDoor
open Go.RowKit Go.Lib
set_option linter.unusedVariables false
set_option linter.unusedSimpArgs false
attribute [local go_sem] ext_cell ext_frozen ext_lt ext_le ext_le1 lt_s2 lt_s3 lt_s4 lt_s5 lt_s6 ext_lt1 ext_lt2 ext_lt3
attribute [local go_sem] ByteArray.mk_append_mk ByteArray.extract_mk baGet

theorem drop_one {l : List UInt8} {k : Nat} {c : UInt8} (h : l[k]? = some c) : (l.drop k).take 1 = [c] := by
  obtain ⟨hk, hc⟩ := List.getElem?_eq_some_iff.1 h
  rw [List.drop_eq_getElem_cons hk, hc]
  rfl
theorem drop_cons {l : List UInt8} {k : Nat} {c : UInt8} (h : l[k]? = some c) : l.drop k = c :: l.drop (k + 1) := by
  obtain ⟨hk, hc⟩ := List.getElem?_eq_some_iff.1 h
  rw [List.drop_eq_getElem_cons hk, hc]

set_option maxRecDepth 100000 in
set_option maxHeartbeats 1000000 in
theorem specWords (l : List UInt8) (w : World) (hl : l.length ≤ 1100000) :
    Calls Tryz.prog 36 #[.string ⟨l.toArray⟩] w fun e w' => RetSs (split l [32]) w e w' := by
  rw [split_words _ l (Nat.lt_succ_self _)]
  have HO := Lib.hid (World.ownsRow_made (base := w.heap.size) (e := 9) (size := 1) w #[] 0 (Nat.le_refl _) (by unfold maxLen; omega) rfl)
  have HG := Lib.hid (grew_al (Below.refl _ w) (.cells #[] 9))
  go_enter Tryz.func36, Tryz.ntmps36
  go_wp2
  go_loopw [3, 4, 5] (fun out cu i wr => ∃ (k n : Nat) (a : Option Addr) (c : Nat) (ws : List (List UInt8)) (cur : List UInt8), k ≤ l.length ∧ i = .int .i64 k ∧ out = .slice a n c ∧ cu = .string ⟨cur.toArray⟩ ∧ n = ws.length ∧ n ≤ k ∧ cur.length ≤ k ∧
    Hid (wr.ownsRow w.heap.size 9 1 (.slice a n c) n (strs ws)) ∧ Hid (wordsFrom [] l = ws ++ wordsFrom cur (l.drop k)) ∧ Hid (Grew w wr)) (fun _ _ i _ => l.length - (Go.RowKit.intOf i).toNat)
  case atStart => exact ⟨0, 0, _, 0, [], [], Nat.zero_le _, rfl, rfl, rfl, rfl, Nat.le_refl _, Nat.le_refl _, HO, Lib.hid rfl, HG⟩
  case round =>
    obtain ⟨k, n, a, c, ws, cur, hk, rfl, rfl, rfl, hn, hnk, hck, hO, hW, hG⟩ := hrel
    have HN := Lib.hid hn
    clear hn
    by_cases hlt : k < l.length
    · obtain ⟨ch, hch⟩ : ∃ ch, l[k] = ch := ⟨_, rfl⟩
      have hx : l[k]? = some ch := by rw [List.getElem?_eq_getElem hlt, hch]
      have HX := Lib.hid hx
      have hd1 := drop_one hx
      by_cases h32 : ch = 32
      · subst h32
        have hc32 : ((32 : UInt8).toNat : Int) = 32 := rfl
        obtain ⟨v3, w3, hrun, o3, g3, hv3⟩ := owns_append_lit (P := Tryz.prog) wr strEl hO.out 1 [.string ⟨cur.toArray⟩] rfl (by simp [Value.oneCell']) (by omega) (by omega) hG.out.size
        obtain ⟨a3, c3, rfl⟩ := owns_slice o3
        have HG3 := Lib.hid (show Grew w w3 from hG.out.trans ((Chg.of_grownBy g3).belowB hG.out.size (fun b hb => (hO.out.lt b hb).1)))
        have HO3 := Lib.hid (show w3.ownsRow w.heap.size 9 1 (.slice a3 (n + 1) c3) (n + 1) (strs (ws ++ [cur])) by rw [strs_app]; exact o3)
        have HW3 := Lib.hid (show wordsFrom [] l = (ws ++ [cur]) ++ wordsFrom [] (l.drop (k + 1)) by
          rw [hW.out, drop_cons HX.out, wordsFrom, if_pos rfl, List.append_assoc]; rfl)
        have R := Lib.hid hrun
        clear hrun o3 g3 hv3 hx hd1 hO hG hW
        go_wp2_with (at_builtin; refine wpList_append_run rfl _ _ rfl rfl rfl rfl R.out ?_; clear R)
        go_roundw
        case rel => exact ⟨k + 1, n + 1, a3, c3, ws ++ [cur], [], by omega, by go_num, rfl, rfl, by rw [List.length_append, HN.out]; rfl, by omega, Nat.zero_le _, HO3, HW3, HG3⟩
        case measure => simp [Go.RowKit.intOf]; omega
      · have hc32 : ¬ (ch.toNat : Int) = 32 := fun e => h32 (by apply UInt8.toNat_inj.1; show ch.toNat = 32; omega)
        have hc32' : ((ch.toNat : Int) == 32) = false := by simpa using hc32
        have HW3 := Lib.hid (show wordsFrom [] l = ws ++ wordsFrom (cur ++ [ch]) (l.drop (k + 1)) by
          rw [hW.out, drop_cons HX.out, wordsFrom, if_neg h32])
        clear hx hW
        go_wp2
        go_roundw
        case rel => exact ⟨k + 1, n, a, c, ws, cur ++ [ch], by omega, by go_num, rfl, rfl, HN.out, by omega, by simp; omega, hO, HW3, hG⟩
        case measure => simp [Go.RowKit.intOf]; omega
    · have HE := Lib.hid (show wordsFrom [] l = ws ++ [cur] by
        rw [hW.out, List.drop_of_length_le (by omega)]; rfl)
      obtain ⟨v3, w3, hrun, o3, g3, hv3⟩ := owns_append_lit (P := Tryz.prog) wr strEl hO.out 1 [.string ⟨cur.toArray⟩] rfl (by simp [Value.oneCell']) (by omega) (by omega) hG.out.size
      obtain ⟨a3, c3, rfl⟩ := owns_slice o3
      have HG3 := Lib.hid (show Grew w w3 from hG.out.trans ((Chg.of_grownBy g3).belowB hG.out.size (fun b hb => (hO.out.lt b hb).1)))
      have HO3 := Lib.hid (show w3.ownsRow w.heap.size 9 1 (.slice a3 (n + 1) c3) (n + 1) (strs (ws ++ [cur])) by rw [strs_app]; exact o3)
      have R := Lib.hid hrun
      clear hrun o3 g3 hv3 hO hG hW
      go_wp2_with (at_builtin; refine wpList_append_run rfl _ _ rfl rfl rfl rfl R.out ?_; clear R)
      go_ret
      have hlen : (wordsFrom [] l).length = n + 1 := by rw [HE.out, List.length_append, HN.out]; rfl
      refine ⟨a3, c3, by rw [hlen]; rfl, ?_, HG3.out⟩
      rw [hlen, HE.out]
      exact HO3.out

theorem specAt (a : Option Addr) (c : Nat) (ws : List (List UInt8)) (k : Nat) (w : World) (hr : Rd w a ws.length 1 (strs ws)) (hk : k ≤ 100) :
    Calls Tryz.prog 70 #[.slice a ws.length c, .int .i64 k] w fun e w' => e = .returned (.string ⟨(atS ws k).toArray⟩) ∧ w = w' := by
  by_cases h : k < ws.length
  · obtain ⟨b, off, x, rfl, hx, hc⟩ := hr.atS h
    have e : atS ws k = x := by unfold atS; rw [List.getD_eq_getElem?_getD, hx]; rfl
    rw [e]
    clear hr hx e
    go_enter Tryz.func70, Tryz.ntmps70
    go_wp2
    go_ret
    exact ⟨rfl, rfl⟩
  · have e : atS ws k = [] := by unfold atS; rw [List.getD_eq_getElem?_getD, List.getElem?_eq_none (by omega)]; rfl
    rw [e]
    have h' : (ws.length : Int) ≤ (k : Int) := by omega
    clear hr e
    go_enter Tryz.func70, Tryz.ntmps70
    go_wp2
    go_ret
    exact ⟨rfl, rfl⟩
theorem specNum (l : List UInt8) (w : World) (hl : l.length ≤ 1100000) :
    Calls Tryz.prog 73 #[.string ⟨l.toArray⟩] w fun e w' => e = .returned (.int .i64 (numOfS l)) ∧ Grew w w' := by
  have CR := fun w => specNumRead l w hl
  unfold numOfS
  cases h : readN l with
  | none =>
    rw [h] at CR
    simp only [numV] at CR
    have HC := Lib.hid CR
    clear CR h
    go_enter Tryz.func73, Tryz.ntmps73
    go_wp2_with ((with_reducible refine (HC.out _).mono ?_); rintro e w' ⟨rfl, g'⟩; (first | obtain ⟨x, rfl⟩ := ext_cold g' | obtain ⟨x, rfl⟩ := ext_col g' | obtain ⟨x, rfl⟩ := ext_of g'); clear g')
    go_ret
    exact ⟨rfl, gr⟩
  | some n =>
    rw [h] at CR
    simp only [numV] at CR
    have HC := Lib.hid CR
    clear CR h
    go_enter Tryz.func73, Tryz.ntmps73
    go_wp2_with ((with_reducible refine (HC.out _).mono ?_); rintro e w' ⟨rfl, g'⟩; (first | obtain ⟨x, rfl⟩ := ext_cold g' | obtain ⟨x, rfl⟩ := ext_col g' | obtain ⟨x, rfl⟩ := ext_of g'); clear g')
    go_ret
    exact ⟨rfl, gr⟩
theorem varOfS_one (c : UInt8) : varOfS [c] = if c.toNat < 97 ∨ 101 ≤ c.toNat then -1 else (c.toNat : Int) - 97 := rfl
set_option maxRecDepth 100000 in
theorem specVarOf (l : List UInt8) (w : World) :
    Calls Tryz.prog 72 #[.string ⟨l.toArray⟩] w fun e w' => e = .returned (.int .i64 (varOfS l)) ∧ w = w' := by
  by_cases h1 : ∃ c, l = [c]
  · obtain ⟨c, rfl⟩ := h1
    have hcb : (c.toNat : Int) ≤ 255 := by have := c.toNat_lt; omega
    by_cases h2 : c.toNat < 97
    · have e : varOfS [c] = -1 := by rw [varOfS_one, if_pos (.inl h2)]
      rw [e]
      have h2' : (c.toNat : Int) < 97 := by omega
      clear e
      go_enter Tryz.func72, Tryz.ntmps72
      go_wp2
      go_ret
      exact ⟨rfl, rfl⟩
    · by_cases h3 : 101 ≤ c.toNat
      · have e : varOfS [c] = -1 := by rw [varOfS_one, if_pos (.inr h3)]
        rw [e]
        have h2' : ¬ (c.toNat : Int) < 97 := by omega
        have h3' : (101 : Int) ≤ (c.toNat : Int) := by omega
        clear e
        go_enter Tryz.func72, Tryz.ntmps72
        go_wp2
        go_ret
        exact ⟨rfl, rfl⟩
      · have e : varOfS [c] = (c.toNat : Int) - 97 := by rw [varOfS_one, if_neg (by omega)]
        rw [e]
        have h2' : ¬ (c.toNat : Int) < 97 := by omega
        have h3' : ¬ (101 : Int) ≤ (c.toNat : Int) := by omega
        clear e
        go_enter Tryz.func72, Tryz.ntmps72
        go_wp2
        go_ret
        exact ⟨rfl, rfl⟩
  · have e : varOfS l = -1 := by
      unfold varOfS
      split
      · rename_i c; exact absurd ⟨c, rfl⟩ h1
      · rfl
    rw [e]
    have hl : ¬ (l.length : Int) = 1 := fun h => h1 (by
      match l, h with
      | [c], _ => exact ⟨c, rfl⟩
      | [], h => simp at h
      | c :: d :: r, h => simp at h; omega)
    clear e h1
    go_enter Tryz.func72, Tryz.ntmps72
    go_wp2
    all_goals
      go_ret
      exact ⟨rfl, rfl⟩
end Go.Proofs.YtcdfomoglkhboaaGreatDoor
