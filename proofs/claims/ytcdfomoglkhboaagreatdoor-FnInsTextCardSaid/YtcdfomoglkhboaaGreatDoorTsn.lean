/- The reference's reader of a number, and its words. No condition. -/
import Derived.Test.YtcdfomoglkhboaaGreatDoorTs
import Derived.Test.YtcdfomoglkhboaaGreatDoorRegion
import Derived.Test.YtcdfomoglkhboaaGreatDoorBlk
import Derived.Test.YtcdfomoglkhboaaGreatDoorTwo
import Derived.Test.YtcdfomoglkhboaaGreatDoorRgw
import Derived.Test.YtcdfomoglkhboaaGreatDoorStrs
namespace Go.Proofs.YtcdfomoglkhboaaGreatDoor
open Go.RowKit Go.Lib
set_option linter.unusedVariables false
set_option linter.unusedSimpArgs false
attribute [local go_sem] ext_cell ext_frozen ext_lt ext_le ext_le1 lt_s2 lt_s3 lt_s4 lt_s5 lt_s6 ext_lt1 ext_lt2 ext_lt3
attribute [local go_sem] ByteArray.mk_append_mk ByteArray.extract_mk

theorem ba_lt {l : List UInt8} {i : Nat} (h : i < (ByteArray.mk l.toArray).size) : i < l.length := by
  have : (ByteArray.mk l.toArray).size = l.length := by show l.toArray.size = _; rw [List.size_toArray]
  omega
theorem baGet (l : List UInt8) (i : Nat) (h : i < (ByteArray.mk l.toArray).size) : (ByteArray.mk l.toArray)[i]'h = l[i]'(ba_lt h) := rfl
attribute [local go_sem] baGet
def valV (o : Option Nat) : Value := match o with
  | some n => .tuple #[.int .i64 n, .bool true]
  | none => .tuple #[.int .i64 0, .bool false]
theorem take_get1 {l : List UInt8} {k : Nat} {c : UInt8} (h : l[k]? = some c) : l.take (k + 1) = l.take k ++ [c] := by
  rw [List.take_add_one, h]; rfl
theorem decFrom_bad {l : List UInt8} {k a : Nat} {c : UInt8} (h : l[k]? = some c) (ha : decFrom 0 (l.take k) = some a) (hc : ¬ (48 ≤ c.toNat ∧ c.toNat ≤ 57)) : decFrom 0 l = none := by
  obtain ⟨hk, hkc⟩ := List.getElem?_eq_some_iff.1 h
  have e : l = l.take k ++ (c :: l.drop (k + 1)) := by
    conv => lhs; rw [← List.take_append_drop k l, List.drop_eq_getElem_cons hk, hkc]
  rw [e, decFrom_append, ha]
  simp only [Option.bind_some, decFrom]
  have : digitVal c = none := by unfold digitVal; rw [if_neg hc]
  rw [this]
theorem decFrom_one {l : List UInt8} {k a : Nat} {c : UInt8} (h : l[k]? = some c) (ha : decFrom 0 (l.take k) = some a) (hc : 48 ≤ c.toNat ∧ c.toNat ≤ 57) : decFrom 0 (l.take (k + 1)) = some (a * 10 + (c.toNat - 48)) := by
  rw [take_get1 h, decFrom_append, ha]
  simp only [Option.bind_some, decFrom]
  have : digitVal c = some (c.toNat - 48) := by unfold digitVal; rw [if_pos hc]
  rw [this]

set_option maxRecDepth 100000 in
set_option maxHeartbeats 1000000 in
theorem specValue (l : List UInt8) (w : World) (hl : l.length ≤ 1100000) :
    Calls Tryz.prog 123 #[.string ⟨l.toArray⟩] w fun e w' => e = .returned (valV (valueS l)) ∧ w = w' := by
  by_cases h0 : l.length = 0
  · have e : valueS l = none := by unfold valueS; rw [if_pos (.inl h0)]
    rw [e]
    clear e
    go_enter Tryz.func123, Tryz.ntmps123
    go_wp2
    go_returns
    exact ⟨rfl, rfl⟩
  by_cases h6 : 6 < l.length
  · have e : valueS l = none := by unfold valueS; rw [if_pos (.inr h6)]
    rw [e]
    clear e
    have h6' : (6 : Int) < (l.length : Int) := by omega
    go_enter Tryz.func123, Tryz.ntmps123
    go_wp2
    go_returns
    exact ⟨rfl, rfl⟩
  have HV : Hid (valueS l = decFrom 0 l) := Lib.hid (by unfold valueS; rw [if_neg (by omega)])
  rw [HV.out]
  have h6' : ¬ (6 : Int) < (l.length : Int) := by omega
  go_enter Tryz.func123, Tryz.ntmps123
  go_wp2
  go_loop [4, 5] (fun n i => ∃ k a : Nat, k ≤ l.length ∧ a < 10 ^ k ∧ i = .int .i64 k ∧ n = .int .i64 a ∧ Hid (decFrom 0 (l.take k) = some a)) (fun _ i => l.length - (Go.RowKit.intOf i).toNat)
  case atStart => exact ⟨0, 0, Nat.zero_le _, by decide, rfl, rfl, Lib.hid rfl⟩
  case round =>
    obtain ⟨k, a, hk, ha, rfl, rfl, hd⟩ := hrel
    have ha' : a ≤ 1000000 := by
      have : 10 ^ k ≤ 10 ^ 6 := Nat.pow_le_pow_right (by decide) (by omega)
      omega
    have HA := Lib.hid ha
    clear ha
    by_cases hlt : k < l.length
    · obtain ⟨c, hc⟩ : ∃ c, l[k] = c := ⟨_, rfl⟩
      have hx : l[k]? = some c := by rw [List.getElem?_eq_getElem hlt, hc]
      by_cases hdg : 48 ≤ c.toNat ∧ c.toNat ≤ 57
      · have hn := Lib.hid (decFrom_one hx hd.out hdg)
        obtain ⟨g1, g2⟩ := hdg
        have g1' : ¬ (c.toNat : Int) < 48 := by omega
        have g2' : ¬ (57 : Int) < (c.toNat : Int) := by omega
        clear hx
        go_wp2
        all_goals
          go_round
          case rel => exact ⟨k + 1, a * 10 + (c.toNat - 48), by omega, by have := HA.out; rw [Nat.pow_succ]; omega, by go_num, by first | (congr 1; omega) | (simp; omega), hn⟩
          case measure => simp [Go.RowKit.intOf]; omega
      · have hn : Hid (decFrom 0 l = none) := Lib.hid (decFrom_bad hx hd.out hdg)
        clear hx
        by_cases g1 : c.toNat < 48
        · have g1' : (c.toNat : Int) < 48 := by omega
          go_wp2
          go_returns
          exact ⟨by rw [hn.out]; rfl, rfl⟩
        · have g1' : ¬ (c.toNat : Int) < 48 := by omega
          have g2' : (57 : Int) < (c.toNat : Int) := by omega
          go_wp2
          go_returns
          exact ⟨by rw [hn.out]; rfl, rfl⟩
    · have he : Hid (decFrom 0 l = some a) := Lib.hid (by have := hd.out; rwa [List.take_of_length_le (by omega)] at this)
      go_wp2
      go_returns
      exact ⟨by rw [he.out]; rfl, rfl⟩

theorem specNumText (n : Int) (w : World) (h1 : -1000000 ≤ n) (h2 : n ≤ 1000000) :
    Calls Tryz.prog 124 #[.int .i64 n] w fun e w' => e = .returned (.string ⟨(if numOkB n then itoa n else []).toArray⟩) ∧ Grew w w' := by
  have CD := Lib.hid fun w => specDigits n w (by omega) (by omega)
  cases hb : numOkB n
  · have HC : Hid (∀ w, Calls Tryz.prog 53 #[.int .i64 n] w fun e w' => e = .returned (.bool false) ∧ w = w') := Lib.hid fun w => bool_is (specNumOk n w) hb
    clear hb
    go_enter Tryz.func124, Tryz.ntmps124
    go_wp2_with (first | ((with_reducible refine (HC.out _).mono ?_); rintro e w' ⟨rfl, rfl⟩) | ((with_reducible refine (CD.out _).mono ?_); rintro e w' ⟨rfl, g'⟩; (first | obtain ⟨x, rfl⟩ := ext_cold g' | obtain ⟨x, rfl⟩ := ext_col g' | obtain ⟨x, rfl⟩ := ext_of g'); clear g'))
    go_ret
    exact ⟨rfl, gr⟩
  · have HC : Hid (∀ w, Calls Tryz.prog 53 #[.int .i64 n] w fun e w' => e = .returned (.bool true) ∧ w = w') := Lib.hid fun w => bool_is (specNumOk n w) hb
    clear hb
    go_enter Tryz.func124, Tryz.ntmps124
    go_wp2_with (first | ((with_reducible refine (HC.out _).mono ?_); rintro e w' ⟨rfl, rfl⟩) | ((with_reducible refine (CD.out _).mono ?_); rintro e w' ⟨rfl, g'⟩; (first | obtain ⟨x, rfl⟩ := ext_cold g' | obtain ⟨x, rfl⟩ := ext_col g' | obtain ⟨x, rfl⟩ := ext_of g'); clear g'))
    go_ret
    exact ⟨rfl, gr⟩
def numV (o : Option Int) : Value := match o with
  | some n => .tuple #[.int .i64 n, .bool true]
  | none => .tuple #[.int .i64 0, .bool false]
theorem decFrom_lt : ∀ (l : List UInt8) (a n : Nat), decFrom a l = some n → n < (a + 1) * 10 ^ l.length
  | [], a, n, h => by
    simp only [decFrom, Option.some.injEq] at h
    subst h; simp
  | c :: l, a, n, h => by
    simp only [decFrom] at h
    cases hd : digitVal c with
    | none => rw [hd] at h; cases h
    | some d =>
      rw [hd] at h
      have hd9 : d < 10 := by
        unfold digitVal at hd
        split at hd
        · injection hd with hd; omega
        · cases hd
      have := decFrom_lt l _ n h
      rw [List.length_cons, Nat.pow_succ]
      have e : (a * 10 + d + 1) * 10 ^ l.length ≤ (a + 1) * 10 * 10 ^ l.length := Nat.mul_le_mul_right _ (by omega)
      have e2 : (a + 1) * (10 ^ l.length * 10) = (a + 1) * 10 * 10 ^ l.length := by rw [Nat.mul_comm (10 ^ l.length) 10, Nat.mul_assoc]
      omega
theorem valueS_lt {l : List UInt8} {n : Nat} (h : valueS l = some n) : n < 1000000 := by
  unfold valueS at h
  split at h
  · cases h
  · rename_i hc
    have := decFrom_lt l 0 n h
    have : 10 ^ l.length ≤ 10 ^ 6 := Nat.pow_le_pow_right (by decide) (by omega)
    omega
theorem bareS_len (l : List UInt8) : (bareS l).length ≤ l.length := by
  unfold bareS
  split
  · split <;> simp
  · simp

set_option maxRecDepth 100000 in
theorem specNumRead (l : List UInt8) (w : World) (hl : l.length ≤ 1100000) :
    Calls Tryz.prog 104 #[.string ⟨l.toArray⟩] w fun e w' => e = .returned (numV (readN l)) ∧ Grew w w' := by
  rw [← readS_eq]
  have CV := Lib.hid fun w => specValue (bareS l) w (by have := bareS_len l; omega)
  -- the walk behind the bare text
  by_cases hm : ∃ r, l = 45 :: r
  · obtain ⟨r, rfl⟩ := hm
    have hb : bareS (45 :: r) = r := rfl
    rw [hb] at CV
    have HB := Lib.hid hb
    cases hv : valueS r with
    | none =>
      have HE : Hid (readS (45 :: r) = none) := Lib.hid (by unfold readS; rw [hb, hv])
      rw [hv] at CV
      simp only [valV] at CV
      clear hb hv
      go_enter Tryz.func104, Tryz.ntmps104
      go_wp2_with ((with_reducible refine (CV.out _).mono ?_); rintro e w' ⟨rfl, rfl⟩)
      go_returns
      exact ⟨by rw [HE.out]; rfl, gr⟩
    | some n =>
      have hn := valueS_lt hv
      have CT := Lib.hid fun w => specNumText (-(n : Int)) w (by omega) (by omega)
      have hlt : (r.length : Int) < ((r.length + 1 : Nat) : Int) := by omega
      have HR : Hid (readS (45 :: r) = if (if numOkB (-(n : Int)) then itoa (-(n : Int)) else []) = 45 :: r then some (-(n : Int)) else none) := Lib.hid (by
        unfold readS
        rw [hb, hv]
        simp only [List.length_cons, if_pos (Nat.lt_succ_self r.length)]
        cases numOkB (-(n : Int)) <;> simp)
      rw [hv] at CV
      simp only [valV] at CV
      generalize (if numOkB (-(n : Int)) then itoa (-(n : Int)) else []) = tx at *
      clear hb hv
      by_cases htx : tx = 45 :: r
      · subst htx
        have HE : Hid (readS (45 :: r) = some (-(n : Int))) := Lib.hid (by rw [HR.out, if_pos rfl])
        have t1 : ((45 :: r : List UInt8) == 45 :: r) = true := by simp
        have t2 : ((45 :: r : List UInt8) != 45 :: r) = false := by simp
        go_enter Tryz.func104, Tryz.ntmps104
        go_wp2_with (first | ((with_reducible refine (CV.out _).mono ?_); rintro e w' ⟨rfl, rfl⟩) | ((with_reducible refine (CT.out _).mono ?_); rintro e w' ⟨rfl, g'⟩; (first | obtain ⟨x, rfl⟩ := ext_cold g' | obtain ⟨x, rfl⟩ := ext_col g' | obtain ⟨x, rfl⟩ := ext_of g'); clear g'))
        go_returns
        exact ⟨by rw [HE.out]; rfl, gr⟩
      · have HE : Hid (readS (45 :: r) = none) := Lib.hid (by rw [HR.out, if_neg htx])
        have t1 : (tx == 45 :: r) = false := by simp [htx]
        have t2 : (tx != 45 :: r) = true := by simp [htx]
        clear htx HR
        go_enter Tryz.func104, Tryz.ntmps104
        go_wp2_with (first | ((with_reducible refine (CV.out _).mono ?_); rintro e w' ⟨rfl, rfl⟩) | ((with_reducible refine (CT.out _).mono ?_); rintro e w' ⟨rfl, g'⟩; (first | obtain ⟨x, rfl⟩ := ext_cold g' | obtain ⟨x, rfl⟩ := ext_col g' | obtain ⟨x, rfl⟩ := ext_of g'); clear g'))
        go_returns
        exact ⟨by rw [HE.out]; rfl, gr⟩
  · cases l with
    | nil =>
      have CV := Lib.hid fun w => specValue [] w (by simp)
      have HE : Hid (readS [] = none) := Lib.hid rfl
      simp only [valueS, valV] at CV
      clear hm hl
      go_enter Tryz.func104, Tryz.ntmps104
      go_wp2_with ((with_reducible refine (CV.out _).mono ?_); rintro e w' ⟨rfl, rfl⟩)
      go_returns
      exact ⟨by rw [HE.out]; rfl, gr⟩
    | cons c r =>
      have hc : c ≠ 45 := fun e => hm ⟨r, by rw [e]⟩
      have hc1 : ¬ (c.toNat : Int) = 45 := fun e => hc (by apply UInt8.toNat_inj.1; show c.toNat = 45; omega)
      have hc2 : ((c.toNat : Int) == 45) = false := by simpa using hc1
      have hb : bareS (c :: r) = c :: r := by simp [bareS, hc]
      rw [hb] at CV
      clear hm hc
      cases hv : valueS (c :: r) with
      | none =>
        have HE : Hid (readS (c :: r) = none) := Lib.hid (by unfold readS; rw [hb, hv])
        rw [hv] at CV
        simp only [valV] at CV
        clear hb hv
        go_enter Tryz.func104, Tryz.ntmps104
        go_wp2_with ((with_reducible refine (CV.out _).mono ?_); rintro e w' ⟨rfl, rfl⟩)
        go_returns
        exact ⟨by rw [HE.out]; rfl, gr⟩
      | some n =>
        have hn := valueS_lt hv
        have CT := Lib.hid fun w => specNumText (n : Int) w (by omega) (by omega)
        have HR : Hid (readS (c :: r) = if (if numOkB (n : Int) then itoa (n : Int) else []) = c :: r then some (n : Int) else none) := Lib.hid (by
          unfold readS
          rw [hb, hv]
          simp only [List.length_cons, if_neg (Nat.lt_irrefl (r.length + 1))]
          cases numOkB (n : Int) <;> simp)
        rw [hv] at CV
        simp only [valV] at CV
        generalize (if numOkB (n : Int) then itoa (n : Int) else []) = tx at *
        clear hb hv
        by_cases htx : tx = c :: r
        · subst htx
          have HE : Hid (readS (c :: r) = some (n : Int)) := Lib.hid (by rw [HR.out, if_pos rfl])
          have t1 : ((c :: r : List UInt8) == c :: r) = true := by simp
          have t2 : ((c :: r : List UInt8) != c :: r) = false := by simp
          go_enter Tryz.func104, Tryz.ntmps104
          go_wp2_with (first | ((with_reducible refine (CV.out _).mono ?_); rintro e w' ⟨rfl, rfl⟩) | ((with_reducible refine (CT.out _).mono ?_); rintro e w' ⟨rfl, g'⟩; (first | obtain ⟨x, rfl⟩ := ext_cold g' | obtain ⟨x, rfl⟩ := ext_col g' | obtain ⟨x, rfl⟩ := ext_of g'); clear g'))
          go_returns
          exact ⟨by rw [HE.out]; rfl, gr⟩
        · have HE : Hid (readS (c :: r) = none) := Lib.hid (by rw [HR.out, if_neg htx])
          have t1 : (tx == c :: r) = false := by simp [htx]
          have t2 : (tx != c :: r) = true := by simp [htx]
          clear htx HR
          go_enter Tryz.func104, Tryz.ntmps104
          go_wp2_with (first | ((with_reducible refine (CV.out _).mono ?_); rintro e w' ⟨rfl, rfl⟩) | ((with_reducible refine (CT.out _).mono ?_); rintro e w' ⟨rfl, g'⟩; (first | obtain ⟨x, rfl⟩ := ext_cold g' | obtain ⟨x, rfl⟩ := ext_col g' | obtain ⟨x, rfl⟩ := ext_of g'); clear g'))
          go_returns
          exact ⟨by rw [HE.out]; rfl, gr⟩
end Go.Proofs.YtcdfomoglkhboaaGreatDoor
