/- Rows of texts: as answers; compared, marked, held. No condition. -/
import Derived.Test.YtcdfomoglkhboaaGreatDoorTw
import Derived.Test.YtcdfomoglkhboaaGreatDoorBlk
namespace Go.Proofs.YtcdfomoglkhboaaGreatDoor
open Go.RowKit Go.Lib
set_option linter.unusedVariables false
set_option linter.unusedSimpArgs false
attribute [local go_sem] ext_cell ext_frozen ext_lt ext_le ext_le1 lt_s2 lt_s3 lt_s4 lt_s5 lt_s6 ext_lt1 ext_lt2 ext_lt3
attribute [local go_sem] ByteArray.mk_append_mk

def strs (ls : List (List UInt8)) : List Value := ls.map fun x => .string ⟨x.toArray⟩
theorem strInfo : (Tryz.prog.info? 9).map (fun i => (i.zero, i.size, i.bytes)) = some (some (.string ByteArray.empty), 1, 16) := by kernel_rfl
theorem strEl : El Tryz.prog 27 9 (.string ByteArray.empty) 1 16 := El.mk' strInfo Tryz.underlying27 rfl (by omega)
theorem strs_app (xs ys : List (List UInt8)) : strs (xs ++ ys) = strs xs ++ strs ys := by simp [strs]
theorem strs_len (xs : List (List UInt8)) : (strs xs).length = xs.length := by simp [strs]
theorem strs_at (xs : List (List UInt8)) (j : Nat) : (strs xs)[j]? = (xs[j]?).map fun x => Value.string ⟨x.toArray⟩ := by simp [strs]
/-- The answer: a row of texts of the call's own. -/
def RetSs (L : List (List UInt8)) (w : World) (e : Ending) (w' : World) : Prop := ∃ a c, e = .returned (.slice a L.length c) ∧ w'.ownsRow w.heap.size 9 1 (.slice a L.length c) L.length (strs L) ∧ Grew w w'
theorem Rd.atS {w : World} {a : Option Addr} {n : Nat} {zs : List (List UInt8)} (h : Rd w a n 1 (strs zs)) {k : Nat} (hk : k < n) :
    ∃ b off x, a = some ⟨b, off, none⟩ ∧ zs[k]? = some x ∧ w.cell? ⟨b, off + k, none⟩ = some (.string ⟨x.toArray⟩) := by
  obtain ⟨h1, h2⟩ := h
  rw [strs_len] at h1
  rcases h2 with h2 | ⟨b, off, rfl, h2⟩
  · have := congrArg List.length h2
    rw [strs_len, List.length_nil] at this
    omega
  · have hk' : k < zs.length := by omega
    have hx : zs[k]? = some zs[k] := List.getElem?_eq_getElem hk'
    exact ⟨b, off, zs[k], rfl, hx, h2 k _ (by rw [strs_at, hx]; rfl)⟩



end Go.Proofs.YtcdfomoglkhboaaGreatDoor
