/- Lemmas and walks of this proof, some texts one behind the other. No condition. -/
import Derived.Test.YtdddhnepanjmfaaGreatFailI
import Derived.Test.YtdddhnepanjmfaaGreatFailS
import Derived.Test.YtdddhnepanjmfaaGreatLawInsOk
import Derived.Test.YtdddhnepanjmfaaGreatSt
import Derived.Test.YtdddhnepanjmfaaGreatVl
set_option linter.unusedSimpArgs false
set_option linter.unusedVariables false
/- May an instruction fail in a state: both sides put together. No condition. -/
namespace Go.Proofs.YtdddhnepanjmfaaGreat
open Go.RowKit
set_option linter.unusedVariables false
set_option linter.unusedSimpArgs false
attribute [local go_sem] ext_cell ext_frozen ext_lt ext_le ext_le1 lt_s2 lt_s3 lt_s4 lt_s5 lt_s6 ext_lt1 ext_lt2 ext_lt3

theorem ins_parts {i : Ins} {n m : Int} (h : insOkB i n m = true) : (1 ≤ i.op ∧ i.op ≤ 12) ∧ varB i.d = true ∧ varB i.a = true ∧ varB i.b = true ∧ tailB i n m = true := by
  simp only [insOkB, headB, Bool.and_eq_true, decide_eq_true_eq] at h
  obtain ⟨⟨h1, _, hD, hA, hB⟩, hT⟩ := h
  exact ⟨h1, hD, hA, hB, hT⟩
theorem op12 {op : Int} (h : 1 ≤ op ∧ op ≤ 12) : op = 1 ∨ op = 2 ∨ op = 3 ∨ op = 4 ∨ op = 5 ∨ op = 6 ∨ op = 7 ∨ op = 8 ∨ op = 9 ∨ op = 10 ∨ op = 11 ∨ op = 12 := by omega
theorem implFails (sb : Nat) (pa : Option Addr) (pn pc : Nat) (ps : List Prc) (i : Ins) (xs : List Itv) (slo shi : Int) (w : World) (hr : RdP w pa pn ps) (hb : Blk w sb 165 (stC xs slo shi)) (ho : stOkB true xs slo shi = true) (hp : prgOkB ps = true) (hi : insOkB i pn 10 = true) :
    Calls Tryz.prog 101 #[.pointer (some ⟨sb, 0, none⟩), .agg #[.slice pa pn pc], i.v] w fun e w' => e = .returned (.bool (failsB ps i xs)) ∧ Grew w w' := by
  obtain ⟨op, d, a, b, rel, lo, hi2, to⟩ := i
  obtain ⟨h1, hD, hA, hB, hT⟩ := ins_parts hi
  rcases op12 h1 with rfl | rfl | rfl | rfl | rfl | rfl | rfl | rfl | rfl | rfl | rfl | rfl
  · rw [show failsB ps ⟨1, d, a, b, rel, lo, hi2, to⟩ xs = false from by simp [failsB]]
    exact implFails1 sb pa pn pc d a b rel lo hi2 to xs slo shi w
  · rw [show failsB ps ⟨2, d, a, b, rel, lo, hi2, to⟩ xs = false from by simp [failsB]]
    exact implFails2 sb pa pn pc d a b rel lo hi2 to xs slo shi w
  · rw [show failsB ps ⟨3, d, a, b, rel, lo, hi2, to⟩ xs = false from by simp [failsB]]
    exact implFails3 sb pa pn pc d a b rel lo hi2 to xs slo shi w
  · rw [show failsB ps ⟨4, d, a, b, rel, lo, hi2, to⟩ xs = (inB (nthI xs b).lo (nthI xs b).hi 0) from by simp [failsB]]
    exact implFails4 sb pa pn pc d a b rel lo hi2 to xs slo shi w hb ho hB
  · rw [show failsB ps ⟨5, d, a, b, rel, lo, hi2, to⟩ xs = false from by simp [failsB]]
    exact implFails5 sb pa pn pc d a b rel lo hi2 to xs slo shi w
  · rw [show failsB ps ⟨6, d, a, b, rel, lo, hi2, to⟩ xs = (!inI (nthI xs a) ⟨0, 3⟩) from by simp [failsB]]
    exact implFails6 sb pa pn pc d a b rel lo hi2 to xs slo shi w hb ho hA
  · rw [show failsB ps ⟨7, d, a, b, rel, lo, hi2, to⟩ xs = (!inI (nthI xs a) ⟨0, 3⟩) from by simp [failsB]]
    exact implFails7 sb pa pn pc d a b rel lo hi2 to xs slo shi w hb ho hA
  · rw [show failsB ps ⟨8, d, a, b, rel, lo, hi2, to⟩ xs = false from by simp [failsB]]
    exact implFails8 sb pa pn pc d a b rel lo hi2 to xs slo shi w
  · rw [show failsB ps ⟨9, d, a, b, rel, lo, hi2, to⟩ xs = false from by simp [failsB]]
    exact implFails9 sb pa pn pc d a b rel lo hi2 to xs slo shi w
  · rw [show failsB ps ⟨10, d, a, b, rel, lo, hi2, to⟩ xs = (!inI (nthI xs a) (prcI ps to)) from by simp [failsB]]
    have hto : 0 ≤ to ∧ to < pn := by simpa [tailB] using hT
    exact implFails10 sb pa pn pc d a b rel lo hi2 to xs slo shi w hb ho hA ps hr hp hto.1 hto.2
  · rw [show failsB ps ⟨11, d, a, b, rel, lo, hi2, to⟩ xs = ((notI rel (nthI xs a) (nthI xs b)).isSome) from by simp [failsB]]
    have hrel : 1 ≤ rel ∧ rel ≤ 4 := by simpa [tailB] using hT
    exact implFails11 sb pa pn pc d a b rel lo hi2 to xs slo shi w hb ho hA hB hrel
  · rw [show failsB ps ⟨12, d, a, b, rel, lo, hi2, to⟩ xs = false from by simp [failsB]]
    exact implFails12 sb pa pn pc d a b rel lo hi2 to xs slo shi w

theorem specAbsFails (pa : Option Addr) (pn pc : Nat) (ps : List Prc) (i : Ins) (on : Bool) (xa : Option Addr) (xn xc : Nat) (xs : List Itv) (slo shi : Int) (w : World) (hr : RdP w pa pn ps) (hn : pn ≤ 9223372036854775807) (hx : RdL EItv 2 w xa xn xs) (hxn : xn ≤ 9223372036854775807) :
    Calls Tryz.prog 45 #[.agg #[.slice pa pn pc], i.v, .agg #[.bool on, .slice xa xn xc, .int .i64 slo, .int .i64 shi]] w fun e w' => e = .returned (.bool (absFailsB ps i on xs slo shi)) ∧ Grew w w' := by
  have key : absFailsB ps i on xs slo shi = (fitB ps i on xs slo shi && failsB ps i xs) := by
    simp only [absFailsB, fitB]
    cases prgOkB ps <;> cases stOkB on xs slo shi <;> cases on <;> simp
  rw [key]
  obtain ⟨op, d, a, b, rel, lo, hi, to⟩ := i
  cases hf : fitB ps ⟨op, d, a, b, rel, lo, hi, to⟩ on xs slo shi
  · exact specFailsN op pa pn pc ps d a b rel lo hi to on xa xn xc xs slo shi w hr hn hx hxn hf
  rw [Bool.true_and]
  have hff := hf
  simp only [fitB, Bool.and_eq_true] at hff
  obtain ⟨h1, hD, hA, hB, hT⟩ := ins_parts hff.2.1
  rcases op12 h1 with rfl | rfl | rfl | rfl | rfl | rfl | rfl | rfl | rfl | rfl | rfl | rfl
  · rw [show failsB ps ⟨1, d, a, b, rel, lo, hi, to⟩ xs = (false) from by simp [failsB]]
    exact specFails1 pa pn pc ps d a b rel lo hi to on xa xn xc xs slo shi w hr hn hx hxn hf
  · rw [show failsB ps ⟨2, d, a, b, rel, lo, hi, to⟩ xs = (false) from by simp [failsB]]
    exact specFails2 pa pn pc ps d a b rel lo hi to on xa xn xc xs slo shi w hr hn hx hxn hf
  · rw [show failsB ps ⟨3, d, a, b, rel, lo, hi, to⟩ xs = (false) from by simp [failsB]]
    exact specFails3 pa pn pc ps d a b rel lo hi to on xa xn xc xs slo shi w hr hn hx hxn hf
  · rw [show failsB ps ⟨4, d, a, b, rel, lo, hi, to⟩ xs = (inB (nthI xs b).lo (nthI xs b).hi 0) from by simp [failsB]]
    exact specFails4 pa pn pc ps d a b rel lo hi to on xa xn xc xs slo shi w hr hn hx hxn hf
  · rw [show failsB ps ⟨5, d, a, b, rel, lo, hi, to⟩ xs = (false) from by simp [failsB]]
    exact specFails5 pa pn pc ps d a b rel lo hi to on xa xn xc xs slo shi w hr hn hx hxn hf
  · rw [show failsB ps ⟨6, d, a, b, rel, lo, hi, to⟩ xs = (!inI (nthI xs a) ⟨0, 3⟩) from by simp [failsB]]
    exact specFails6 pa pn pc ps d a b rel lo hi to on xa xn xc xs slo shi w hr hn hx hxn hf
  · rw [show failsB ps ⟨7, d, a, b, rel, lo, hi, to⟩ xs = (!inI (nthI xs a) ⟨0, 3⟩) from by simp [failsB]]
    exact specFails7 pa pn pc ps d a b rel lo hi to on xa xn xc xs slo shi w hr hn hx hxn hf
  · rw [show failsB ps ⟨8, d, a, b, rel, lo, hi, to⟩ xs = (false) from by simp [failsB]]
    exact specFails8 pa pn pc ps d a b rel lo hi to on xa xn xc xs slo shi w hr hn hx hxn hf
  · rw [show failsB ps ⟨9, d, a, b, rel, lo, hi, to⟩ xs = (false) from by simp [failsB]]
    exact specFails9 pa pn pc ps d a b rel lo hi to on xa xn xc xs slo shi w hr hn hx hxn hf
  · rw [show failsB ps ⟨10, d, a, b, rel, lo, hi, to⟩ xs = (!inI (nthI xs a) (prcI ps to)) from by simp [failsB]]
    exact specFails10 pa pn pc ps d a b rel lo hi to on xa xn xc xs slo shi w hr hn hx hxn hf
  · rw [show failsB ps ⟨11, d, a, b, rel, lo, hi, to⟩ xs = ((notI rel (nthI xs a) (nthI xs b)).isSome) from by simp [failsB]]
    exact specFails11 pa pn pc ps d a b rel lo hi to on xa xn xc xs slo shi w hr hn hx hxn hf
  · rw [show failsB ps ⟨12, d, a, b, rel, lo, hi, to⟩ xs = (false) from by simp [failsB]]
    exact specFails12 pa pn pc ps d a b rel lo hi to on xa xn xc xs slo shi w hr hn hx hxn hf

end Go.Proofs.YtdddhnepanjmfaaGreat

/- The places at which a certificate may fail: the program's walk. No condition. -/
namespace Go.Proofs.YtdddhnepanjmfaaGreat
open Go.RowKit
set_option linter.unusedVariables false
set_option linter.unusedSimpArgs false
attribute [local go_sem] ext_cell ext_frozen ext_lt ext_le ext_le1 lt_s2 lt_s3 lt_s4 lt_s5 lt_s6 ext_lt1 ext_lt2 ext_lt3

set_option maxRecDepth 100000 in
set_option maxHeartbeats 4000000 in
theorem alarmsT (a : Option Addr) (n cap : Nat) (ps : List Prc) (ta : Option Addr) (tn tc : Nat) (part : List Int) (ss : List (List St)) (os : List Sum) (gc : Nat) (w : World) (h : CertI a n cap ta tn tc (certL part ss tn) gc w) (hr : RdP w a n ps) (hn : ps.length = n) (hok : prgOkB ps = true) (ht : Rd w ta tn 1 (ints .i64 part)) (htn : tn ≤ 1000)
    (hb : ∀ x, x ∈ part → 0 ≤ x ∧ x < n) (hnd : part.Nodup) (hc : certB ps part ⟨ss, os⟩ = true) :
    Calls Tryz.prog 58 #[.pointer (some ⟨gc, 0, none⟩)] w (RetSit (alarmsL ps part ⟨ss, os⟩) w) := by
  have htl : part.length = tn := by have := ht.1; simpa [ints] using this
  rw [alarmsL_filter hnd hc htl]
  have CS := Lib.hid fun W (g : Grew w W) => sitesT a n cap ps ta tn tc part _ gc W (h.grew g) (hr.grew g) hok (ht.grew g) htn hb
  have CI := Lib.hid fun W (g : Grew w W) => insT a n cap ps ta tn tc _ gc W (h.grew g) (hr.grew g)
  have CF := Lib.hid fun sb xs slo shi i W (g : Grew w W) (b : Blk W sb 165 (stC xs slo shi)) (ho : stOkB true xs slo shi = true) (hi : insOkB i n 10 = true) => implFails sb a n cap ps i xs slo shi W (hr.grew g) b ho hok hi
  have HL := Lib.hid fun (s : Site) (st : St) => certL_ok (K := tn) hc (s := s) (st := st) (k := tn)
  have HI := Lib.hid fun (p : Int) (j : Nat) (i : Ins) (hi : (codeOfP ps p)[j]? = some i) => code_ok hok hi
  rw [hn] at HI
  have HSl := Lib.hid (siteK_le hok part tn)
  have HSg := Lib.hid fun s => siteK_get (ps := ps) (part := part) (K := tn) (s := s)
  have HBd := Lib.hid hb
  obtain ⟨gs, go, hbc, hl0, hl1⟩ := look_v h
  have HBc := Lib.hid hbc
  have HL0 := Lib.hid hl0
  have HL1 := Lib.hid hl1
  clear h hr hok ht hb hc hbc hl0 hl1
  generalize hL : certL part ss tn = L at *
  generalize hS : siteK ps part tn = S at *
  generalize hF : gB ps L = F at *
  have HF := Lib.hid hF
  clear hS hF hL
  go_enter Tryz.func58, Tryz.ntmps58
  go_wp2_with fail
  refine (CS.out _ (Below.refl _ _)).mono ?_
  rintro e w1 ⟨sa, sc, rfl, hso, g1⟩
  have HSR := Lib.hid (owns_rd hso)
  have HG1 := Lib.hid g1
  clear CS hso g1
  obtain ⟨sn, hsn⟩ : ∃ x, S.length = x := ⟨_, rfl⟩
  rw [hsn] at HSR HSl
  have hsn4 : sn ≤ 10000 := by have := HSl.out; omega
  go_wp2
  go_loopw [3, 10] (fun out i wr => ∃ m : Nat, m ≤ sn ∧ i = .int .i64 m ∧ Grew w wr ∧ Grew w1 wr ∧ ∃ (M : Nat) (a1 : Option Addr) (cp : Nat), out = .slice a1 M cp ∧ M = ((S.take m).filter F).length ∧ wr.ownsRow w1.heap.size 62 2 (.slice a1 M cp) M (((S.take m).filter F).flatMap sitC)) (fun _ i _ => sn - (Go.RowKit.intOf i).toNat)
  case atStart => exact ⟨0, Nat.zero_le _, rfl, HG1.out, Below.refl _ _, 0, none, 0, rfl, rfl, World.ownsRow_nil _ _ _ _⟩
  case round =>
    obtain ⟨m, hm, rfl, hg, hg1, M, a1, cp, rfl, hM, hO⟩ := hrel
    have HG := Lib.hid hg
    have HGw := Lib.hid hg1
    have HO := Lib.hid hO
    have HM := Lib.hid hM
    have hMs : M ≤ 10000 := by
      have h1 := List.length_filter_le F (S.take m)
      have h2 := List.length_take_le m S
      have h3 := HSl.out
      omega
    clear hg hg1 hO hM
    by_cases hlt : m < sn
    · have hs : S[m]? = some (S[m]'(by omega)) := List.getElem?_eq_getElem _
      obtain ⟨s, hsx⟩ : ∃ s, S[m]? = some s := ⟨_, hs⟩
      clear hs
      obtain ⟨k, j, p, i, hk, hp, hi, rfl⟩ := HSg.out s (List.mem_of_getElem? hsx)
      obtain ⟨hp0, hp1⟩ := HBd.out p (List.mem_of_getElem? hp)
      obtain ⟨P, rfl⟩ : ∃ P : Nat, p = P := ⟨p.toNat, by omega⟩
      obtain ⟨bs, ofs, rfl, z0, z1⟩ := site_get (HSR.out.grew HGw.out) hsx
      have HTk := Lib.hid (take_filter (f := F) hsx)
      have HIo := Lib.hid (HI.out P j i hi)
      have HCI := Lib.hid fun W (g : Grew w W) => CI.out W g P j (by omega) i hi
      have HGB := Lib.hid (show F ⟨P, j⟩ = match lookL L ⟨P, j⟩ with | some st => failsB ps i st.vars | none => false by
        rw [← HF.out]
        unfold gB
        simp only [Int.toNat_natCast, hi]
        cases lookL L ⟨P, j⟩ <;> rfl)
      clear hp hi hp0 hp1 hsx
      go_upto_region 5 with fail
      refine wp_letV ?_
      intro E hE
      have HGE := Lib.hid (show Grew w E by rw [hE]; exact grew_al HG.out _)
      have HGE1 := Lib.hid (show Grew w1 E by rw [hE]; exact grew_al HGw.out _)
      have HOE := Lib.hid (show E.ownsRow w1.heap.size 62 2 (.slice a1 M cp) M (((S.take m).filter F).flatMap sitC) by rw [hE]; exact owns_grew HO.out (grew_al (Below.refl _ _) _))
      obtain ⟨bq, hbq⟩ : ∃ b, wr.heap.size = b := ⟨_, rfl⟩
      have HBq := Lib.hid (show Blk E bq 62 #[.int .i64 P, .int .i64 j] by rw [hE, ← hbq]; exact Blk.new _ _ _)
      simp only [hbq]
      have q0 := HBq.out.cell 0
      have q1 := HBq.out.cell 1
      have ql := HBq.out.lt
      have c0 := (HBc.out.grew HGE.out).cell 0
      have c2 := (HBc.out.grew HGE.out).cell 2
      have cl := (HBc.out.grew HGE.out).lt
      simp only [List.getElem?_toArray, List.getElem?_cons_zero, List.getElem?_cons_succ] at q0 q1 c0 c2
      clear hE hbq z0 z1 HO HG HGw
      cases hlk : lookL L ⟨P, j⟩ with
      | none =>
        have LK := fun x => HL0.out (ext E x) (grew_ext HGE.out x) P j hlk
        have HTn := Lib.hid (show (S.take (m + 1)).filter F = (S.take m).filter F by rw [HTk.out, HGB.out, hlk]; simp)
        clear hlk
        first | refine wp_region_ext2 (by kernel_rfl) (by kernel_rfl) ?_ | refine wp_region_ext (by kernel_rfl) (by kernel_rfl) ?_
        repeat (go_big_quiet_step ((first | fail)))
        refine wpQuiet_nil ?_
        intro _ hw'
        obtain ⟨u, hw''⟩ := hw'
        subst hw''
        go_wp2_with fail
        first | refine wp_region_ext2 (by kernel_rfl) (by kernel_rfl) ?_ | refine wp_region_ext (by kernel_rfl) (by kernel_rfl) ?_
        repeat (go_big_quiet_step ((first | fail)))
        refine wpQuiet_nil ?_
        intro _ hw'
        obtain ⟨v, hw''⟩ := hw'
        subst hw''
        clear LK
        go_wp2
        go_roundw
        case rel => exact ⟨m + 1, by omega, by go_num, grew_ext HGE.out _, grew_ext HGE1.out _, M, a1, cp, rfl, by rw [HTn.out]; exact HM.out, by rw [HTn.out]; exact owns_grew HOE.out (ext_grew _ _)⟩
        case measure => simp [Go.RowKit.intOf]; omega
      | some st =>
        obtain ⟨sb, hsb, hl⟩ := HL1.out P j st hlk
        have LK := fun x => hl (ext E x) (grew_ext HGE.out x)
        obtain ⟨on, xs, slo, shi⟩ := st
        obtain ⟨hon, hsk⟩ := HL.out _ _ hlk
        simp only at hon
        subst hon
        have HSk := Lib.hid (show stOkB true xs slo shi = true from hsk)
        have HSb := Lib.hid hsb
        have CFF := Lib.hid fun W (g : Grew w W) => CF.out sb xs slo shi i W g (HSb.out.grew g) HSk.out HIo.out
        have HGC := Lib.hid (show F ⟨P, j⟩ = failsB ps i xs by rw [HGB.out, hlk])
        clear hlk hl hsk hsb
        first | refine wp_region_ext2 (by kernel_rfl) (by kernel_rfl) ?_ | refine wp_region_ext (by kernel_rfl) (by kernel_rfl) ?_
        repeat (go_big_quiet_step ((first | fail)))
        refine wpQuiet_nil ?_
        intro _ hw'
        obtain ⟨u, hw''⟩ := hw'
        subst hw''
        clear LK
        have hge := HGE.out
        go_wp2_with fail
        first | refine wp_region_ext2 (by kernel_rfl) (by kernel_rfl) ?_ | refine wp_region_ext (by kernel_rfl) (by kernel_rfl) ?_
        repeat (go_big_quiet_step ((first | (with_reducible exact ext_grow (HCI.out _ (gr))) | (with_reducible exact ext_grow (CFF.out _ (gr))))))
        refine wpQuiet_nil ?_
        intro _ hw'
        obtain ⟨v, hw''⟩ := hw'
        subst hw''
        clear HCI CFF
        cases hf : failsB ps i xs with
        | false =>
          have HTn := Lib.hid (show (S.take (m + 1)).filter F = (S.take m).filter F by rw [HTk.out, HGC.out, hf]; simp)
          clear hf
          go_wp2
          go_roundw
          case rel => exact ⟨m + 1, by omega, by go_num, grew_ext HGE.out _, grew_ext HGE1.out _, M, a1, cp, rfl, by rw [HTn.out]; exact HM.out, by rw [HTn.out]; exact owns_grew HOE.out (ext_grew _ _)⟩
          case measure => simp [Go.RowKit.intOf]; omega
        | true =>
          have HTn := Lib.hid (show (S.take (m + 1)).filter F = (S.take m).filter F ++ [⟨P, j⟩] by rw [HTk.out, HGC.out, hf]; simp)
          clear hf
          go_upto_region 7 with fail
          refine wp_letV ?_
          intro E2 hE2
          have HG2 := Lib.hid (show Grew E E2 by rw [hE2]; exact ext_grew _ _)
          have HB2 := Lib.hid (HBq.out.grew HG2.out)
          have q0 := HB2.out.cell 0
          have q1 := HB2.out.cell 1
          have ql := HB2.out.lt
          simp only [List.getElem?_toArray, List.getElem?_cons_zero, List.getElem?_cons_succ] at q0 q1
          obtain ⟨a3, cp3, W, hrun, o3, g3⟩ := site_more (owns_grew HOE.out HG2.out) (by omega) (grew_tr HGE1.out HG2.out) P j
          have HRU := Lib.hid hrun
          have HO3 := Lib.hid o3
          have HG3 := Lib.hid g3
          clear hrun o3 g3 hE2
          go_wp2_with (at_builtin; refine wpList_append_run rfl _ _ rfl rfl rfl rfl HRU.out ?_)
          clear HRU
          go_roundw
          case rel => exact ⟨m + 1, by omega, by go_num, grew_tr HG1.out HG3.out, HG3.out, M + 1, a3, cp3, rfl, by rw [HTn.out, List.length_append, ← HM.out]; rfl, by rw [HTn.out]; exact HO3.out⟩
          case measure => simp [Go.RowKit.intOf]; omega
    · obtain rfl : m = sn := by omega
      go_wp2
      go_ret
      rw [show S.take m = S from List.take_of_length_le (by omega)] at HO HM
      exact ⟨a1, cp, by rw [← HM.out]; rfl, by rw [← HM.out]; exact owns_mono HO.out HG1.out.size, HG.out⟩
end Go.Proofs.YtdddhnepanjmfaaGreat
