/- Lemmas and walks of this proof, several texts one behind the other. No condition. -/
import Derived.Test.YtmcfengnihomcaaGreatP4
import Derived.Test.YtmcfengnihomcaaGreatP3
import Derived.Test.YtmcfengnihomcaaGreatP2
set_option linter.unusedSimpArgs false
set_option linter.unusedVariables false
/- The order of the parts, the reference's side. No condition. -/
namespace Go.Proofs.YtmcfengnihomcaaGreat
open Go.RowKit
set_option linter.unusedVariables false
set_option linter.unusedSimpArgs false
attribute [local go_sem] ext_cell ext_frozen ext_lt ext_le ext_le1 lt_s2 lt_s3 lt_s4 lt_s5 lt_s6 ext_lt1 ext_lt2 ext_lt3

theorem appOneD {W : World} {B : Nat} {vs : List Bool} {n : Nat} {a1 : Option Addr} {c1 : Nat} (z : Bool) (h1 : W.ownsRow B 4 1 (.slice a1 n c1) n (bools vs)) (h2 : n ≤ 1048580) (h3 : B ≤ W.heap.size) :
    ∃ a2 c2 W2, (Builtin.append_ #[37, 37] 37 #[.slice a1 n c1, .slice (some ⟨W.heap.size, 0, none⟩) 1 1]).run Tryz.prog (W.alloc (.cells #[.bool z] 4)) = .ok (.slice a2 (n + 1) c2) W2 ∧ W2.ownsRow B 4 1 (.slice a2 (n + 1) c2) (n + 1) (bools (vs ++ [z])) ∧ Chg (fun b => (Value.slice a1 n c1).ownBlock = some b) W W2 := by
  obtain ⟨v3, w3, hrun3, o3, g3, hv⟩ := owns_append_lit (P := Tryz.prog) W boolEl h1 1 [.bool z] rfl (by simp [Value.oneCell']) (by omega) (by omega) h3
  obtain ⟨a2, c2, rfl⟩ := owns_slice o3
  exact ⟨a2, c2, w3, hrun3, by rw [bools_append]; exact o3, Chg.of_grownBy g3⟩

theorem blk_neR {w : World} {g base size n : Nat} {t e : TypeId} {cs : Array Value} {v : Value} {xs : List Value} (h : Blk w g t cs) (ho : w.ownsRow base e size v n xs) (hne : t ≠ e) : v.ownBlock ≠ some g := by
  intro hb
  rcases ho.2 with ⟨rfl, _⟩ | ⟨g', cap, cur, rfl, _, h3, _⟩
  · cases hb
  simp only [Value.ownBlock, Option.some.injEq] at hb
  subst hb
  have h1 : w.heap[g']? = _ := h
  rw [h1] at h3
  simp only [Option.some.injEq, Obj.cells.injEq] at h3
  exact hne h3.2.1

set_option maxRecDepth 100000 in
set_option maxHeartbeats 4000000 in
theorem specGrfOrder (a : Option Addr) (n cap : Nat) (ps : List Prc) (w : World) (hr : RdP w a n ps) (hn : n ≤ 9223372036854775807) :
    Calls Tryz.prog 6 #[.agg #[.slice a n cap]] w (RetIs (grfOrder ps) w) := by
  have HC := Lib.hid (fun W (g : Grew w W) => specGrfParts a n cap ps W (hr.grew g) hn)
  have h4 := (grfParts_bd ps).1
  have HInv := Lib.hid (fun (j : Nat) (hj : j < (grfParts ps).length) => show readyL (cOf' (csOf ps)) (grfParts ps) (ordN (cOf' (csOf ps)) (grfParts ps) j).1 ≠ [] from by
    have hB := (parts_ok (by omega : 0 < (grfParts ps).length)).1
    have hpe := (parts_ok (by omega : 0 < (grfParts ps).length)).2
    have hok := gok_of hB
    have hn0 : 0 < (csOf ps).length := by rw [csOf_len]; have := prg_len hB; omega
    have h := ord_inv hok hn0 j (by rw [← hpe]; omega)
    rw [← hpe] at h
    exact h.2.2.2 hj)
  have HE := Lib.hid (show grfOrder ps = (ordN (cOf' (csOf ps)) (grfParts ps) (grfParts ps).length).2 from rfl)
  have HN := Lib.hid (fun (da : Option Addr) (dc : Nat) (done : List Bool) (hdl : done.length = (grfParts ps).length) W (g : Grew w W) (hd : Rd W da (grfParts ps).length 1 (bools done)) => by
    have h := specGrfReady a n cap ps da (grfParts ps).length dc done W (hr.grew g) hn hd
    rw [grfReady, if_pos hdl] at h
    exact h)
  have HBD := Lib.hid (fun done => @ready_bd (cOf' (csOf ps)) (grfParts ps) done)
  have HRL := Lib.hid (fun done => readyL_len (cOf' (csOf ps)) (grfParts ps) done)
  have HNX := Lib.hid (fun j x t h => @ordN_next (cOf' (csOf ps)) (grfParts ps) j x t h)
  have HO0 := Lib.hid (show ordN (cOf' (csOf ps)) (grfParts ps) 0 = (List.replicate (grfParts ps).length false, []) from rfl)
  have HDn := Lib.hid (fun j => ordN_done (cOf' (csOf ps)) (grfParts ps) j)
  have HOut := Lib.hid (fun j => ordN_out (cOf' (csOf ps)) (grfParts ps) j)
  obtain ⟨O, hO⟩ : ∃ O, ordN (cOf' (csOf ps)) (grfParts ps) = O := ⟨_, rfl⟩
  obtain ⟨RL, hRL⟩ : ∃ RL, readyL (cOf' (csOf ps)) (grfParts ps) = RL := ⟨_, rfl⟩
  rw [hRL] at HInv HN HBD HRL HNX
  rw [hO] at HInv HE HNX HO0 HDn HOut
  obtain ⟨S, hS⟩ : ∃ S, grfParts ps = S := ⟨_, rfl⟩
  rw [hS] at HInv HE HN HC HBD HRL HO0 HDn h4
  clear hr hS hO hRL
  go_enter Tryz.func6, Tryz.ntmps6
  go_wp2_with fail
  refine (HC.out _ (by repeat (first | with_reducible exact Below.refl _ _ | with_reducible assumption | with_reducible apply grew_ext | with_reducible apply grew_al | with_reducible apply grew_dn | with_reducible apply grew_d | (with_reducible refine grew_set ?_ (by first | omega | (repeat (first | with_reducible exact Nat.le_refl _ | with_reducible apply le_pl | with_reducible apply le_ext | with_reducible apply le_al))) _)))).mono ?_
  rintro e w1 ⟨pa, pc, ms, rfl, o1, hms, g1⟩
  have HG1 := Lib.hid (show Grew w w1 from grew_tr (by repeat (first | with_reducible exact Below.refl _ _ | with_reducible assumption | with_reducible apply grew_ext | with_reducible apply grew_al | with_reducible apply grew_dn | with_reducible apply grew_d | (with_reducible refine grew_set ?_ (by first | omega | (repeat (first | with_reducible exact Nat.le_refl _ | with_reducible apply le_pl | with_reducible apply le_ext | with_reducible apply le_al))) _))) g1)
  have HB1 := Lib.hid (show Blk w1 w.heap.size 30 #[.slice a n cap] from ((Blk.new w _ _).alloc _).grew g1)
  have H0 := Lib.hid (show w1.ownsRow (w.heap.size + 1) 3 1 (.slice (some ⟨w.heap.size + 1, 0, none⟩) 0 0) 0 (ints .i64 []) from owns_grew (by
    simpa [ints] using World.ownsRow_lit (w.alloc (.cells #[.slice a n cap] 30)) (e := 3) (size := 1) #[] 0 (base := w.heap.size + 1) (by simp) (Nat.zero_le _) rfl) g1)
  have hs1 := g1.size
  simp only [World.size_alloc] at hs1
  have HD0 := Lib.hid (show (w1.alloc (.cells #[] 4)).ownsRow (w.heap.size + 1) 4 1 (.slice (some ⟨w1.heap.size, 0, none⟩) 0 0) 0 (bools (List.replicate 0 false)) from by
    simpa [bools] using World.ownsRow_lit w1 (e := 4) (size := 1) #[] 0 (base := w.heap.size + 1) (by omega) (Nat.zero_le _) rfl)
  clear o1 hms g1
  go_wp2
  go_loopw [5, 6] (fun v i wr => ∃ k : Nat, k ≤ S.length ∧ i = .int .i64 k ∧ Grew w wr ∧ Blk wr w.heap.size 30 #[.slice a n cap] ∧ wr.ownsRow (w.heap.size + 1) 3 1 (.slice (some ⟨w.heap.size + 1, 0, none⟩) 0 0) 0 (ints .i64 []) ∧ wr.ownsRow (w.heap.size + 1) 4 1 v k (bools (List.replicate k false))) (fun _ i _ => S.length - (Go.RowKit.intOf i).toNat)
  case atStart => exact ⟨0, Nat.zero_le _, rfl, grew_al HG1.out _, HB1.out.alloc _, owns_grew H0.out (grew_al (Below.refl _ _) _), HD0.out⟩
  case round =>
    clear H0 HD0 HB1
    obtain ⟨k, hk, rfl, hg, hb, ho, hd⟩ := hrel
    obtain ⟨da, dc, rfl⟩ := owns_slice hd
    by_cases hlt : k < S.length
    · have hgs := hg.size
      have hbl := hb.lt
      obtain ⟨a4, c4, w4, r4, o4, k4⟩ := appOneD false hd (by omega) (by omega)
      have ho4 := Lib.hid (owns_chg ho k4 (fun b hb e => own_neX ho hd (by decide) hb e))
      have hb4 := Lib.hid (hb.chg k4 (blk_neR hb hd (by decide)))
      have hg4 := Lib.hid (hg.trans (k4.belowB hg.size (fun i e => by have := (hd.lt i e).1; omega)))
      rw [replicate_snoc] at o4
      have HR4 := Lib.hid r4
      have HO4 := Lib.hid o4
      clear hg hb ho hd r4 o4 k4
      go_wp2_with (at_builtin; refine wpList_append_run rfl _ _ rfl rfl rfl rfl HR4.out ?_; clear HR4)
      go_roundw
      case rel => exact ⟨k + 1, by omega, by go_num, hg4.out, hb4.out, ho4.out, HO4.out⟩
      case measure => simp [Go.RowKit.intOf]; omega
    · obtain rfl : k = S.length := by omega
      have HG := Lib.hid hg
      have HB := Lib.hid hb
      have HO := Lib.hid ho
      have HD := Lib.hid (show wr.ownsRow (w.heap.size + 1) 4 1 (.slice da S.length dc) S.length (bools (O 0).1) from by rw [HO0.out]; exact hd)
      clear hg hb ho hd
      go_wp2
      go_loopw [3, 7] (fun v i wr => ∃ j : Nat, j ≤ S.length ∧ i = .int .i64 j ∧ Grew w wr ∧ Blk wr w.heap.size 30 #[.slice a n cap] ∧ wr.ownsRow (w.heap.size + 1) 3 1 v j (ints .i64 (O j).2) ∧ wr.ownsRow (w.heap.size + 1) 4 1 (.slice da S.length dc) S.length (bools (O j).1)) (fun _ i _ => S.length - (Go.RowKit.intOf i).toNat)
      case atStart => exact ⟨0, Nat.zero_le _, rfl, HG.out, HB.out, by rw [HO0.out]; exact HO.out, HD.out⟩
      case round =>
        clear HG HB HO HD
        obtain ⟨j, hj, rfl, hg, hb, ho, hd⟩ := hrel
        obtain ⟨oa, oc, rfl⟩ := owns_slice ho
        have hgs := hg.size
        have hbl := hb.lt
        have p0 : wr.cell? ⟨w.heap.size, 0, none⟩ = some (.slice a n cap) := hb.cell 0
        by_cases hlt : j < S.length
        · have hne := HInv.out j hlt
          have CN := Lib.hid (HN.out da dc (O j).1 (HDn.out j) wr hg (owns_rd hd))
          have hrl := HRL.out (O j).1
          have hbd := HBD.out (O j).1
          obtain ⟨x, t, hxt⟩ : ∃ x t, RL (O j).1 = x :: t := by
            cases h : RL (O j).1 with
            | nil => exact absurd h hne
            | cons x t => exact ⟨x, t, rfl⟩
          have hnx := HNX.out j x t hxt
          rw [hxt] at hrl hbd CN
          obtain ⟨hx0, hx1⟩ := hbd x (by simp)
          obtain ⟨k, rfl⟩ := Int.eq_ofNat_of_zero_le hx0
          obtain ⟨db, rfl⟩ : ∃ db, da = some ⟨db, 0, none⟩ := by
            rcases hd.2 with ⟨h1, h2⟩ | ⟨g', cap', cur, h1, _⟩
            · omega
            · simp only [Value.slice.injEq] at h1
              exact ⟨g', h1.1⟩
          have HBd := Lib.hid hb
          have HOb := Lib.hid (fun b hb => (ho.lt b hb).2)
          have HOo := Lib.hid ho
          have HDd := Lib.hid hd
          have HGg := Lib.hid hg
          have HNx := Lib.hid hnx
          have hdl := HDn.out j
          clear hg hb ho hd hbd hne hnx hxt
          go_wp2_with fail
          refine CN.out.mono ?_
          rintro e w2 ⟨A2, c2, rfl, o2, g2⟩
          clear CN p0
          have hb2 := HBd.out.grew g2
          have ho2 := owns_grew HOo.out g2
          have hd2 := owns_grew HDd.out g2
          have hg2 := grew_tr HGg.out g2
          clear g2 HBd HOo HDd HGg
          have hs2 := hg2.size
          have hbl2 := hb2.lt
          obtain ⟨lb, loff, x', rfl, hx', hcl⟩ := (owns_rd o2).at1 (show 0 < ((k : Int) :: t).length from by simp)
          obtain rfl : (k : Int) = x' := by simpa using hx'
          have hcl0 : w2.cell? ⟨lb, loff, none⟩ = some (.int .i64 (k : Int)) := by simpa using hcl
          obtain ⟨a4, c4, w4, r4, o4, k4, v4⟩ := appOneC (k : Int) ho2 (by omega) (by omega)
          have hd4 := owns_chg hd2 k4 (fun b hb e => own_neX hd2 ho2 (by decide) hb e)
          have hb4 := hb2.chg k4 (blk_neR hb2 ho2 (by decide))
          have hg4 := hg2.trans (k4.belowB hg2.size (fun i e => by have := (ho2.lt i e).1; omega))
          have o5 := owns_chg o2 k4 (fun b hb e => by have h1 := (o2.lt b hb).1; have h2 := HOb.out b e; omega)
          have hcl4 : w4.cell? ⟨lb, loff, none⟩ = some (.int .i64 (k : Int)) := by
            obtain ⟨lb', loff', x2, e, hx2, hc2⟩ := (owns_rd o5).at1 (show 0 < ((k : Int) :: t).length from by simp)
            obtain ⟨rfl, rfl⟩ : lb' = lb ∧ loff' = loff := by simpa [eq_comm] using e
            obtain rfl : (k : Int) = x2 := by simpa using hx2
            simpa using hc2
          have hcd := hd4.cellAt k (by omega)
          have hfd := hd4.frozenAt k
          obtain ⟨y, hy⟩ : ∃ y, (bools (O j).1)[k]? = some y := ⟨(bools (O j).1)[k]'(by rw [bools_length]; omega), List.getElem?_eq_getElem _⟩
          rw [hy] at hcd
          obtain ⟨hd6, hgd⟩ := hd4.stored k (.bool true)
          have hcg : Chg (fun b => (Value.slice (some ⟨db, 0, none⟩) S.length dc).ownBlock = some b) w4 (w4.setCell ⟨db, k, none⟩ (.bool true)) := Chg.of_grownBy hgd
          have ho6 := owns_chg o4 hcg (fun b hb e => own_neX o4 hd4 (by decide) hb e)
          have hb6 := hb4.chg hcg (blk_neR hb4 hd4 (by decide))
          have hg6 := hg4.trans (hcg.belowB hg4.size (fun i e => by have := (hd4.lt i e).1; omega))
          rw [bools_set] at hd6
          have e1 : (O (j + 1)).1 = (O j).1.set k true := by rw [HNx.out]; rfl
          have e2 : (O (j + 1)).2 = (O j).2 ++ [(k : Int)] := by rw [HNx.out]
          rw [← e1] at hd6
          rw [← e2] at ho6
          try simp only [World.size_alloc, World.size_setCell] at r4
          have HR4 := Lib.hid r4
          have HO6 := Lib.hid ho6
          have HD6 := Lib.hid hd6
          have HG6 := Lib.hid hg6
          have HB6 := Lib.hid hb6
          have hlen : 0 < ((k : Int) :: t).length := by simp
          obtain ⟨LL, hLL⟩ : ∃ LL : Nat, ((k : Int) :: t).length = LL := ⟨_, rfl⟩
          rw [hLL] at hlen ⊢
          have hk1 : k < S.length := by omega
          clear o2 o4 k4 v4 o5 hy hd6 hgd hcg ho6 hb6 hg6 e1 e2 hx' hcl hd2 ho2 hb2 hg2 hd4 hb4 hg4 r4 HNx hLL hx0 hx1 hrl hdl HOb
          go_wp2_with (at_builtin; refine wpList_append_run rfl _ _ rfl rfl rfl rfl HR4.out ?_; clear HR4)
          go_roundw
          case rel => exact ⟨j + 1, by omega, by go_num, HG6.out, HB6.out, HO6.out, HD6.out⟩
          case measure => simp [Go.RowKit.intOf]; omega
        · obtain rfl : j = S.length := by omega
          have HO5 := Lib.hid ho
          have HG5 := Lib.hid hg
          have hof := HOut.out S.length
          clear ho hg hd hb
          go_wp2
          go_ret
          rw [HE.out]
          refine ⟨oa, oc, ?_, ?_, HG5.out⟩
          · rw [hof]
            rfl
          · rw [hof]
            exact owns_mono HO5.out (by omega)
end Go.Proofs.YtmcfengnihomcaaGreat

/- Boxes whose cells are known, and the marking of a procedure. No condition. -/
namespace Go.Proofs.YtmcfengnihomcaaGreat
open Go.RowKit
set_option linter.unusedVariables false
attribute [local go_sem] ext_cell ext_frozen ext_lt ext_le ext_le1 lt_s2 lt_s3 lt_s4 lt_s5 lt_s6 ext_lt1 ext_lt2 ext_lt3

/-- A box: a block whose cells are known. -/
def Boxd (w : World) (b : Nat) (cs : Array Value) : Prop := b < w.heap.size ∧ ∀ (j : Nat) (u : Value), cs[j]? = some u → w.cell? ⟨b, j, none⟩ = some u
theorem Boxd.new (w : World) (t : TypeId) (cs : Array Value) : Boxd (w.alloc (.cells cs t)) w.heap.size cs := ⟨by simp, fun j u hu => by rw [World.cell?_alloc_new]; exact hu⟩
theorem Boxd.grew {w w' : World} {b : Nat} {cs : Array Value} (h : Boxd w b cs) (g : Grew w w') : Boxd w' b cs := ⟨Nat.lt_of_lt_of_le h.1 g.size, fun j u hu => (g.cell (p := ⟨b, j, none⟩) h.1).trans (h.2 j u hu)⟩
theorem Boxd.chg {F : Nat → Prop} {w w' : World} {b : Nat} {cs : Array Value} (h : Boxd w b cs) (c : Chg F w w') (hF : ¬ F b) : Boxd w' b cs :=
  ⟨Nat.lt_of_lt_of_le h.1 c.size, fun j u hu => (World.cell?_of_block (w := w) (w' := w') (a := ⟨b, j, none⟩) (c.block b h.1 hF)).trans (h.2 j u hu)⟩

end Go.Proofs.YtmcfengnihomcaaGreat

/- What copies of programs are in memory. No condition. -/
namespace Go.Proofs.YtmcfengnihomcaaGreat
open Go.RowKit
set_option linter.unusedVariables false

theorem int_is {P : Program} {f : FuncId} {args : Array Value} {w : World} {X b : Int} {R : World → Prop} (c : Calls P f args w fun e w' => e = .returned (.int .i64 X) ∧ R w') (h : X = b) :
    Calls P f args w fun e w' => e = .returned (.int .i64 b) ∧ R w' := by subst h; exact c
theorem prg_rd {w : World} {B n cap : Nat} {a : Option Addr} {ms : List (Prc × Value)} {ps : List Prc} (h : OwnP w B (.slice a n cap) n ms) (e : ms.map (·.1) = ps) : RdP w a n ps := by subst e; exact h.rd
end Go.Proofs.YtmcfengnihomcaaGreat

/- The marking of a program. No condition. -/
namespace Go.Proofs.YtmcfengnihomcaaGreat
open Go.RowKit
set_option linter.unusedVariables false
attribute [local go_sem] ext_cell ext_frozen ext_lt ext_le ext_le1 lt_s2 lt_s3 lt_s4 lt_s5 lt_s6 ext_lt1 ext_lt2 ext_lt3

theorem own_ne {w : World} {B B2 : Nat} {e e2 : TypeId} {s s2 n n2 : Nat} {v v2 : Value} {xs ys : List Value} (h : w.ownsRow B e s v n xs) (h2 : w.ownsRow B2 e2 s2 v2 n2 ys) (hne : e ≠ e2) {b : Nat} (hb : v.ownBlock = some b) : v2.ownBlock ≠ some b := by
  intro hb2
  rcases h.2 with ⟨rfl, _⟩ | ⟨g, cap, cur, rfl, _, h3, _⟩
  · cases hb
  rcases h2.2 with ⟨rfl, _⟩ | ⟨g', cap', cur', rfl, _, h4, _⟩
  · cases hb2
  simp only [Value.ownBlock, Option.some.injEq] at hb hb2
  subst hb hb2
  rw [h3] at h4
  simp only [Option.some.injEq, Obj.cells.injEq] at h4
  exact hne h4.2.1
theorem own_mark {w w' : World} {B : Nat} {e : TypeId} {s n n2 : Nat} {v v2 : Value} {xs ys zs : List Value} (h : w.ownsRow B e s v n xs) (o : w.ownsRow B e s v2 n2 ys) (o' : w'.ownsRow B e s v2 n2 zs) (c : Chg (fun b => v2.ownBlock = some b) w w') : ∃ xs', w'.ownsRow B e s v n xs' := by
  rcases h.2 with h0 | ⟨g, cap, cur, rfl, hg, h3, h4, h5, h6, h7⟩
  · exact ⟨xs, h.1, .inl h0⟩
  by_cases hb : v2.ownBlock = some g
  · rcases o.2 with ⟨rfl, _⟩ | ⟨g2, cap2, cur2, rfl, _, k3, k4, k5, k6, k7⟩
    · cases hb
    simp only [Value.ownBlock, Option.some.injEq] at hb
    subst hb
    rcases o'.2 with ⟨hx, _⟩ | ⟨g3, cap3, cur3, hx, _, l3, l4, l5, l6, l7⟩
    · simp at hx
    simp only [Value.slice.injEq, Option.some.injEq, Addr.mk.injEq, true_and] at hx
    obtain ⟨⟨rfl, -⟩, rfl⟩ := hx
    rw [h3] at k3
    simp only [Option.some.injEq, Obj.cells.injEq] at k3
    obtain ⟨rfl, -⟩ := k3
    refine ⟨cur3.toList.take (n * s), ?_, .inr ⟨_, cap, cur3, rfl, hg, l3, h4, h5, by rw [l6, ← k6, h6], rfl⟩⟩
    rw [List.length_take, Array.length_toList, l6, ← k6, h6]
    exact Nat.min_eq_left (Nat.mul_le_mul_right _ h4)
  · exact ⟨xs, owns_chg h c (fun b hb' => by simp only [Value.ownBlock, Option.some.injEq] at hb'; subst hb'; exact hb)⟩

/-- The blocks of a copy lie between. -/
def BlkP (B N : Nat) (v : Value) (ms : List (Prc × Value)) : Prop := ∀ b, (v.ownBlock = some b ∨ ∃ m, m ∈ ms ∧ m.2.ownBlock = some b) → B ≤ b ∧ b < N
theorem OwnP.blk {w : World} {B n : Nat} {v : Value} {ms : List (Prc × Value)} (h : OwnP w B v n ms) : BlkP B w.heap.size v ms := by
  rintro b (hb | ⟨m, hm, hb⟩)
  · exact h.2.1.lt b hb
  · exact (h.2.2 m hm).lt b hb
def MInv (w : World) (B N n cap : Nat) (a : Option Addr) (ms : List (Prc × Value)) (wr : World) : Prop :=
  Chg (fun b => B ≤ b ∧ b < N) w wr ∧ (∃ ys, wr.ownsRow B 65 3 (.slice a n cap) n ys ∧ ∀ k m, ms[k]? = some m → ys[k * 3 + 2]? = some m.2) ∧ ∀ m, m ∈ ms → ∃ xs, wr.ownsRow B 86 8 m.2 m.1.code.length xs
theorem prcCells_get : ∀ (ms : List (Prc × Value)) (k : Nat) (m : Prc × Value), ms[k]? = some m → (ms.flatMap prcCells)[k * 3 + 2]? = some m.2
  | [], k, m, h => by simp at h
  | x :: ms, 0, m, h => by
    simp only [List.getElem?_cons_zero, Option.some.injEq] at h
    subst h
    rfl
  | x :: ms, k + 1, m, h => by
    rw [List.getElem?_cons_succ] at h
    rw [List.flatMap_cons, List.getElem?_append_right (by rw [prc_len]; omega), prc_len, show (k + 1) * 3 + 2 - 3 = k * 3 + 2 from by omega]
    exact prcCells_get ms k m h

set_option maxHeartbeats 4000000 in
theorem markPrcProcS (a : Option Addr) (n cap : Nat) (k0 : Nat) (B N : Nat) (ms : List (Prc × Value)) (w : World) (ho : OwnP w B (.slice a n cap) n ms) (hB : BlkP B N (.slice a n cap) ms) (hk0 : k0 ≤ 1000000) (hn : n ≤ 1048576) (hs : ∀ m, m ∈ ms → m.1.code.length ≤ 1048576) :
    Calls Tryz.prog 25 #[.slice a n cap, .int .i64 k0] w fun e w' => (∃ K : Nat, e = .returned (.int .i64 K)) ∧ Chg (fun b => B ≤ b ∧ b < N) w w' := by
  have HML := Lib.hid ho.1
  have HI : Hid (MInv w B N n cap a ms w) := Lib.hid ⟨Chg.refl _ _, ⟨_, ho.2.1, fun k m h => prcCells_get ms k m h⟩, fun m hm => ⟨_, ho.2.2 m hm⟩⟩
  have HB := Lib.hid hB; clear hB
  have HS := Lib.hid hs; clear hs ho
  go_enter Tryz.func25, Tryz.ntmps25
  go_wp2
  go_loopw [1, 5] (fun kk i wr => ∃ k K : Nat, k ≤ n ∧ K ≤ k0 + k * 8388610 ∧ i = .int .i64 k ∧ kk = .int .i64 K ∧ MInv w B N n cap a ms wr) (fun _ i _ => n - (Go.RowKit.intOf i).toNat)
  case atStart => exact ⟨0, k0, Nat.zero_le _, by omega, rfl, rfl, HI.out⟩
  case round =>
    clear HI
    obtain ⟨k, K, hk, hK, rfl, rfl, hg, ⟨ys, how, hys⟩, hcs⟩ := hrel
    have hKb : K ≤ 11000000000000 := by omega
    have HK := Lib.hid hK; clear hK
    by_cases hlt : k < n
    · obtain ⟨g, rfl⟩ : ∃ g, a = some ⟨g, 0, none⟩ := by
        rcases how.2 with ⟨h1, h2⟩ | ⟨g, cap', cur, h1, _⟩
        · omega
        · simp only [Value.slice.injEq] at h1
          exact ⟨g, h1.1⟩
      obtain ⟨m, hm⟩ : ∃ m, ms[k]? = some m := ⟨_, List.getElem?_eq_getElem (by have := HML.out; omega)⟩
      have hmm : m ∈ ms := List.mem_of_getElem? hm
      obtain ⟨xs, hox⟩ := hcs m hmm
      have hls := HS.out m hmm
      obtain ⟨p, v⟩ := m
      obtain ⟨lo, hi, is⟩ := p
      dsimp only at hox hls
      obtain ⟨ia, ic, rfl⟩ := owns_slice hox
      have e2 : wr.cell? ⟨g, k * 3 + 2, none⟩ = some (.slice ia is.length ic) := (how.cellAt (k * 3 + 2) (by have := how.1; omega)).trans (hys k _ hm)
      obtain ⟨y0, e0⟩ := own_some how (j := k * 3) (by omega)
      obtain ⟨y1, e1⟩ := own_some how (j := k * 3 + 1) (by omega)
      have f0 := fun j => how.frozenAt j
      have HM := Lib.hid hm; clear hm
      have HY := Lib.hid hys; clear hys
      have HC := Lib.hid hcs; clear hcs
      have HG := Lib.hid hg; clear hg
      have HW := Lib.hid how; clear how
      have HX := Lib.hid hox; clear hox
      obtain ⟨K1, hK1⟩ : ∃ K1 : Nat, K1 = K + 1 := ⟨_, rfl⟩
      obtain ⟨K2, hK2⟩ : ∃ K2 : Nat, K2 = K + 2 := ⟨_, rfl⟩
      have w1 : IntKind.i64.wrap ((K : Int) + 1) = (K1 : Int) := by rw [show (K : Int) + 1 = (K1 : Int) from by omega]; first | exact IntWalk.i64_in (by omega) (by omega) | exact IntWalk.i64_in _ (by omega) (by omega) | go_unwrap
      have w2 : IntKind.i64.wrap ((K1 : Int) + 1) = (K2 : Int) := by rw [show (K1 : Int) + 1 = (K2 : Int) from by omega]; first | exact IntWalk.i64_in (by omega) (by omega) | exact IntWalk.i64_in _ (by omega) (by omega) | go_unwrap
      have hKb2 : K2 ≤ 11000000000002 := by omega
      have HK2 := Lib.hid hK2; clear hK2
      have HK1 := Lib.hid hK1; clear hK1
      obtain ⟨ho', hg'⟩ := own_sets ([.int .i64 (K : Int), .int .i64 (K1 : Int)]) _ _ (k * 3) HW.out
      have HO' := Lib.hid ho'; clear ho'
      have HG' := Lib.hid hg'; clear hg'
      go_wp2_with fail
      have hgi : ∀ b, (some g : Option Nat) = some b → (Value.slice ia is.length ic).ownBlock ≠ some b := fun b hb => own_ne HW.out HX.out (by decide) (b := b) (by rw [← hb]; rfl)
      have hox2 := owns_chg HX.out (Chg.of_grownBy HG'.out) (fun b hb hF => hgi b hF hb)
      refine (markInsInsS ia is.length ic K2 xs B _ hox2 (by omega) (by omega)).mono ?_
      rintro e w3 ⟨rfl, o3, c3⟩
      have hnew : MInv w B N n cap (some ⟨g, 0, none⟩) ms w3 := by
        refine ⟨Chg.trans (Chg.trans HG.out (Chg.of_grownBy HG'.out) (fun _ _ h => h) (fun i _ h => ?_)) c3 (fun _ _ h => h) (fun i _ h => ?_), ⟨_, owns_chg HO'.out c3 (fun b hb hF => ?_), fun k' m' hm' => ?_⟩, fun m' hm' => ?_⟩
        · exact HB.out i (.inl (by rw [← h]; rfl))
        · exact HB.out i (.inr ⟨_, List.mem_of_getElem? HM.out, h⟩)
        · exact hgi b hb hF
        · rw [sets_get _ _ _ _ (by rw [HW.out.1]; simp only [List.length_cons, List.length_nil]; omega), if_neg (by simp only [List.length_cons, List.length_nil]; omega)]
          exact HY.out k' m' hm'
        · obtain ⟨xs', hx'⟩ := HC.out m' hm'
          have hx2 := owns_chg hx' (Chg.of_grownBy HG'.out) (fun b hb hF => own_ne HW.out hx' (by decide) (b := b) (by rw [← hF]; rfl) hb)
          exact own_mark hx2 hox2 o3 c3
      have HN := Lib.hid hnew
      clear hnew hgi hox2 o3 c3 e0 e1 e2 f0 HO' HG' HG HC HY HX
      go_wp2
      go_roundw
      case rel => exact ⟨k + 1, K2 + is.length * 8, by omega, by have := HK.out; have := HK2.out; omega, by go_num, rfl, HN.out⟩
      case measure => simp [Go.RowKit.intOf]; omega
    · have HG := Lib.hid hg; clear hg how hys hcs
      go_wp2
      go_ret
      exact ⟨⟨K, rfl⟩, HG.out⟩

theorem markPrgProg (a : Option Addr) (n cap : Nat) (k0 : Nat) (B N : Nat) (ms : List (Prc × Value)) (w : World) (ho : OwnP w B (.slice a n cap) n ms) (hB : BlkP B N (.slice a n cap) ms) (hk0 : k0 ≤ 1000000) (hn : n ≤ 1048576) (hs : ∀ m, m ∈ ms → m.1.code.length ≤ 1048576) :
    Calls Tryz.prog 11 #[.agg #[.slice a n cap], .int .i64 k0] w fun e w' => ∃ K : Nat, e = .returned (.int .i64 K) ∧ Chg (fun b => B ≤ b ∧ b < N) w w' := by
  have C := markPrcProcS a n cap k0 B N ms (w.alloc (.cells #[.slice a n cap] 30)) (ho.grew (grew_al (Below.refl _ _) _)) hB hk0 hn hs
  have HC := Lib.hid C; clear C ho hB hs
  go_enter Tryz.func11, Tryz.ntmps11
  go_wp2_with fail
  refine HC.out.mono ?_
  rintro e w1 ⟨⟨K, rfl⟩, g1⟩
  have G1 := Lib.hid g1; clear g1
  go_wp2
  go_ret
  exact ⟨K, rfl, (Chg.of_below (F := fun b => B ≤ b ∧ b < N) (grew_al (Below.refl _ _) _)).trans G1.out (fun _ _ h => h) (fun _ _ h => h)⟩
end Go.Proofs.YtmcfengnihomcaaGreat

/- The walk of the law FnExactGrfOrder, program against reference. No condition. -/
namespace Go.Proofs.YtmcfengnihomcaaGreat
open Go.RowKit
set_option linter.unusedVariables false
set_option linter.unusedSimpArgs false
attribute [local go_sem] ext_cell ext_frozen ext_lt ext_le ext_le1 lt_s2 lt_s3 lt_s4 lt_s5 lt_s6 ext_lt1 ext_lt2 ext_lt3

set_option maxHeartbeats 8000000 in
theorem lawFnExactGrfOrder (a0 : Option Addr) (n0 c0 : Nat) (ps0 : List Prc) (w : World) (hr0 : RdP w a0 n0 ps0) (hf0 : PrgWf ps0) (hl0 : n0 ≤ c0) (hm0 : c0 ≤ maxLen) :
    Calls Tryz.prog 3 #[.agg #[.slice a0 n0 c0]] w fun e w' => e = .returned (.bool true) ∧ Grew w w' := by
  have hn0 : n0 ≤ 9223372036854775807 := by unfold maxLen at hm0; omega
  have HR0 := Lib.hid hr0; clear hr0 hf0 hl0 hm0
  have hq0 : decide (ps0 = ps0) = true := by simp
  obtain ⟨S, hS⟩ : ∃ S, grfOrder ps0 = S := ⟨_, rfl⟩
  have HS := Lib.hid hS; clear hS
  have hSl : S.length ≤ 10 := by rw [← HS.out]; exact grfOrder_len _
  have hqS : decide (S = S) = true := by simp
  have BW : Hid (Grew w w) := Lib.hid (Below.refl _ _)
  go_enter Tryz.func3, Tryz.ntmps3
  go_wp2_with fail
  refine (szPrgProg a0 n0 c0 ps0 1048576 _ (HR0.out.grew (grew_tr BW.out (grew_al (Below.refl _ w) (.cells #[.slice a0 n0 c0] 24)))) (by omega) (by omega) hn0).mono ?_
  rintro e w1 ⟨z0, rfl, hz, g1⟩
  have GG2 : Grew w w1 := grew_tr (grew_al (Below.refl _ w) (.cells #[.slice a0 n0 c0] 24)) g1
  have Ba0 := Lib.hid ((Boxd.new w 24 #[.slice a0 n0 c0]).grew g1)
  have s3 : w.heap.size + 1 ≤ w1.heap.size := by have := g1.size; simp only [World.size_alloc, Nat.add_assoc, Nat.reduceAdd] at this; exact this
  have BW := Lib.hid (grew_tr BW.out GG2)
  clear GG2 g1
  have la0 := Ba0.out.1
  have qa0_0 : w1.cell? ⟨w.heap.size, 0, none⟩ = some (.slice a0 n0 c0) := Ba0.out.2 0 _ rfl
  rcases hz with rfl | ⟨za, zb, hz0, hy0⟩
  · go_wp2
    go_ret
    exact ⟨rfl, BW.out⟩
  have hyy0 := Lib.hid hy0; clear hy0
  have hzn0 : 0 ≤ z0 := za
  have hzm0 : z0 ≤ 1048576 := by omega
  clear za zb
  have hzl0 : ¬ z0 < 0 := by omega
  go_wp2_with fail
  refine (toPrgProg a0 n0 c0 ps0 _ (HR0.out.grew (BW.out)) hz0 hyy0.out).mono ?_
  rintro e w5 ⟨v4, ms4, rfl, o4, hm4, g4⟩
  obtain ⟨ca4, cc4, rfl⟩ := owns_slice o4.2.1
  have hq44 := Lib.hid hm4; clear hm4
  have P4 := Lib.hid (OwnP.blk o4)
  have GG6 : Grew w1 w5 := g4
  clear la0 qa0_0
  have Ba0 := Lib.hid (Ba0.out.grew GG6)
  have s7 : w1.heap.size ≤ w5.heap.size := GG6.size
  have BW := Lib.hid (grew_tr BW.out GG6)
  clear GG6 g4
  have la0 := Ba0.out.1
  have qa0_0 : w5.cell? ⟨w.heap.size, 0, none⟩ = some (.slice a0 n0 c0) := Ba0.out.2 0 _ rfl
  have O4 := Lib.hid o4; clear o4
  go_wp2_with fail
  refine (retIs_of (specGrfOrder ca4 n0 cc4 ps0 _ (prg_rd O4.out hq44.out) hn0) HS.out).mono ?_
  rintro e w9 ⟨ca8, cc8, rfl, o8, g8⟩
  have pp := o8.lt
  try simp only [World.size_alloc] at pp
  have P8 := Lib.hid pp; clear pp
  have GG10 : Grew w5 w9 := g8
  clear la0 qa0_0
  have O4 := Lib.hid (OwnP.grew O4.out GG10)
  have Ba0 := Lib.hid (Ba0.out.grew GG10)
  have s11 : w5.heap.size ≤ w9.heap.size := GG10.size
  have BW := Lib.hid (grew_tr BW.out GG10)
  clear GG10 g8
  have la0 := Ba0.out.1
  have qa0_0 : w9.cell? ⟨w.heap.size, 0, none⟩ = some (.slice a0 n0 c0) := Ba0.out.2 0 _ rfl
  have O8 := Lib.hid o8; clear o8
  clear O4 P4 hq44
  go_wp2_with fail
  refine (toPrgProg a0 n0 c0 ps0 _ (HR0.out.grew (BW.out)) hz0 hyy0.out).mono ?_
  rintro e w13 ⟨v12, ms12, rfl, o12, hm12, g12⟩
  obtain ⟨ca12, cc12, rfl⟩ := owns_slice o12.2.1
  have hq1212 := Lib.hid hm12; clear hm12
  have P12 := Lib.hid (OwnP.blk o12)
  have GG14 : Grew w9 w13 := g12
  clear la0 qa0_0
  have O8 := Lib.hid (owns_grew O8.out GG14)
  have Ba0 := Lib.hid (Ba0.out.grew GG14)
  have s15 : w9.heap.size ≤ w13.heap.size := GG14.size
  have BW := Lib.hid (grew_tr BW.out GG14)
  clear GG14 g12
  have la0 := Ba0.out.1
  have qa0_0 : w13.cell? ⟨w.heap.size, 0, none⟩ = some (.slice a0 n0 c0) := Ba0.out.2 0 _ rfl
  have O12 := Lib.hid o12; clear o12
  go_wp2_with fail
  refine (retIs_of (implGrfOrder ca12 n0 cc12 ps0 _ (RdL.grew stays_prc (prg_rd O12.out hq1212.out) (grew_al (Below.refl _ w13) (.cells #[.slice ca12 n0 cc12] 30))) hn0) HS.out).mono ?_
  rintro e w17 ⟨ca16, cc16, rfl, o16, g16⟩
  have pp := o16.lt
  try simp only [World.size_alloc] at pp
  have P16 := Lib.hid pp; clear pp
  have GG18 : Grew w13 w17 := grew_tr (grew_al (Below.refl _ w13) (.cells #[.slice ca12 n0 cc12] 30)) g16
  clear la0 qa0_0
  have O8 := Lib.hid (owns_grew O8.out GG18)
  have O12 := Lib.hid (OwnP.grew O12.out GG18)
  have Ba0 := Lib.hid (Ba0.out.grew GG18)
  have Bx0 := Lib.hid ((Boxd.new w13 30 #[.slice ca12 n0 cc12]).grew g16)
  have s19 : w13.heap.size + 1 ≤ w17.heap.size := by have := g16.size; simp only [World.size_alloc, Nat.add_assoc, Nat.reduceAdd] at this; exact this
  have BW := Lib.hid (grew_tr BW.out GG18)
  clear GG18 g16
  have la0 := Ba0.out.1
  have qa0_0 : w17.cell? ⟨w.heap.size, 0, none⟩ = some (.slice a0 n0 c0) := Ba0.out.2 0 _ rfl
  have lx0 := Bx0.out.1
  have qx0_0 : w17.cell? ⟨w13.heap.size, 0, none⟩ = some (.slice ca12 n0 cc12) := Bx0.out.2 0 _ rfl
  have O16 := Lib.hid o16; clear o16
  go_wp2_with fail
  refine (eqIntG ca16 S.length cc16 ca8 S.length cc8 S S _ (owns_rd O16.out) (owns_rd O8.out) (by omega) (by omega)).mono ?_
  rintro e w21 ⟨rfl, g20⟩
  have GG22 : Grew w17 w21 := g20
  clear la0 qa0_0
  clear lx0 qx0_0
  have O8 := Lib.hid (owns_grew O8.out GG22)
  have O12 := Lib.hid (OwnP.grew O12.out GG22)
  have O16 := Lib.hid (owns_grew O16.out GG22)
  have Ba0 := Lib.hid (Ba0.out.grew GG22)
  have Bx0 := Lib.hid (Bx0.out.grew GG22)
  have s23 : w17.heap.size ≤ w21.heap.size := GG22.size
  have BW := Lib.hid (grew_tr BW.out GG22)
  clear GG22 g20
  have la0 := Ba0.out.1
  have qa0_0 : w21.cell? ⟨w.heap.size, 0, none⟩ = some (.slice a0 n0 c0) := Ba0.out.2 0 _ rfl
  have lx0 := Bx0.out.1
  have qx0_0 : w21.cell? ⟨w13.heap.size, 0, none⟩ = some (.slice ca12 n0 cc12) := Bx0.out.2 0 _ rfl
  go_wp2_with fail
  go_region_held3 (fun W => W.cell? ⟨w.heap.size, 0, none⟩ = some (.slice a0 n0 c0) ∧ W.cell? ⟨w13.heap.size, 0, none⟩ = some (.slice ca12 n0 cc12)) (first | assumption | exact ⟨qa0_0, qx0_0⟩ | exact ⟨(ext_cellD _ _ ⟨w.heap.size, 0, none⟩ la0).trans qa0_0, (ext_cellD _ _ ⟨w13.heap.size, 0, none⟩ lx0).trans qx0_0⟩)
    (first
    | (go_at_call 7; refine (toPrgProg a0 n0 c0 ps0 _ (HR0.out.grew (grew_d BW.out)) hz0 hyy0.out).mono ?_; rintro e w2 ⟨v24, ms24, rfl, o24, hm24, g24⟩; obtain ⟨ca24, cc24, rfl⟩ := owns_slice o24.2.1; have R24 := Lib.hid (prg_rd o24 hm24); clear o24 hm24; obtain ⟨y24, rfl⟩ := ext_of g24; clear g24)
    | (go_at_call 10; refine (eqPrgProg ca12 ca24 n0 n0 cc12 cc24 ps0 ps0 _ (RdL.grew stays_prc (prg_rd O12.out hq1212.out) (grew_ext (grew_d (Below.refl _ _)) _)) R24.out hn0 hn0).mono ?_; rintro e w2 ⟨rfl, g27⟩; obtain ⟨y27, rfl⟩ := ext_col g27; clear g27))
  clear R24
  obtain ⟨w26, hw2⟩ : ∃ X, ext (w21).drew y27 = X := ⟨_, rfl⟩
  rw [hw2]
  have g127 : Grew w21 w26 := by rw [← hw2]; exact grew_ext (grew_d (Below.refl _ _)) _
  clear hw2
  have GG28 : Grew w21 w26 := g127
  clear la0 qa0_0
  clear lx0 qx0_0
  have O8 := Lib.hid (owns_grew O8.out GG28)
  have O12 := Lib.hid (OwnP.grew O12.out GG28)
  have O16 := Lib.hid (owns_grew O16.out GG28)
  have Ba0 := Lib.hid (Ba0.out.grew GG28)
  have Bx0 := Lib.hid (Bx0.out.grew GG28)
  have s29 : w21.heap.size ≤ w26.heap.size := GG28.size
  have BW := Lib.hid (grew_tr BW.out GG28)
  clear GG28 g127
  have la0 := Ba0.out.1
  have qa0_0 : w26.cell? ⟨w.heap.size, 0, none⟩ = some (.slice a0 n0 c0) := Ba0.out.2 0 _ rfl
  have lx0 := Bx0.out.1
  have qx0_0 : w26.cell? ⟨w13.heap.size, 0, none⟩ = some (.slice ca12 n0 cc12) := Bx0.out.2 0 _ rfl
  go_wp2_with fail
  refine (markPrgProg ca12 n0 cc12 1 _ _ _ _ O12.out P12.out (by omega) (by omega) (fun m hm => hyy0.out m.1 (by rw [← hq1212.out]; exact List.mem_map_of_mem hm))).mono ?_
  rintro e w31 ⟨K30, rfl, c30⟩
  clear O12
  clear la0 qa0_0
  clear lx0 qx0_0
  have O8 := Lib.hid (owns_chg O8.out c30 (fun b hb hF => by have h1 := P8.out b hb; obtain ⟨h2, h3⟩ := hF; (first | omega | (simp only [World.size_alloc] at *; omega))))
  have O16 := Lib.hid (owns_chg O16.out c30 (fun b hb hF => by have h1 := P16.out b hb; obtain ⟨h2, h3⟩ := hF; (first | omega | (simp only [World.size_alloc] at *; omega))))
  have Ba0 := Lib.hid (Ba0.out.chg c30 (fun hF => by obtain ⟨h2, h3⟩ := hF; (first | omega | (simp only [World.size_alloc] at *; omega))))
  have Bx0 := Lib.hid (Bx0.out.chg c30 (fun hF => by obtain ⟨h2, h3⟩ := hF; (first | omega | (simp only [World.size_alloc] at *; omega))))
  have s32 : w26.heap.size ≤ w31.heap.size := c30.size
  have BW := Lib.hid (BW.out.trans (c30.belowB BW.out.size (fun b hF => by obtain ⟨h2, h3⟩ := hF; (first | omega | (simp only [World.size_alloc] at *; omega)))))
  clear c30
  have la0 := Ba0.out.1
  have qa0_0 : w31.cell? ⟨w.heap.size, 0, none⟩ = some (.slice a0 n0 c0) := Ba0.out.2 0 _ rfl
  have lx0 := Bx0.out.1
  have qx0_0 : w31.cell? ⟨w13.heap.size, 0, none⟩ = some (.slice ca12 n0 cc12) := Bx0.out.2 0 _ rfl
  go_wp2_with fail
  refine (eqIntG ca16 S.length cc16 ca8 S.length cc8 S S _ (owns_rd O16.out) (owns_rd O8.out) (by omega) (by omega)).mono ?_
  rintro e w34 ⟨rfl, g33⟩
  have GG35 : Grew w31 w34 := g33
  clear la0 qa0_0
  clear lx0 qx0_0
  have O8 := Lib.hid (owns_grew O8.out GG35)
  have O16 := Lib.hid (owns_grew O16.out GG35)
  have Ba0 := Lib.hid (Ba0.out.grew GG35)
  have Bx0 := Lib.hid (Bx0.out.grew GG35)
  have s36 : w31.heap.size ≤ w34.heap.size := GG35.size
  have BW := Lib.hid (grew_tr BW.out GG35)
  clear GG35 g33
  have la0 := Ba0.out.1
  have qa0_0 : w34.cell? ⟨w.heap.size, 0, none⟩ = some (.slice a0 n0 c0) := Ba0.out.2 0 _ rfl
  have lx0 := Bx0.out.1
  have qx0_0 : w34.cell? ⟨w13.heap.size, 0, none⟩ = some (.slice ca12 n0 cc12) := Bx0.out.2 0 _ rfl
  go_wp2_with fail
  refine (markIntS ca16 S.length cc16 1 _ _ _ O16.out (by omega) (by omega)).mono ?_
  rintro e w38 ⟨rfl, o37, c37⟩
  clear O16
  clear la0 qa0_0
  clear lx0 qx0_0
  have O8 := Lib.hid (owns_chg O8.out c37 (fun b hb hF => by have h1 := P8.out b hb; have h2 := P16.out _ hF; omega))
  have Ba0 := Lib.hid (Ba0.out.chg c37 (fun hF => by have h2 := P16.out _ hF; omega))
  have Bx0 := Lib.hid (Bx0.out.chg c37 (fun hF => by have h2 := P16.out _ hF; omega))
  have s39 : w34.heap.size ≤ w38.heap.size := c37.size
  have BW := Lib.hid (BW.out.trans (c37.belowB BW.out.size (fun b hF => by have h2 := P16.out _ hF; omega)))
  clear c37
  have la0 := Ba0.out.1
  have qa0_0 : w38.cell? ⟨w.heap.size, 0, none⟩ = some (.slice a0 n0 c0) := Ba0.out.2 0 _ rfl
  have lx0 := Bx0.out.1
  have qx0_0 : w38.cell? ⟨w13.heap.size, 0, none⟩ = some (.slice ca12 n0 cc12) := Bx0.out.2 0 _ rfl
  have O16 := Lib.hid o37; clear o37
  go_wp2_with fail
  refine (heldIntG ca16 S.length cc16 1 _ (owns_rd O16.out) (by omega) (by omega)).mono ?_
  rintro e w41 ⟨rfl, g40⟩
  have GG42 : Grew w38 w41 := g40
  clear la0 qa0_0
  clear lx0 qx0_0
  have O8 := Lib.hid (owns_grew O8.out GG42)
  have O16 := Lib.hid (owns_grew O16.out GG42)
  have Ba0 := Lib.hid (Ba0.out.grew GG42)
  have Bx0 := Lib.hid (Bx0.out.grew GG42)
  have s43 : w38.heap.size ≤ w41.heap.size := GG42.size
  have BW := Lib.hid (grew_tr BW.out GG42)
  clear GG42 g40
  have la0 := Ba0.out.1
  have qa0_0 : w41.cell? ⟨w.heap.size, 0, none⟩ = some (.slice a0 n0 c0) := Ba0.out.2 0 _ rfl
  have lx0 := Bx0.out.1
  have qx0_0 : w41.cell? ⟨w13.heap.size, 0, none⟩ = some (.slice ca12 n0 cc12) := Bx0.out.2 0 _ rfl
  go_wp2_with fail
  refine (toPrgProg a0 n0 c0 ps0 _ (HR0.out.grew (BW.out)) hz0 hyy0.out).mono ?_
  rintro e w45 ⟨v44, ms44, rfl, o44, hm44, g44⟩
  obtain ⟨ca44, cc44, rfl⟩ := owns_slice o44.2.1
  have hq4444 := Lib.hid hm44; clear hm44
  have P44 := Lib.hid (OwnP.blk o44)
  have GG46 : Grew w41 w45 := g44
  clear la0 qa0_0
  clear lx0 qx0_0
  have O8 := Lib.hid (owns_grew O8.out GG46)
  have O16 := Lib.hid (owns_grew O16.out GG46)
  have Ba0 := Lib.hid (Ba0.out.grew GG46)
  have Bx0 := Lib.hid (Bx0.out.grew GG46)
  have s47 : w41.heap.size ≤ w45.heap.size := GG46.size
  have BW := Lib.hid (grew_tr BW.out GG46)
  clear GG46 g44
  have la0 := Ba0.out.1
  have qa0_0 : w45.cell? ⟨w.heap.size, 0, none⟩ = some (.slice a0 n0 c0) := Ba0.out.2 0 _ rfl
  have lx0 := Bx0.out.1
  have qx0_0 : w45.cell? ⟨w13.heap.size, 0, none⟩ = some (.slice ca12 n0 cc12) := Bx0.out.2 0 _ rfl
  have O44 := Lib.hid o44; clear o44
  go_wp2_with fail
  refine (retIs_of (implGrfOrder ca44 n0 cc44 ps0 _ (prg_rd O44.out hq4444.out) hn0) HS.out).mono ?_
  rintro e w49 ⟨ca48, cc48, rfl, o48, g48⟩
  have pp := o48.lt
  try simp only [World.size_alloc] at pp
  have P48 := Lib.hid pp; clear pp
  have GG50 : Grew w45 w49 := g48
  clear la0 qa0_0
  clear lx0 qx0_0
  have O8 := Lib.hid (owns_grew O8.out GG50)
  have O16 := Lib.hid (owns_grew O16.out GG50)
  have O44 := Lib.hid (OwnP.grew O44.out GG50)
  have Ba0 := Lib.hid (Ba0.out.grew GG50)
  have Bx0 := Lib.hid (Bx0.out.grew GG50)
  have s51 : w45.heap.size ≤ w49.heap.size := GG50.size
  have BW := Lib.hid (grew_tr BW.out GG50)
  clear GG50 g48
  have la0 := Ba0.out.1
  have qa0_0 : w49.cell? ⟨w.heap.size, 0, none⟩ = some (.slice a0 n0 c0) := Ba0.out.2 0 _ rfl
  have lx0 := Bx0.out.1
  have qx0_0 : w49.cell? ⟨w13.heap.size, 0, none⟩ = some (.slice ca12 n0 cc12) := Bx0.out.2 0 _ rfl
  have O48 := Lib.hid o48; clear o48
  clear O44 P44 hq4444
  go_wp2_with fail
  refine (eqIntG ca48 S.length cc48 ca8 S.length cc8 S S _ (owns_rd O48.out) (owns_rd O8.out) (by omega) (by omega)).mono ?_
  rintro e w53 ⟨rfl, g52⟩
  have GG54 : Grew w49 w53 := g52
  clear la0 qa0_0
  clear lx0 qx0_0
  have O8 := Lib.hid (owns_grew O8.out GG54)
  have O16 := Lib.hid (owns_grew O16.out GG54)
  have O48 := Lib.hid (owns_grew O48.out GG54)
  have Ba0 := Lib.hid (Ba0.out.grew GG54)
  have Bx0 := Lib.hid (Bx0.out.grew GG54)
  have s55 : w49.heap.size ≤ w53.heap.size := GG54.size
  have BW := Lib.hid (grew_tr BW.out GG54)
  clear GG54 g52
  have la0 := Ba0.out.1
  have qa0_0 : w53.cell? ⟨w.heap.size, 0, none⟩ = some (.slice a0 n0 c0) := Ba0.out.2 0 _ rfl
  have lx0 := Bx0.out.1
  have qx0_0 : w53.cell? ⟨w13.heap.size, 0, none⟩ = some (.slice ca12 n0 cc12) := Bx0.out.2 0 _ rfl
  go_wp2_with fail
  refine (heldIntG ca16 S.length cc16 1 _ (owns_rd O16.out) (by omega) (by omega)).mono ?_
  rintro e w57 ⟨rfl, g56⟩
  have GG58 : Grew w53 w57 := g56
  clear la0 qa0_0
  clear lx0 qx0_0
  have O8 := Lib.hid (owns_grew O8.out GG58)
  have O16 := Lib.hid (owns_grew O16.out GG58)
  have O48 := Lib.hid (owns_grew O48.out GG58)
  have Ba0 := Lib.hid (Ba0.out.grew GG58)
  have Bx0 := Lib.hid (Bx0.out.grew GG58)
  have s59 : w53.heap.size ≤ w57.heap.size := GG58.size
  have BW := Lib.hid (grew_tr BW.out GG58)
  clear GG58 g56
  have la0 := Ba0.out.1
  have qa0_0 : w57.cell? ⟨w.heap.size, 0, none⟩ = some (.slice a0 n0 c0) := Ba0.out.2 0 _ rfl
  have lx0 := Bx0.out.1
  have qx0_0 : w57.cell? ⟨w13.heap.size, 0, none⟩ = some (.slice ca12 n0 cc12) := Bx0.out.2 0 _ rfl
  go_wp2
  go_ret
  exact ⟨rfl, BW.out⟩
end Go.Proofs.YtmcfengnihomcaaGreat