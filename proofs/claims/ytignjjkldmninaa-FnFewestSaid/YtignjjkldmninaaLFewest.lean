/- FnFewest: the walk. -/
import Derived.Test.YtignjjkldmninaaDrwE
import Derived.Test.YtignjjkldmninaaFewI
import Derived.Test.YtignjjkldmninaaAppAt
import Derived.Deep.RegionLaw
namespace Go.Proofs.Ytignjjkldmninaa
set_option linter.unusedVariables false
open Go.RowKit
/-- append of a part of a slice at a step of a region that draws its order -/
theorem step_appSub {P : Program} {α : Type} (f : α → List Value) (z : Nat) (hf : ∀ a, (f a).length = z) (w : World) {ops : Array Oper} {o : Oper} {a : Act} {K : Act → World → Prop} {Q : Exit → Act → World → Prop} {E : Prop} (hgd : o.guard = none) (s x : Operand) (t : TypeId)
    (ho : o.op = .call { callee := .builtin .append, args := #[s, x], argTypes := #[t, t] })
    (B : Nat) (e : TypeId) (i : TypeInfo) (zv : Value) (bytes : Nat) (ht : P.underlying t = some (.slice e)) (hi : P.info? e = some i) (hz : i.zero = some zv)
    (hsize : i.size = z) (hby : i.bytes = bytes) (hzs : zv.cells.size = z) (hsz : 0 < z)
    (v : Value) (l : List α) (hs : a.eval s = v) (hown : OwnL f z e B w v l)
    (gx ox m c : Nat) (lx : List α) (hm : lx.length = m) (hx : a.eval x = .slice (some ⟨gx, ox, none⟩) m c) (hnews : ∀ k b j u, lx[k]? = some b → (f b)[j]? = some u → w.cell? ⟨gx, ox + (k * z + j), none⟩ = some u) (h1 : ∀ b, ∀ u ∈ f b, u.oneCell' = true)
    (hn : l.length + m ≤ 16777216) (hbytes : bytes ≤ 4096) (hbase : B ≤ w.heap.size)
    (h : ∀ v' w', OwnL f z e B w' v' (l ++ lx) → w.grownBy w' v.ownBlock → (v'.ownBlock = v.ownBlock ∨ v'.ownBlock = some w.heap.size) → K (a.put o.dst v') w') :
    if Region.wanted o (yielded ops a.tmps) = true then Oper.wp P o a w K Q else E := by
  have hw : Region.wanted o (yielded ops a.tmps) = true := by simp [Region.wanted, hgd]
  rw [if_pos hw]
  subst hm
  obtain ⟨v', w', hr, h2, h3, _, h5⟩ := run_append_own_at (P := P) w B t o.type e i zv z bytes ht hi hz hsize hby hzs hsz v l.length (flat f l) hown ⟨gx, ox, none⟩ lx.length c (flat f lx) (flat_len hf lx) (by
    intro j u hu
    have e2 : (⟨gx, ox, none⟩ : Addr).add j = ⟨gx, ox + j, none⟩ := by unfold Addr.add; split <;> simp_all
    rw [e2]
    have hj : j < lx.length * z := by have := (List.getElem?_eq_some_iff.1 hu).1; rwa [flat_len hf] at this
    have hk : j / z < lx.length := Nat.div_lt_of_lt_mul (by rw [Nat.mul_comm]; exact hj)
    have ej : j = j / z * z + j % z := by rw [Nat.mul_comm]; exact (Nat.div_add_mod j z).symm
    have hb := List.getElem?_eq_getElem hk
    rw [ej, flat_get hf hb (Nat.mod_lt _ hsz)] at hu
    rw [ej]
    exact hnews _ _ _ _ hb hu) (by
    intro u hu
    obtain ⟨b, _, hb⟩ := List.mem_flatMap.1 hu
    exact h1 b u hb) (by unfold maxLen; omega) (by
    have : (l.length + lx.length) * bytes ≤ 16777216 * 4096 := Nat.mul_le_mul hn hbytes
    omega) hbase
  unfold Oper.wp execOp
  simp only [ho, resolve, invoke, builtin, Sem.run_bind, Sem.run_pure, Result.andThen_ok, List.map_toArray, List.map_cons, List.map_nil, hs, hx, hr]
  refine h v' w' ?_ h3 h5
  unfold OwnL
  rw [flat_app, List.length_append]
  exact h2
theorem Int64L.built1 (w : World) (B : Nat) (x : Int) (hB : B ≤ w.heap.size) : Int64L B (w.alloc (.cells #[.int .i64 x] 2)) (.slice (some ⟨w.heap.size, 0, none⟩) 1 1) [x] := by
  refine ⟨by simp [flat, icell], .inr ⟨w.heap.size, 1, #[.int .i64 x], rfl, hB, heap_alloc_new w _, ?_⟩⟩
  simp [flat, icell, maxLen]
theorem own_cap {α : Type} {f : α → List Value} {z : Nat} {e : TypeId} {B g n c : Nat} {w : World} {l : List α} (h : OwnL f z e B w (.slice (some ⟨g, 0, none⟩) n c) l) : n ≤ c ∧ c ≤ maxLen := by
  have hn : l.length = n := by
    obtain ⟨A, c', h1, _⟩ := h.shape
    injection h1 with _ h1 _; exact h1.symm
  rcases h.2 with ⟨h', _⟩ | ⟨g', cap, cur, h', _, _, hnc, hm, _⟩
  · cases h'
  · injection h' with _ _ h3
    subst h3
    exact ⟨by omega, hm⟩
theorem part_cells {B g n c : Nat} {w : World} {l : List Int} (h : Int64L B w (.slice (some ⟨g, 0, none⟩) n c) l) (o a : Nat) : ∀ k b j u, ((l.drop o).take a)[k]? = some b → (icell b)[j]? = some u → w.cell? ⟨g, o + (k * 1 + j), none⟩ = some u := by
  intro k b j u hb hu
  rw [List.getElem?_take] at hb
  split at hb
  · rw [List.getElem?_drop] at hb
    have := OwnL.at1 icell_len h hb hu
    rw [Nat.mul_one] at this ⊢
    rw [← Nat.add_assoc]
    exact this
  · cases hb
theorem icell_one (a : Int) : ∀ u ∈ icell a, u.oneCell' = true := by simp [icell, Value.oneCell']
def ixs (k : Nat) : List Int := (List.range k).map fun i : Nat => (i : Int)
theorem ixs_succ (k : Nat) : ixs (k + 1) = ixs k ++ [(k : Int)] := by simp [ixs, List.range_succ]
theorem ixs_len (k : Nat) : (ixs k).length = k := by simp [ixs]
theorem ixs_mem {k : Nat} {x : Int} (h : x ∈ ixs k) : 0 ≤ x ∧ x < k := by
  obtain ⟨i, hi, rfl⟩ := List.mem_map.1 h
  have := List.mem_range.1 hi
  omega
/-- what is known of the fewest dumps -/
structure FewK (l : List Dsc) (N : Nat) (S : List Int) : Prop where
  rg : ∀ x ∈ S, 0 ≤ x ∧ x < (l.length : Int)
  up : S.Pairwise (· < ·)
  all : d8R l S 0 N = d8R l (ixs l.length) 0 N
  min : ∀ i, i < S.length → d8R l (S.take i ++ S.drop (i + 1)) 0 N ≠ d8R l (ixs l.length) 0 N
  len : S.length ≤ 1048576
theorem few_known {l : List Dsc} {z : Dsc} (hok : dumpsOk l = true) (hz : l[0]? = some z) : ∃ S, fewE l = (S, 0) ∧ FewK l z.secs.length S := by
  have h5 := du_len hok
  obtain ⟨b, hb, he, hr, hmin⟩ := few_law (l := l) (N := z.secs.length) h5
  have hhd : (l.headD default) = z := by
    cases l with
    | nil => cases hz
    | cons a r => simpa using hz
  have hall : d8R l (ixs l.length) 0 z.secs.length = reachF l (2 ^ l.length - 1) 0 z.secs.length := by
    have := d8R_set l (2 ^ l.length - 1) 0 z.secs.length
    rw [← all_set] at this
    exact this
  refine ⟨setG b 0 l.length, ?_, fun x hx => set_lt hx, set_srt _ _ _, ?_, fun i hi => ?_, ?_⟩
  · unfold fewE; rw [if_pos hok, hhd, he]
  · rw [hall, ← hr, d8R_set]
  · rw [hall]; exact hmin i hi
  · have := set_len b 0 l.length; omega
set_option maxRecDepth 20000 in
set_option maxHeartbeats 8000000 in
theorem walkFnFewest (A : Option Addr) (n c : Nat) (w : World) (h : BytesIn w A n) (hm : n ≤ maxLen) :
    Calls Try.prog 13 #[.slice A n c] w fun e w' => e = .returned (.bool true) ∧ Below w.heap.size w w' := by
  by_cases hlong : 1048576 < n
  · have d1 : decide ((1048576 : Int) < (n : Int)) = true := by rw [decide_eq_true_eq]; omega
    go_enter Try.func13, Try.ntmps13
    go_wp2
    go_ret
    exact ⟨rfl, Below.refl _ _⟩
  · have d1 : decide ((1048576 : Int) < (n : Int)) = false := by rw [decide_eq_false_iff_not]; omega
    have hn : n ≤ 1048576 := by omega
    obtain ⟨i0, hi, hz0, hz1, hz2⟩ := info_parts icell_info
    go_enter Try.func13, Try.ntmps13
    go_wp2_with (fail)
    refine (e8dumps_s A n c _ h hn).mono ?_; rintro e w1 ⟨v, l, rfl, hO, hok, hb1⟩
    obtain ⟨z, hz⟩ := du_first hok
    obtain ⟨S, hS, hK⟩ := few_known hok hz
    have h5 := du_len hok
    have hl0 : l ≠ [] := by rintro rfl; cases hz
    have hl1 : 1 ≤ l.length := List.length_pos_iff.2 hl0
    have hN : z.secs.length ≤ 128 := ok_le (du_mem hok hz (List.mem_of_getElem? hz)).1
    have hD : ∀ d ∈ l, d.secs.length = z.secs.length := fun d hd => du_secs hok hz hd
    have hsz : ∀ d ∈ l, d.secs.length ≤ 1048576 := fun d hd => by rw [hD d hd]; omega
    have hmx : ∀ d ∈ l, ∀ s ∈ d.secs, s.data.size ≤ maxLen := fun d hd s hs => by
      have h1 := (du_mem hok hz hd).1
      unfold discOk at h1
      simp only [Bool.and_eq_true, List.all_eq_true] at h1
      have h2 : s.data.size = szN d.size := by
        have h4 := h1.2.2 s hs
        unfold secOk at h4; simp only [Bool.and_eq_true, decide_eq_true_eq] at h4; exact h4.1.2
      have h3 := szN_le (geo_parts h1.1).2.2.2
      unfold maxLen; omega
    have HD8 : Hid (∀ Bs s vs W, Below w1.heap.size w1 W → Int64L Bs W vs s → s.length ≤ 1048576 → (∀ x ∈ s, 0 ≤ x ∧ x < (l.length : Int)) → Calls Try.prog 58 #[v, vs] W fun e w' => e = .returned (.int .i64 (d8R l s 0 z.secs.length)) ∧ Below W.heap.size W w') := Lib.hid (fun Bs s vs W hb hs h1 h2 => d8r_l _ Bs l z s v vs W (hO.below hb) hz h5 hN hD hs h1 h2)
    have HFE : Hid (∀ W, Below w1.heap.size w1 W → Calls Try.prog 52 #[v] W fun e w' => RInt64S.retI W S 0 e w') := Lib.hid (fun W hb => by
      have := few_i _ l v W (hO.below hb) (by omega) hsz hmx
      rw [hS] at this; exact this)
    obtain ⟨db, hdb, hbest⟩ := best_law hl0
    have hbe : bestE l = (((bestF 0 (-1) 0 l : Nat) : Int), 0) := by unfold bestE; rw [if_pos hok]
    have HBE : Hid (∀ W, Below w1.heap.size w1 W → Calls Try.prog 27 #[v] W fun e w' => e = .returned (.tuple #[.int .i64 ((bestF 0 (-1) 0 l : Nat) : Int), .int .i64 0]) ∧ Below W.heap.size W w') := Lib.hid (fun W hb => by
      have := best_i _ l v W (hO.below hb) (by omega) hsz hmx
      rw [hbe] at this; exact this)
    generalize bestF 0 (-1) 0 l = bI at *
    have hbl : bI < l.length := (List.getElem?_eq_some_iff.1 hdb).1
    have HB1 : Hid (∀ i, i < l.length → d8R l [(i : Int)] 0 z.secs.length ≤ d8R l [(bI : Int)] 0 z.secs.length) := Lib.hid (fun i hi => by
      have hd := List.getElem?_eq_getElem hi
      rw [d8R_one hd _ 0 (by rw [hD _ (List.mem_of_getElem? hd)]; omega), d8R_one hdb _ 0 (by rw [hD _ (List.mem_of_getElem? hdb)]; omega)]
      exact hbest i _ hd)
    have HK := Lib.hid hK
    obtain ⟨Ad, cd, rfl, _⟩ := hO
    clear hS hK hbe hdb hbest hsz hmx hD hok hz hl0 h
    have HA0 : Hid (Int64L w1.heap.size (w1.alloc (.cells #[] 2)) (.slice (some ⟨w1.heap.size, 0, none⟩) 0 0) (ixs 0)) := Lib.hid (OwnL.of_empty w1 (Nat.le_refl _))
    have hB0 : Below w1.heap.size w1 (w1.alloc (.cells #[] 2)) := Below.alloc (Below.refl _ _) (Nat.le_refl _) _
    have z1 := hb1.size
    go_wp2_with (fail)
    go_loopw [5, 4] (fun i y wr => ∃ k : Nat, k ≤ l.length ∧ i = .int .i64 k ∧ Below w1.heap.size w1 wr ∧ Hid (Int64L w1.heap.size wr y (ixs k))) (fun i _ _ => l.length - (intOf i).toNat)
    case atStart => exact ⟨0, by omega, rfl, hB0, HA0⟩
    case round =>
      clear HA0 hB0
      obtain ⟨k, hk, rfl, hb, HO⟩ := hrel
      obtain ⟨Ay, ny, cy, rfl⟩ := own_slice HO.out
      have zr := hb.size
      by_cases hlt : k < l.length
      · have hl2 : (ixs k).length + 1 ≤ 16777216 := by rw [ixs_len]; omega
        have hbase : w1.heap.size ≤ (wr.alloc (.cells #[.int .i64 (k : Int)] 2)).heap.size := by simp; omega
        go_wp2_with (at_builtin; refine wpList_app1 icell 1 icell_len _ rfl _ _ _ rfl w1.heap.size 2 i0 (.int .i64 0) 8 Try.underlying32 hi hz0 hz1 hz2 rfl (by decide) _ (ixs k) rfl (HO.out.alloc _) _ 1 (k : Int) rfl ?_ (icell_one _) hl2 (by decide) hbase ?_; (· intro j u hu; cases j with | zero => (simp [icell] at hu; subst hu; simp) | succ j => simp [icell] at hu); intro v8 w8 how8 hg8; have hb8 : Below w1.heap.size w1 w8 := own_grown_below (HO.out.alloc (.cells #[.int .i64 (k : Int)] 2)) (Below.alloc hb zr _) hg8 (Nat.le_refl _) hbase; have HO8 := Lib.hid how8; clear how8 hg8)
        go_roundw
        case rel => exact ⟨k + 1, by omega, by go_num, hb8, by rw [ixs_succ]; exact HO8⟩
        case measure => simp [intOf]; omega
      · obtain rfl : k = l.length := by omega
        go_wp2_with (fail)
        refine (HFE.out wr hb).mono ?_; rintro e w3 ⟨v3, rfl, o3, hb3⟩
        have hb13 := hb.trans (hb3.mono zr)
        have HA3 := Lib.hid (OwnL.below HO.out hb3)
        have HS3 := Lib.hid o3.1
        obtain ⟨As, cs, rfl, hAs⟩ := OwnL.shape o3.1
        have z3 := hb3.size
        have hRA : Hid (d8R l S 0 z.secs.length = d8R l (ixs l.length) 0 z.secs.length) := Lib.hid HK.out.all
        have hSl := HK.out.len
        clear HFE HO o3
        go_wp2_with (fail)
        go_loopw [8] (fun i wr => ∃ k : Nat, k ≤ S.length ∧ i = .int .i64 k ∧ Below w3.heap.size w3 wr) (fun i _ => S.length - (intOf i).toNat)
        case atStart => exact ⟨0, by omega, rfl, Below.refl _ _⟩
        case round =>
          obtain ⟨k, hk, rfl, hbk⟩ := hrel
          by_cases hlt2 : k < S.length
          · obtain ⟨y, hy⟩ : ∃ y, S[k]? = some y := ⟨S[k], List.getElem?_eq_getElem hlt2⟩
            obtain ⟨hy0, hyl⟩ := HK.out.rg y (List.mem_of_getElem? hy)
            obtain ⟨m, hm'⟩ : ∃ m : Nat, y = (m : Int) := ⟨y.toNat, by omega⟩
            subst hm'
            obtain ⟨gs, rfl, _, hgs⟩ := hAs.resolve_left (by intro e; rw [e] at hlt2; simp at hlt2)
            have q0 : wr.cell? ⟨gs, k, none⟩ = some (.int .i64 (m : Int)) := by
              have h1 := OwnL.cell icell_len HS3.out hy (j := 0) rfl
              rw [Nat.mul_one, Nat.add_zero] at h1
              exact (hbk.cell (p := ⟨gs, k, none⟩) hgs).trans h1
            have d2 : decide ((l.length : Int) ≤ (m : Int)) = false := by rw [decide_eq_false_iff_not]; omega
            have d2' : decide (l.length ≤ m) = false := by rw [decide_eq_false_iff_not]; omega
            have d0 : decide ((m : Int) < 0) = false := by rw [decide_eq_false_iff_not]; omega
            by_cases hk0 : k = 0
            · subst hk0
              have q0w : ∀ x : Wb wr, x.1.cell? ⟨gs, 0, none⟩ = some (.int .i64 (m : Int)) := fun x => Wb.cell q0 x
              clear hy hy0 hyl q0
              go_wp2_with (fail)
              refine wp_region_wb (by kernel_rfl) (by kernel_rfl) ?_
              repeat (go_big_quiet_step (fail))
              refine wpQuiet_nil ?_; intro w4 hw'; obtain ⟨⟨wq, hb4⟩, hw''⟩ := hw'; subst hw''
              go_wp2
              go_roundw
              case rel => exact ⟨1, by omega, rfl, hbk.trans (hb4.mono hbk.size)⟩
              case measure => first | (simp [intOf]; done) | (simp [intOf]; omega)
            · obtain ⟨j, rfl⟩ : ∃ j, k = j + 1 := ⟨k - 1, by omega⟩
              obtain ⟨y', hy'⟩ : ∃ y, S[j]? = some y := ⟨S[j]'(by omega), List.getElem?_eq_getElem (by omega)⟩
              have q1 : wr.cell? ⟨gs, j, none⟩ = some (.int .i64 y') := by
                have h1 := OwnL.cell icell_len HS3.out hy' (j := 0) rfl
                rw [Nat.mul_one, Nat.add_zero] at h1
                exact (hbk.cell (p := ⟨gs, j, none⟩) hgs).trans h1
              have hup : y' < (m : Int) := by
                have h1 := List.pairwise_iff_getElem.1 HK.out.up j (j + 1) (by omega) hlt2 (by omega)
                rw [(List.getElem?_eq_some_iff.1 hy').2, (List.getElem?_eq_some_iff.1 hy).2] at h1
                exact h1
              have d3 : decide ((m : Int) ≤ y') = false := by rw [decide_eq_false_iff_not]; omega
              have e1 : ((j + 1 : Nat) : Int) - 1 = (j : Int) := by omega
              have q0w : ∀ x : Wb wr, x.1.cell? ⟨gs, j + 1, none⟩ = some (.int .i64 (m : Int)) := fun x => Wb.cell q0 x
              have q1w : ∀ x : Wb wr, x.1.cell? ⟨gs, j, none⟩ = some (.int .i64 y') := fun x => Wb.cell q1 x
              clear hy hy0 hyl hy' q0 q1
              go_wp2_with (fail)
              refine wp_region_wb (by kernel_rfl) (by kernel_rfl) ?_
              repeat (go_big_quiet_step (fail))
              refine wpQuiet_nil ?_; intro w4 hw'; obtain ⟨⟨wq, hb4⟩, hw''⟩ := hw'; subst hw''
              go_wp2
              go_roundw
              case rel => exact ⟨j + 1 + 1, by omega, by go_num, hbk.trans (hb4.mono hbk.size)⟩
              case measure => simp [intOf]; omega
          · obtain rfl : k = S.length := by omega
            have h3b : ∀ W, Below w3.heap.size w3 W → Below w1.heap.size w1 W := fun W hW => hb13.trans (hW.mono (by omega))
            obtain ⟨R, hR⟩ : ∃ R, d8R l (ixs l.length) 0 z.secs.length = R := ⟨_, rfl⟩
            have HDS : Hid (∀ W, Below w3.heap.size w3 W → Calls Try.prog 58 #[.slice Ad l.length cd, .slice As S.length cs] W fun e w' => e = .returned (.int .i64 (R : Int)) ∧ Below W.heap.size W w') := Lib.hid (fun W hW => by
              have h1 := HD8.out _ S _ W (h3b W hW) (OwnL.below HS3.out hW) hSl HK.out.rg
              rw [hRA.out, hR] at h1; exact h1)
            have HDA : Hid (∀ W, Below w3.heap.size w3 W → Calls Try.prog 58 #[.slice Ad l.length cd, .slice Ay ny cy] W fun e w' => e = .returned (.int .i64 (R : Int)) ∧ Below W.heap.size W w') := Lib.hid (fun W hW => by
              have h1 := HD8.out _ (ixs l.length) _ W (h3b W hW) (OwnL.below HA3.out hW) (by rw [ixs_len]; omega) (fun x hx => ixs_mem hx)
              rw [hR] at h1; exact h1)
            have HDM : Hid (∀ i, i < S.length → ∃ R' : Nat, ((R' : Int) == (R : Int)) = false ∧ (R' == R) = false ∧ ∀ Bs vs W, Below w3.heap.size w3 W → Int64L Bs W vs (S.take i ++ S.drop (i + 1)) → Calls Try.prog 58 #[.slice Ad l.length cd, vs] W fun e w' => e = .returned (.int .i64 (R' : Int)) ∧ Below W.heap.size W w') := Lib.hid (fun i hi => by
              have hne := HK.out.min i hi
              rw [hR] at hne
              refine ⟨_, by rw [beq_eq_false_iff_ne]; intro e; exact hne (Int.ofNat.inj e), by rw [beq_eq_false_iff_ne]; exact hne, fun Bs vs W hW hv => HD8.out Bs _ vs W (h3b W hW) hv (by simp; omega) (fun x hx => HK.out.rg x ?_)⟩
              rcases List.mem_append.1 hx with hx | hx
              · exact List.mem_of_mem_take hx
              · exact List.mem_of_mem_drop hx)
            clear hR hRA
            go_wp2_with (fail)
            refine (HDS.out wr hbk).mono ?_; rintro e w5 ⟨rfl, hb5⟩
            have hbk5 := hbk.trans (hb5.mono hbk.size)
            go_wp2_with (fail)
            refine (HDA.out w5 hbk5).mono ?_; rintro e w6 ⟨rfl, hb6⟩
            have hbk6 := hbk5.trans (hb6.mono hbk5.size)
            clear hb5 hb6 hbk5 hbk HDS
            go_wp2_with (fail)
            generalize hwo : wr = wo at *
            clear hwo
            go_loopw [9] (fun i wr => ∃ k : Nat, k ≤ S.length ∧ i = .int .i64 k ∧ Below w3.heap.size w3 wr) (fun i _ => S.length - (intOf i).toNat)
            case atStart => exact ⟨0, by omega, rfl, hbk6⟩
            case round =>
              clear hbk6
              obtain ⟨k, hk, rfl, hbk⟩ := hrel
              by_cases hlt2 : k < S.length
              · obtain ⟨gs, rfl, _, hgs⟩ := hAs.resolve_left (by intro e; rw [e] at hlt2; simp at hlt2)
                have HSk := Lib.hid (OwnL.below HS3.out hbk)
                obtain ⟨hcap, hcm⟩ := own_cap HS3.out
                have hkc : k ≤ cs := by omega
                have hk1 : k + 1 ≤ S.length := by omega
                have hkc1 : k + 1 ≤ cs := by omega
                have hkx : (k : Int) ≤ (k : Int) + 1 := by omega
                have hwr : IntKind.i64.wrap ((k : Int) + 1) = (k : Int) + 1 := by rw [IntKind.wrap_i64]; omega
                have htn : ((k : Int) + 1).toNat = k + 1 := by omega
                have hk0i : (0 : Int) ≤ (k : Int) + 1 := by omega
                have hki : (k : Int) + 1 ≤ (S.length : Int) := by omega
                have hkj : (S.length : Int) ≤ (cs : Int) := by omega
                have zr := hbk.size
                have hw9 : Below wr.heap.size wr ((wr.alloc (.cells #[] 2)).drew) := (Below.alloc (Below.refl _ _) (Nat.le_refl _) _).drew
                have HE9 : Hid (Int64L wr.heap.size ((wr.alloc (.cells #[] 2)).drew) (.slice (some ⟨wr.heap.size, 0, none⟩) 0 0) []) := Lib.hid (OwnL.below (OwnL.of_empty wr (Nat.le_refl _)) (Below.refl _ _).drew)
                have HS9 := Lib.hid (OwnL.below HSk.out hw9)
                have HP1 : Hid (∀ kk b j u, (S.take k)[kk]? = some b → (icell b)[j]? = some u → ((wr.alloc (.cells #[] 2)).drew).cell? ⟨gs, 0 + (kk * 1 + j), none⟩ = some u) := Lib.hid (fun kk b j u h1 h2 => part_cells HS9.out 0 k kk b j u (by simpa using h1) h2)
                have hz9 : wr.heap.size ≤ ((wr.alloc (.cells #[] 2)).drew).heap.size := hw9.size
                have hn1 : ([] : List Int).length + k ≤ 16777216 := by rw [List.length_nil]; omega
                have hn2 : (S.take k).length + (S.length - (k + 1)) ≤ 16777216 := by rw [List.length_take]; omega
                have htl : (S.take k).length = k := by rw [List.length_take]; omega
                have HTL := Lib.hid htl
                have HDL : Hid ((S.drop (k + 1)).length = S.length - (k + 1)) := Lib.hid (by rw [List.length_drop])
                have HP3 : Hid (cs = k + 1 → ∀ (W : World) kk b j u, (S.drop (k + 1))[kk]? = some b → (icell b)[j]? = some u → W.cell? ⟨gs, 0 + (kk * 1 + j), none⟩ = some u) := Lib.hid (fun h W kk b j u h1 _ => by
                  have h2 := (List.getElem?_eq_some_iff.1 h1).1
                  rw [List.length_drop] at h2; omega)
                clear htl
                obtain ⟨R', hr1, hr2, HR'⟩ := HDM.out k hlt2
                have HRR := Lib.hid HR'
                clear HR'
                rcases Decidable.em (cs = k + 1) with hce | hce
                all_goals
                  go_wp2_with (fail)
                  go_region_law (first
                    | (refine step_appSub icell 1 icell_len _ (by rfl) _ _ _ (by rfl) wr.heap.size 2 i0 (.int .i64 0) 8 Try.underlying32 hi hz0 hz1 hz2 rfl (by decide) (.slice (some ⟨wr.heap.size, 0, none⟩) 0 0) [] (by rfl) HE9.out gs 0 k _ (S.take k) HTL.out (by rfl) HP1.out icell_one hn1 (by decide) hz9 ?_; intro v7 w7 how7 hg7 hbl7; have HO7 : Hid (Int64L wr.heap.size w7 v7 (S.take k)) := Lib.hid how7; have hb7 : Below wr.heap.size wr w7 := own_grown_below HE9.out hw9 hg7 (Nat.le_refl _) hz9; have HS7 := Lib.hid (OwnL.below HSk.out hb7); have HP2 : Hid (∀ kk b j u, (S.drop (k + 1))[kk]? = some b → (icell b)[j]? = some u → w7.cell? ⟨gs, k + 1 + (kk * 1 + j), none⟩ = some u) := Lib.hid (fun kk b j u h1 h2 => part_cells HS7.out (k + 1) S.length kk b j u (by rw [List.take_of_length_le (by rw [List.length_drop]; omega)]; exact h1) h2); have hz7 := hb7.size; clear how7 hg7 hbl7)
                    | (refine step_appSub icell 1 icell_len _ (by rfl) _ _ _ (by rfl) wr.heap.size 2 i0 (.int .i64 0) 8 Try.underlying32 hi hz0 hz1 hz2 rfl (by decide) v7 (S.take k) (by rfl) HO7.out gs (k + 1) (S.length - (k + 1)) _ (S.drop (k + 1)) HDL.out (by rfl) HP2.out icell_one hn2 (by decide) hz7 ?_; intro v8 w8 how8 hg8 hbl8; have HO8 := Lib.hid how8; have hb8 : Below wr.heap.size wr w8 := own_grown_below HO7.out hb7 hg8 (Nat.le_refl _) hz7; clear how8 hg8 hbl8)
                    | (refine step_appSub icell 1 icell_len _ (by rfl) _ _ _ (by rfl) wr.heap.size 2 i0 (.int .i64 0) 8 Try.underlying32 hi hz0 hz1 hz2 rfl (by decide) v7 (S.take k) (by rfl) HO7.out gs 0 (S.length - (k + 1)) _ (S.drop (k + 1)) HDL.out (by rfl) (HP3.out hce _) icell_one hn2 (by decide) hz7 ?_; intro v8 w8 how8 hg8 hbl8; have HO8 := Lib.hid how8; have hb8 : Below wr.heap.size wr w8 := own_grown_below HO7.out hb7 hg8 (Nat.le_refl _) hz7; clear how8 hg8 hbl8))
                  all_goals
                    try subst hce
                    have hbk8 := hbk.trans (hb8.mono hbk.size)
                    clear HE9 HS9 HP1 HP2 HP3 HS7 HO7
                    go_wp2_with (fail)
                    refine (HRR.out _ _ _ hbk8 HO8.out).mono ?_; rintro e w9 ⟨rfl, hb9⟩
                    have hbk9 := hbk8.trans (hb9.mono hbk8.size)
                    go_wp2_with (fail)
                    refine (HDA.out w9 hbk9).mono ?_; rintro e w10 ⟨rfl, hb10⟩
                    have hbk10 := hbk9.trans (hb10.mono hbk9.size)
                    go_wp2_with (fail)
                    go_roundw
                    case rel => exact ⟨k + 1, by omega, by go_num, hbk10⟩
                    case measure => simp [intOf]; omega
              · obtain rfl : k = S.length := by omega
                have hb1k := h3b _ hbk
                go_wp2_with (fail)
                refine (HBE.out wr hb1k).mono ?_; rintro e w7 ⟨rfl, hb7⟩
                have hb17 := hb1k.trans (hb7.mono hb1k.size)
                have d6 : decide ((bI : Int) < 0) = false := by rw [decide_eq_false_iff_not]; omega
                have d7 : decide ((l.length : Int) ≤ (bI : Int)) = false := by rw [decide_eq_false_iff_not]; omega
                have d7' : decide (l.length ≤ bI) = false := by rw [decide_eq_false_iff_not]; omega
                clear HDA HDM HS3 HA3 hbk hb7 hb1k HBE h3b hb13
                go_wp2_with (fail)
                go_loopw [13] (fun i wr => ∃ k : Nat, k ≤ l.length ∧ i = .int .i64 k ∧ Below w1.heap.size w1 wr) (fun i _ => l.length - (intOf i).toNat)
                case atStart => exact ⟨0, by omega, rfl, hb17⟩
                case round =>
                  clear hb17
                  obtain ⟨k, hk, rfl, hbq⟩ := hrel
                  by_cases hlt4 : k < l.length
                  · have hzq := hbq.size
                    have hle := HB1.out k hlt4
                    have HX1 := Lib.hid (fun W hW (vs : Value) Bs (o : Int64L Bs W vs [(k : Int)]) => HD8.out Bs [(k : Int)] vs W hW o (by simp) (by simp; omega))
                    have HX2 := Lib.hid (fun W hW (vs : Value) Bs (o : Int64L Bs W vs [(bI : Int)]) => HD8.out Bs [(bI : Int)] vs W hW o (by simp) (by simp; omega))
                    generalize d8R l [(k : Int)] 0 z.secs.length = x1 at *
                    generalize d8R l [(bI : Int)] 0 z.secs.length = x2 at *
                    have d8 : decide ((x2 : Int) < (x1 : Int)) = false := by rw [decide_eq_false_iff_not]; omega
                    have d8' : decide (x2 < x1) = false := by rw [decide_eq_false_iff_not]; omega
                    have O1 := Int64L.built1 wr wr.heap.size (k : Int) (Nat.le_refl _)
                    have hbq1 : Below w1.heap.size w1 (wr.alloc (.cells #[.int .i64 (k : Int)] 2)) := hbq.alloc hzq _
                    clear hle
                    go_wp2_with (fail)
                    refine (HX1.out _ hbq1 _ _ O1).mono ?_; rintro e w8 ⟨rfl, hb8⟩
                    have hbq8 := hbq1.trans (hb8.mono hbq1.size)
                    have O2 := Int64L.built1 w8 w8.heap.size (bI : Int) (Nat.le_refl _)
                    have hbq9 : Below w1.heap.size w1 (w8.alloc (.cells #[.int .i64 (bI : Int)] 2)) := hbq8.alloc hbq8.size _
                    clear O1 hb8 hbq1 HX1
                    go_wp2_with (fail)
                    refine (HX2.out _ hbq9 _ _ O2).mono ?_; rintro e w9 ⟨rfl, hb9⟩
                    have hbq10 := hbq9.trans (hb9.mono hbq9.size)
                    clear O2 hb9 hbq9 HX2
                    go_wp2_with (fail)
                    go_roundw
                    case rel => exact ⟨k + 1, by omega, by go_num, hbq10⟩
                    case measure => simp [intOf]; omega
                  · go_wp2
                    go_ret
                    exact ⟨rfl, hb1.trans (hbq.mono z1)⟩
end Go.Proofs.Ytignjjkldmninaa
