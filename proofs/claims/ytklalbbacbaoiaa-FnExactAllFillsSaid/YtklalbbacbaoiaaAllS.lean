/- l25Free, l25Put: the walks. -/
import Derived.Test.YtklalbbacbaoiaaLeaS
namespace Go.Proofs.Ytklalbbacbaoiaa
set_option linter.unusedVariables false
open Go.RowKit
theorem freeU_yes {p : Nat → Nat} {rows : List Rw} {k : Nat} (h : isP p rows k = true) : freeU p rows (k + 1) = freeU p rows k := by
  unfold freeU; rw [List.range_succ, List.filter_append, List.filter_cons, if_neg (by rw [h]; decide)]; simp
theorem freeU_no {p : Nat → Nat} {rows : List Rw} {k : Nat} (h : isP p rows k = false) : freeU p rows (k + 1) = freeU p rows k ++ [k] := by
  unfold freeU; rw [List.range_succ, List.filter_append, List.filter_cons, if_pos (by rw [h]; rfl)]; rfl
theorem freeU_len (p : Nat → Nat) (rows : List Rw) (k : Nat) : (freeU p rows k).length ≤ k := by
  have := List.length_filter_le (fun k => !isP p rows k) (List.range k); simpa [freeU] using this
set_option maxRecDepth 20000 in
set_option maxHeartbeats 2000000 in
theorem free2_s (rows : List Rw) (rv : Value) (n : Nat) (w : World) (hr : RowsAt .u64 w rv rows) (hm : ∀ e ∈ rows, e.m ≠ 0 ∧ e.m < 18446744073709551616) (hn : n ≤ 64) (hl : rows.length ≤ 1048576) :
    Calls Try.prog 78 #[rv, .int .i64 n] w fun e w' => RetL icell 1 3 w (intsN (freeU low rows n)) e w' := by
  obtain ⟨i0, hi, hz0, hz1, hz2⟩ := info_parts icint_info
  have HM := Lib.hid hm
  have HPI := Lib.hid (fun k => pivN_lt (p := low) (rows := rows.take k) (fun e he => low_lt (hm e (List.mem_of_mem_take he)).1 (hm e (List.mem_of_mem_take he)).2))
  obtain ⟨Ar, cr, rfl, hR⟩ := hr
  clear hm
  go_enter Try.func78, Try.ntmps78
  go_wp2
  go_loopw [6, 5] (fun i x wr => ∃ k : Nat, k ≤ rows.length ∧ i = .int .i64 k ∧ x = .int .u64 (pivN low (rows.take k) : Nat) ∧ Below w.heap.size w wr) (fun i _ _ => rows.length - (intOf i).toNat)
  case atStart => exact ⟨0, Nat.zero_le _, rfl, rfl, Below.refl _ _⟩
  case round =>
    obtain ⟨k, hk, rfl, rfl, hb⟩ := hrel
    have zr := hb.size
    by_cases hlt : k < rows.length
    · obtain ⟨e, he⟩ : ∃ e, rows[k]? = some e := ⟨rows[k], List.getElem?_eq_getElem hlt⟩
      obtain ⟨g, rfl, hg, hcc⟩ := hR.resolve_left (by intro h0; rw [h0] at hlt; simp at hlt)
      have k0 := (hb.cell (p := ⟨g, _, none⟩) hg).trans (hcc k e he).1
      have k1 := (hb.cell (p := ⟨g, _, none⟩) hg).trans (hcc k e he).2
      obtain ⟨hm0, hm64⟩ := HM.out e (List.mem_of_getElem? he)
      have HFI := Lib.hid (fun W => first_s e W hm0 hm64)
      have hlow := low_lt hm0 hm64
      have hpw : 2 ^ low e.m < 18446744073709551616 := Nat.lt_of_lt_of_le (Nat.pow_lt_pow_right (by omega) hlow) (by decide)
      have hor := u64_or_nat (pivN low (rows.take k)) (2 ^ low e.m) (HPI.out k) hpw
      rw [← pivN_next he, ← wrap_pow (low e.m) hlow] at hor
      have hor2 : bits .or .u64 (pivN low (rows.take k) : Nat) (IntKind.u64.wrap (2 ^ min (low e.m) 64)) = (pivN low (rows.take (k + 1)) : Nat) := by rw [Nat.min_eq_left (by omega)]; exact hor
      generalize hP2 : pivN low (rows.take (k + 1)) = P2 at *
      have HP2 := Lib.hid hP2
      generalize pivN low (rows.take k) = P1 at *
      clear he hcc hP2 hpw
      go_wp2_with (fail)
      refine (HFI.out _).mono ?_; rintro e5 w5 ⟨rfl, hb5⟩
      have hb05 := hb.trans (hb5.mono zr)
      go_wp2
      go_roundw
      case rel => exact ⟨k + 1, by omega, by go_num, by rw [HP2.out], hb05⟩
      case measure => simp [intOf]; omega
    · obtain rfl : k = rows.length := by omega
      rw [List.take_length]
      have HPB := Lib.hid (fun j => pivN_bit low rows j)
      have hPl := HPI.out rows.length
      rw [List.take_length] at hPl
      generalize pivN low rows = P at *
      generalize hwo : wr = wo at *; clear hwo
      have hbo := hb
      have HO0 : Hid (OwnL icell 1 3 w.heap.size (wo.alloc (.cells #[] 3)) (.slice (some ⟨wo.heap.size, 0, none⟩) 0 0) (intsN (freeU low rows 0))) := Lib.hid (OwnL.of_empty wo zr)
      clear HPI
      go_wp2
      go_loopw [8, 7] (fun i x wr => ∃ k : Nat, k ≤ n ∧ i = .int .i64 k ∧ Below w.heap.size w wr ∧ Hid (OwnL icell 1 3 w.heap.size wr x (intsN (freeU low rows k)))) (fun i _ _ => n - (intOf i).toNat)
      case atStart => exact ⟨0, Nat.zero_le _, rfl, Below.alloc hbo zr _, HO0⟩
      case round =>
        clear HO0 hbo hb zr
        obtain ⟨k, hk, rfl, hb, HO⟩ := hrel
        have zr := hb.size
        have hfl := freeU_len low rows k
        obtain ⟨Af, cf, hvf, hAf⟩ := OwnL.shape HO.out
        rw [intsN_len] at hvf
        subst hvf
        by_cases hltk : k < n
        · have hbv := u64_bit P k hPl
          rw [HPB.out] at hbv
          have hbv2 : bits .and .u64 ((P : Int) / 2 ^ min k 64) 1 = bi (isP low rows k) := by rw [Nat.min_eq_left (by omega)]; exact hbv
          cases hp : isP low rows k
          · rw [hp, bi_f] at hbv hbv2
            have HN := Lib.hid (freeU_no hp)
            have hbl : (intsN (freeU low rows k)).length + 1 ≤ 16777216 := by rw [intsN_len]; omega
            have hby : (8 : Nat) ≤ 4096 := by decide
            have hbase : w.heap.size ≤ (wr.alloc (.cells #[.int .i64 (k : Int)] 3)).heap.size := by simp; omega
            clear hp
            go_wp2_with (at_builtin; refine wpList_app1 icell 1 icell_len _ rfl _ _ _ rfl w.heap.size 3 i0 (.int .i64 0) 8 Try.underlying95 hi hz0 hz1 hz2 rfl (by decide) _ (intsN (freeU low rows k)) rfl (HO.out.alloc _) _ 1 (k : Int) rfl ?_ (by simp [icell, Value.oneCell']) hbl hby hbase ?_; (· intro j u hu; cases j with | zero => (simp [icell] at hu; subst hu; simp) | succ j => simp [icell] at hu); intro v' w8 how8 hg8'; have hg8 : Below w.heap.size w w8 := own_grown_below (HO.out.alloc (.cells #[.int .i64 (k : Int)] 3)) (Below.alloc hb zr _) hg8' (Nat.le_refl _) hbase)
            go_roundw
            case rel => exact ⟨k + 1, by omega, by go_num, hg8, by rw [HN.out, intsN_app]; exact Lib.hid how8⟩
            case measure => simp [intOf]; omega
          · rw [hp, bi_t] at hbv hbv2
            have HN := Lib.hid (freeU_yes hp)
            clear hp
            go_wp2
            go_roundw
            case rel => exact ⟨k + 1, by omega, by go_num, hb, by rw [HN.out]; exact HO⟩
            case measure => simp [intOf]; omega
        · obtain rfl : k = n := by omega
          go_wp2
          go_ret
          exact ⟨_, rfl, HO.out, hb⟩
/-- strings are ordered as their bytes -/
theorem ltL_str : ∀ {a b : List Nat}, (∀ x ∈ a, x < 256) → (∀ x ∈ b, x < 256) → decide ((strN a).data.toList < (strN b).data.toList) = ltL a b := by
  have key : ∀ (a b : List Nat), (∀ x ∈ a, x < 256) → (∀ x ∈ b, x < 256) → (a.map UInt8.ofNat < b.map UInt8.ofNat ↔ ltL a b = true) := by
    intro a
    induction a with
    | nil => intro b _ _; cases b with
      | nil => simp [ltL]
      | cons y b => simp [ltL]
    | cons x a ih =>
      intro b ha hb
      cases b with
      | nil => simp [ltL]
      | cons y b =>
        have hx := ha x (by simp)
        have hy := hb y (by simp)
        rw [List.map_cons, List.map_cons, List.cons_lt_cons_iff, ih b (fun z hz => ha z (by simp [hz])) (fun z hz => hb z (by simp [hz]))]
        have e1 : (UInt8.ofNat x < UInt8.ofNat y) ↔ x < y := by
          rw [UInt8.lt_iff_toNat_lt, UInt8.toNat_ofNat', UInt8.toNat_ofNat', Nat.mod_eq_of_lt hx, Nat.mod_eq_of_lt hy]
        have e2 : (UInt8.ofNat x = UInt8.ofNat y) ↔ x = y := by
          rw [← UInt8.toNat_inj, UInt8.toNat_ofNat', UInt8.toNat_ofNat', Nat.mod_eq_of_lt hx, Nat.mod_eq_of_lt hy]
        rw [e1, e2, ltL, Bool.or_eq_true, Bool.and_eq_true, decide_eq_true_eq, beq_iff_eq]
  intro a b ha hb
  have hs : ∀ l : List Nat, (strN l).data.toList = l.map UInt8.ofNat := fun l => by rw [strN, strOfNums_data, List.map_map]; rfl
  rw [hs, hs]
  cases h : ltL a b
  · exact decide_eq_false (fun h2 => by rw [(key a b ha hb).1 h2] at h; cases h)
  · exact decide_eq_true ((key a b ha hb).2 h)
end Go.Proofs.Ytklalbbacbaoiaa
