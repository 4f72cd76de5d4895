/- The laws' drawn dumps, and how many sectors are good in some of them: the walks. -/
import Derived.Test.YtignjjkldmninaaDrwL
import Derived.Test.YtignjjkldmninaaFewMin
import Derived.Test.YtignjjkldmninaaBest
import Derived.Test.YtignjjkldmninaaHInt64
namespace Go.Proofs.Ytignjjkldmninaa
set_option linter.unusedVariables false
open Go.RowKit
set_option maxHeartbeats 1000000 in
theorem e8dumps_s (A : Option Addr) (n c : Nat) (w : World) (h : BytesIn w A n) (hn : n ≤ 1048576) :
    Calls Try.prog 57 #[.slice A n c] w fun e w' => ∃ v l, e = .returned v ∧ DscOwn w.heap.size w' v l ∧ dumpsOk l = true ∧ Below w.heap.size w w' := by
  have hD : DrAt (w.alloc (.cells #[.slice A n c, .int .i64 0, .int .u64 0] 130)) w.heap.size A n c 0 := by
    refine ⟨by simp, by simp, by simp, ⟨0, by simp⟩, by simp, ?_⟩
    rcases h with h | ⟨b, o, h1, h2, h3⟩
    · exact .inl h
    · exact .inr ⟨b, o, h1, h2, fun j hj => by
        obtain ⟨x, hx, hc⟩ := h3 j hj
        exact ⟨x, hx, (World.cell?_alloc_old _ _ _ (Nat.ne_of_lt h2)).trans hc⟩⟩
  have HG := draw24 w.heap.size A n c 0 _ hD hn (by omega)
  clear h hD
  go_enter Try.func57, Try.ntmps57
  go_wp2_with (first | (go_at_call 102; refine HG.mono ?_; rintro e w1 ⟨v, l, rfl, hO, hg, hC⟩) | go_in)
  go_ret
  exact ⟨v, l, rfl, DscOwn.base hO (by simp), hg, (Below.alloc (Below.refl _ _) (Nat.le_refl _) _).trans ⟨hC.os, hC.tape, hC.output, hC.size, fun k hk => hC.block k (by simp; omega) (by omega)⟩⟩
/-- a sector of one of the dumps is good -/
def goodAt (l : List Dsc) (k : Nat) (i : Int) : Bool := ((l.getD i.toNat default).secs.getD k secZ).state == 1
theorem rl_step {l : List Dsc} {s : List Int} {k j : Nat} {x : Int} {h : Bool} {X : Bool} (hx : s[j]? = some x) (H : Hid (X = (h || (s.drop j).any (goodAt l k)))) : Hid (X = ((h || goodAt l k x) || (s.drop (j + 1)).any (goodAt l k))) := by
  obtain ⟨hk, rfl⟩ := List.getElem?_eq_some_iff.1 hx
  exact Lib.hid (by rw [H.out, List.drop_eq_getElem_cons hk, List.any_cons, Bool.or_assoc])
theorem rl_end {l : List Dsc} {s : List Int} {k j : Nat} {h : Bool} {X : Bool} (hj : s.length ≤ j) (H : Hid (X = (h || (s.drop j).any (goodAt l k)))) : X = h := by
  rw [H.out, List.drop_of_length_le hj]; simp
theorem d8_step {l : List Dsc} {s : List Int} {k n x X : Nat} (hk : k < n) (H : Hid (X = x + d8R l s k (n - k))) {r : Bool} (h : rchL l s k = r) : Hid (X = (x + if r = true then 1 else 0) + d8R l s (k + 1) (n - (k + 1))) := by
  have e : n - k = (n - (k + 1)) + 1 := by omega
  exact Lib.hid (by rw [H.out, e, d8R, h, Nat.add_assoc])
theorem d8_end {l : List Dsc} {s : List Int} {k n x X : Nat} (hk : n ≤ k) (H : Hid (X = x + d8R l s k (n - k))) : X = x := by
  rw [H.out, show n - k = 0 by omega, d8R, Nat.add_zero]
set_option maxRecDepth 20000 in
set_option maxHeartbeats 4000000 in
theorem d8r_l (B Bs : Nat) (l : List Dsc) (z : Dsc) (s : List Int) (v vs : Value) (w : World) (h : DscOwn B w v l) (hz : l[0]? = some z) (hn : l.length ≤ 5) (hN : z.secs.length ≤ 128) (hD : ∀ d ∈ l, d.secs.length = z.secs.length) (hs : Int64L Bs w vs s) (hsl : s.length ≤ 1048576) (hsx : ∀ x ∈ s, 0 ≤ x ∧ x < (l.length : Int)) :
    Calls Try.prog 58 #[v, vs] w fun e w' => e = .returned (.int .i64 (d8R l s 0 z.secs.length)) ∧ Below w.heap.size w w' := by
  have HD := Lib.hid hD
  have HSX := Lib.hid hsx
  have HSO := Lib.hid hs
  have hl1 : 0 < l.length := (List.getElem?_eq_some_iff.1 hz).1
  obtain ⟨A, c, rfl, hA⟩ := h
  obtain ⟨g, rfl, _, hg, hc⟩ := hA.resolve_left (by rintro rfl; cases hz)
  have HC := Lib.hid hc
  obtain ⟨bz, oz, cz⟩ := hc 0 z hz
  have pz : w.cell? ⟨g, 4, none⟩ = some bz := by have := cz 4 bz rfl; simpa using this
  obtain ⟨Az, cz', rfl, _⟩ := OwnL.shape oz
  obtain ⟨As, cs, rfl, hAs⟩ := OwnL.shape hs
  clear hA hc hz cz oz hD hs hsx
  go_enter Try.func58, Try.ntmps58
  go_wp2
  go_loopw [6, 5] (fun i n wr => ∃ k x : Nat, k ≤ z.secs.length ∧ x ≤ k ∧ i = .int .i64 k ∧ n = .int .i64 x ∧ Below w.heap.size w wr ∧ Hid (d8R l s 0 z.secs.length = x + d8R l s k (z.secs.length - k))) (fun i _ _ => z.secs.length - (intOf i).toNat)
  case atStart => exact ⟨0, 0, by omega, by omega, rfl, rfl, Below.refl _ _, Lib.hid (by simp)⟩
  case round =>
    obtain ⟨k, x, hk, hxk, rfl, rfl, hbw, HK⟩ := hrel
    have pzr := (hbw.cell (p := ⟨g, 4, none⟩) hg).trans pz
    by_cases hlt : k < z.secs.length
    · have zr := hbw.size
      generalize hwo : wr = wo at *
      clear hwo
      go_wp2
      go_loopw [8, 7] (fun i h wr => ∃ (j : Nat) (r : Bool), j ≤ s.length ∧ i = .int .i64 j ∧ h = .bool r ∧ Below wo.heap.size wo wr ∧ Hid (rchL l s k = (r || (s.drop j).any (goodAt l k)))) (fun i _ _ => s.length - (intOf i).toNat)
      case atStart => exact ⟨0, false, by omega, rfl, rfl, Below.refl _ _, Lib.hid rfl⟩
      case round =>
        obtain ⟨j, r, hj, rfl, rfl, hbq, HR⟩ := hrel
        have zq := hbq.size
        have hbwq := hbw.trans (hbq.mono zr)
        by_cases hjl : j < s.length
        · obtain ⟨y, hy⟩ : ∃ y, s[j]? = some y := ⟨s[j], List.getElem?_eq_getElem hjl⟩
          obtain ⟨hy0, hyl⟩ := HSX.out y (List.mem_of_getElem? hy)
          obtain ⟨m, hm⟩ : ∃ m : Nat, y = (m : Int) := ⟨y.toNat, by omega⟩
          subst hm
          have hml : m < l.length := by omega
          obtain ⟨gs, rfl, _, hgs⟩ := hAs.resolve_left (by rintro rfl; simp at hjl)
          have q0 : wr.cell? ⟨gs, j, none⟩ = some (.int .i64 (m : Int)) := by
            have h1 := OwnL.cell icell_len HSO.out hy (j := 0) rfl
            rw [Nat.mul_one, Nat.add_zero] at h1
            exact (hbwq.cell (p := ⟨gs, j, none⟩) hgs).trans h1
          obtain ⟨d, hd⟩ : ∃ d, l[m]? = some d := ⟨l[m], List.getElem?_eq_getElem hml⟩
          have hkd : k < d.secs.length := by rw [HD.out d (List.mem_of_getElem? hd)]; exact hlt
          obtain ⟨s', hs'⟩ : ∃ s, d.secs[k]? = some s := ⟨d.secs[k], List.getElem?_eq_getElem hkd⟩
          obtain ⟨bv, o1, c1⟩ := HC.out m d hd
          obtain ⟨A2, c2, rfl, hA2⟩ := OwnL.shape o1
          obtain ⟨g2, rfl, _, hg2⟩ := hA2.resolve_left (by intro h0; rw [h0] at hkd; simp at hkd)
          have p4 := (hbwq.cell (p := ⟨g, m * 5 + 4, none⟩) hg).trans (c1 4 _ rfl)
          have s1 : wr.cell? ⟨g2, k * 2 + 1, none⟩ = some (.int .i64 s'.state) := (hbwq.cell (p := ⟨g2, _, none⟩) hg2).trans (OwnL.cell Sec.len o1 hs' (j := 1) rfl)
          have hgs' : goodAt l k (m : Int) = (s'.state == 1) := by
            unfold goodAt
            have hgd : l.getD m default = d := by rw [List.getD_eq_getElem?_getD, hd]; rfl
            rw [Int.toNat_natCast, hgd, List.getD_eq_getElem?_getD, hs']; rfl
          have HN := rl_step hy HR
          rw [hgs'] at HN
          clear o1 c1 hd hs' hy hgs' hy0 hyl
          cases r
          · cases hst : s'.state == 1
            · rw [hst] at HN
              go_wp2
              go_roundw
              case rel => exact ⟨j + 1, false, by omega, by go_num, rfl, hbq, HN⟩
              case measure => simp [intOf]; omega
            · rw [hst] at HN
              go_wp2
              go_roundw
              case rel => exact ⟨j + 1, true, by omega, by go_num, rfl, hbq, HN⟩
              case measure => simp [intOf]; omega
          · have HN2 : Hid (rchL l s k = (true || (s.drop (j + 1)).any (goodAt l k))) := Lib.hid (by rw [HN.out, Bool.true_or, Bool.true_or])
            go_wp2
            go_roundw
            case rel => exact ⟨j + 1, true, by omega, by go_num, rfl, hbq, HN2⟩
            case measure => simp [intOf]; omega
        · have HE := d8_step hlt HK (rl_end (by omega) HR)
          cases r
          · go_wp2
            go_roundw
            case rel => exact ⟨k + 1, x, by omega, by omega, by go_num, rfl, hbwq, HE⟩
            case measure => simp [intOf]; omega
          · go_wp2
            go_roundw
            case rel => exact ⟨k + 1, x + 1, by omega, by omega, by go_num, by go_num, hbwq, HE⟩
            case measure => simp [intOf]; omega
    · have HX := Lib.hid (d8_end (by omega) HK)
      go_wp2
      go_ret
      exact ⟨ret_int (by rw [HX.out]), hbw⟩
/-- how many sectors of one dump are good -/
theorem d8R_one {l : List Dsc} {i : Nat} {d : Dsc} (hd : l[i]? = some d) : ∀ (n k : Nat), d.secs.length = k + n → d8R l [(i : Int)] k n = (stF 1 (d.secs.drop k)).length := by
  intro n
  induction n with
  | zero => intro k hk; rw [List.drop_of_length_le (by omega)]; rfl
  | succ n ih =>
    intro k hk
    have hlt : k < d.secs.length := by omega
    have h1 : rchL l [(i : Int)] k = (d.secs[k].state == 1) := by
      simp only [rchL, List.any_cons, List.any_nil, Bool.or_false, Int.toNat_natCast]
      have hgd : l.getD i default = d := by rw [List.getD_eq_getElem?_getD, hd]; rfl
      rw [hgd, List.getD_eq_getElem?_getD, List.getElem?_eq_getElem hlt, Option.getD_some]
    rw [d8R, ih (k + 1) (by omega), h1, List.drop_eq_getElem_cons hlt, stF]
    by_cases h : (d.secs[k].state == 1) = true
    · rw [if_pos h, if_pos h, List.length_cons]; omega
    · rw [if_neg h, if_neg h]; omega
theorem best_max : ∀ (r : List Dsc) (b k : Nat) (m : Int) (l : List Dsc), l.drop k = r → (k = 0 ∨ (b < k ∧ b < l.length ∧ ∃ d, l[b]? = some d ∧ (gd d : Int) = m ∧ ∀ (j : Nat) (e : Dsc), j < k → l[j]? = some e → gd e ≤ gd d)) → (k = 0 → m < 0 ∧ r ≠ []) →
    ∃ d, l[bestF b m k r]? = some d ∧ ∀ (j : Nat) (e : Dsc), l[j]? = some e → gd e ≤ gd d := by
  intro r
  induction r with
  | nil =>
    intro b k m l hk h h0
    have hk0 : k ≠ 0 := fun e => (h0 e).2 rfl
    obtain ⟨_, _, d, hd, _, hm⟩ := h.resolve_left hk0
    refine ⟨d, hd, fun j e he => hm j e ?_ he⟩
    have h1 := (List.getElem?_eq_some_iff.1 he).1
    have h2 := congrArg List.length hk
    simp at h2; omega
  | cons a r ih =>
    intro b k m l hk h h0
    have hkl : k < l.length := by have h2 := congrArg List.length hk; simp at h2; omega
    have ha : l[k]? = some a := by
      rw [List.drop_eq_getElem_cons hkl] at hk
      injection hk with h1 _
      rw [List.getElem?_eq_getElem hkl, h1]
    have hr : l.drop (k + 1) = r := by
      rw [List.drop_eq_getElem_cons hkl] at hk
      injection hk
    have split : ∀ (j : Nat) (e : Dsc), j < k + 1 → l[j]? = some e → (j < k ∨ e = a) := fun j e hj he => by
      by_cases hjk : j < k
      · exact .inl hjk
      · right
        have : j = k := by omega
        subst this; rw [ha] at he; exact (Option.some.inj he).symm
    unfold bestF
    by_cases hc : decide (m < (gd a : Int)) = true
    · rw [if_pos hc]
      refine ih k (k + 1) (gd a) l hr (.inr ⟨by omega, hkl, a, ha, rfl, fun j e hj he => ?_⟩) (fun e => by omega)
      rcases split j e hj he with hjk | rfl
      · obtain ⟨_, _, d, hd, hm, hmax⟩ := h.resolve_left (by omega)
        have := hmax j e hjk he
        simp at hc; omega
      · exact Nat.le_refl _
    · rw [if_neg hc]
      have hk0 : k ≠ 0 := fun e => by have := (h0 e).1; simp at hc; omega
      obtain ⟨hb1, hb2, d, hd, hm, hmax⟩ := h.resolve_left hk0
      refine ih b (k + 1) m l hr (.inr ⟨by omega, hb2, d, hd, hm, fun j e hj he => ?_⟩) (fun e => by omega)
      rcases split j e hj he with hjk | rfl
      · exact hmax j e hjk he
      · simp at hc; omega
theorem best_law {l : List Dsc} (h : l ≠ []) : ∃ d, l[bestF 0 (-1) 0 l]? = some d ∧ ∀ (j : Nat) (e : Dsc), l[j]? = some e → gd e ≤ gd d := best_max l 0 0 (-1) l rfl (.inl rfl) (fun _ => ⟨by omega, h⟩)
end Go.Proofs.Ytignjjkldmninaa
