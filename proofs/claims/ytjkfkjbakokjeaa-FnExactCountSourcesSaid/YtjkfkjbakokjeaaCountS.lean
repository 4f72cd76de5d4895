/- CountSources, impl and spec: the walks. -/
import Derived.Test.YtjkfkjbakokjeaaCertS
import Derived.Test.YtjkfkjbakokjeaaIntsMade
namespace Go.Proofs.Ytjkfkjbakokjeaa
set_option linter.unusedVariables false
open Go.RowKit

def cntN (acc : List Int) : List Src → List Int
  | [] => acc
  | s :: r => cntN (acc.set (s.kind - 1).toNat (acc.getD (s.kind - 1).toNat 0 + 1)) r
def counts (l : List Src) : List Int := if certOk l then cntN [0, 0, 0, 0] l else []
theorem cntN_len (acc : List Int) (l : List Src) : (cntN acc l).length = acc.length := by
  induction l generalizing acc with
  | nil => rfl
  | cons s r ih => rw [cntN, ih, List.length_set]
theorem counts_len (l : List Src) : (counts l).length ≤ 4 := by
  unfold counts
  split
  · rw [cntN_len]; simp
  · simp
theorem cert_kinds {last : Int} {l : List Src} (h : certFrom last l = true) : ∀ s ∈ l, 1 ≤ s.kind ∧ s.kind ≤ 4 := by
  induction l generalizing last with
  | nil => intro s hs; cases hs
  | cons a r ih =>
    rw [certFrom, Bool.and_eq_true] at h
    intro s hs
    rcases List.mem_cons.1 hs with rfl | hs
    · exact (srcOk_iff.1 h.1).1
    · exact ih h.2 s hs
theorem cnt_next {acc : List Int} {l : List Src} {k j : Nat} {s : Src} {y : Int} (hs : l[k]? = some s) (hj : s.kind - 1 = j) (hy : acc[j]? = some y) (H : Hid (cntN [0, 0, 0, 0] l = cntN acc (l.drop k))) : Hid (cntN [0, 0, 0, 0] l = cntN (acc.set j (y + 1)) (l.drop (k + 1))) := by
  obtain ⟨hk, rfl⟩ := List.getElem?_eq_some_iff.1 hs
  refine Lib.hid ?_
  rw [H.out, List.drop_eq_getElem_cons hk, cntN, hj, Int.toNat_natCast, List.getD_eq_getElem?_getD, hy]
  rfl
theorem cnt_end {acc : List Int} {l : List Src} {k : Nat} (hk : l.length ≤ k) (H : Hid (cntN [0, 0, 0, 0] l = cntN acc (l.drop k))) : cntN [0, 0, 0, 0] l = acc := by
  rw [H.out, List.drop_of_length_le hk, cntN]
theorem set_bd {acc : List Int} {j k : Nat} {y : Int} (h : ∀ x ∈ acc, 0 ≤ x ∧ x ≤ k) (hy : acc[j]? = some y) : ∀ x ∈ acc.set j (y + 1), 0 ≤ x ∧ x ≤ (k + 1 : Nat) := by
  intro x hx
  have := h y (List.mem_of_getElem? hy)
  rcases List.mem_or_eq_of_mem_set hx with hx | rfl
  · have := h x hx; omega
  · omega
set_option maxRecDepth 20000 in
set_option maxHeartbeats 4000000 in
theorem counts_i (B : Nat) (l : List Src) (v : Value) (w : World) (h : OwnL Src.cells 3 68 B w v l) (hn : l.length ≤ 1048576) :
    Calls Try.prog 13 #[.agg #[v]] w fun e w' => RetL icell 1 2 w (counts l) e w' := by
  have hox := Lib.hid (OwnL.alloc h (.cells #[v] 29))
  obtain ⟨A, c, rfl, hA⟩ := h.shape
  cases hok : certOk l
  · have HF : Hid (counts l = []) := Lib.hid (by unfold counts; rw [hok]; rfl)
    clear h hA
    go_enter Try.func13, Try.ntmps13
    go_wp2_with (go_at_call 10; refine (cert_i _ l _ _ hox.out hn).mono ?_; rintro e w1 ⟨rfl, hb1⟩)
    go_ret
    exact ⟨_, rfl, by rw [HF.out]; exact OwnL.of_nil, (by repeat (first | exact Below.refl _ _ | refine Below.alloc ?_ (by first | omega | (simp; done) | (simp; omega)) _ | apply Below.drew | apply below_drewN | refine Below.setCell ?_ (by first | omega | (simp; done) | (simp; omega)) _ | refine Below.trans ?_ (Below.mono (by assumption) (by first | omega | (simp; done) | (simp; omega)))))⟩
  · have HF : Hid (counts l = cntN [0, 0, 0, 0] l) := Lib.hid (by unfold counts; rw [hok]; rfl)
    have HC : Hid (∀ (g k : Nat) (s : Src) (j : Nat) (u : Value), A = some ⟨g, 0, none⟩ → l[k]? = some s → s.cells[j]? = some u → w.cell? ⟨g, k * 3 + j, none⟩ = some u) := Lib.hid (fun g k s j u h0 h1 h2 => by subst h0; exact OwnL.cell Src.len h h1 h2)
    have HK := Lib.hid (cert_kinds hok)
    clear h
    go_enter Try.func13, Try.ntmps13
    go_wp2_with (fail)
    refine (cert_i _ l _ _ hox.out hn).mono ?_; rintro e w1 ⟨rfl, hb1⟩
    obtain ⟨w2, hmk0, how, hb2, hz2⟩ := ints_made w1 4 (by omega)
    have hmk : (Instr.makeSlice 33 (.int .i64 4) (.int .i64 4)).run Try.prog w1 = .ok (.slice (some ⟨w1.heap.size, 0, none⟩) 4 4) w2 := hmk0
    clear hmk0
    have hz1 : w.heap.size + 1 ≤ w1.heap.size := by have := hb1.size; simpa using this
    have hB1 : Below (w.heap.size + 1) (w.alloc (.cells #[.slice A l.length c] 29)) w2 := by
      have := hb1.trans (hb2.mono (by simpa using hz1)); simpa using this
    have pb2 : w2.cell? ⟨w.heap.size, 0, none⟩ = some (.slice A l.length c) := (hB1.cell (p := ⟨w.heap.size, 0, none⟩) (by show w.heap.size < _; omega)).trans (by simp)
    have hg1 : w1.heap.size < w2.heap.size := by omega
    generalize w1.heap.size = g1 at *
    go_wp2
    go_loopw [13] (fun i wr => ∃ (k : Nat) (acc : List Int), k ≤ l.length ∧ i = .int .i64 k ∧ acc.length = 4 ∧ (∀ x ∈ acc, 0 ≤ x ∧ x ≤ (k : Int)) ∧ Below (w.heap.size + 1) (w.alloc (.cells #[.slice A l.length c] 29)) wr ∧ g1 < wr.heap.size ∧ Int64L g1 wr (.slice (some ⟨g1, 0, none⟩) 4 4) acc ∧ Hid (cntN [0, 0, 0, 0] l = cntN acc (l.drop k))) (fun i _ => l.length - (intOf i).toNat)
    case atStart => exact ⟨0, [0, 0, 0, 0], by omega, rfl, rfl, by simp, hB1, by omega, how, Lib.hid rfl⟩
    case round =>
      clear pb2 how hmk
      obtain ⟨k, acc, hk, rfl, hal, hab, hb, hgz, how, HL⟩ := hrel
      have hfin : Below w.heap.size w wr := (Below.alloc (Below.refl _ _) (Nat.le_refl _) _).trans (hb.mono (by omega))
      by_cases hlt : k < l.length
      · obtain ⟨s, hs⟩ : ∃ s, l[k]? = some s := ⟨l[k], List.getElem?_eq_getElem hlt⟩
        obtain ⟨g, rfl, _, hg⟩ := hA.resolve_left (by rintro rfl; simp at hlt)
        have al : ∀ j, (w.alloc (.cells #[.slice (some ⟨g, 0, none⟩) l.length c] 29)).cell? ⟨g, j, none⟩ = w.cell? ⟨g, j, none⟩ := fun j => World.cell?_alloc_old _ _ _ (Nat.ne_of_lt hg)
        have p0 := ((hb.cell (p := ⟨g, k * 3, none⟩) (by show g < _; omega)).trans (al _)).trans (HC.out g k s 0 _ rfl hs rfl)
        have p1 := ((hb.cell (p := ⟨g, k * 3 + 1, none⟩) (by show g < _; omega)).trans (al _)).trans (HC.out g k s 1 _ rfl hs rfl)
        have p2 := ((hb.cell (p := ⟨g, k * 3 + 2, none⟩) (by show g < _; omega)).trans (al _)).trans (HC.out g k s 2 _ rfl hs rfl)
        have hkd := HK.out s (List.mem_of_getElem? hs)
        obtain ⟨j, hj⟩ : ∃ j : Nat, s.kind - 1 = (j : Int) := ⟨(s.kind - 1).toNat, by omega⟩
        have hj4 : j < 4 := by omega
        obtain ⟨y, hy⟩ : ∃ y, acc[j]? = some y := ⟨acc[j]'(by omega), List.getElem?_eq_getElem (by omega)⟩
        have hyb := hab y (List.mem_of_getElem? hy)
        have py : wr.cell? ⟨g1, j, none⟩ = some (.int .i64 y) := by
          have hh := how
          unfold Int64L at hh
          rw [← hal] at hh
          have := OwnL.cell icell_len hh hy (j := 0) rfl
          simpa using this
        have pf : wr.frozen? ⟨g1, j, none⟩ = false := OwnL.frozen how
        have hset := Lib.hid (how.set hal (k := j) (by omega) (y + 1))
        have HN := cnt_next hs hj hy HL
        have hbd := Lib.hid (set_bd hab hy)
        have hcn := hab
        clear al hs hy how
        go_wp2
        go_roundw
        case rel => exact ⟨k + 1, acc.set j (y + 1), by omega, by go_num, by simpa using hal, hbd.out, (by repeat (first | exact Below.refl _ _ | refine Below.alloc ?_ (by first | omega | (simp; done) | (simp; omega)) _ | apply Below.drew | apply below_drewN | refine Below.setCell ?_ (by first | omega | (simp; done) | (simp; omega)) _ | refine Below.trans ?_ (Below.mono (by assumption) (by first | omega | (simp; done) | (simp; omega))))), by simp; try omega, hset.out.alloc _, HN⟩
        case measure => simp [intOf]; omega
      · go_wp2
        go_ret
        exact ⟨_, rfl, by rw [HF.out, cnt_end (by omega) HL]; exact OwnL.base how (by omega), hfin⟩
set_option maxRecDepth 20000 in
set_option maxHeartbeats 4000000 in
theorem counts_s (B : Nat) (l : List Src) (v : Value) (w : World) (h : OwnL Src.cells 3 68 B w v l) (hn : l.length ≤ 1048576) :
    Calls Try.prog 12 #[.agg #[v]] w fun e w' => RetL icell 1 2 w (counts l) e w' := by
  obtain ⟨A, c, rfl, hA⟩ := h.shape
  have HP := certp_s w.heap.size c A l (w.alloc (.cells #[.slice A l.length c] 29)) (by simp) (by
    by_cases hl0 : l = []
    · exact .inl hl0
    · obtain ⟨g, rfl, _, hg⟩ := hA.resolve_left hl0
      exact .inr ⟨g, rfl, by simp; omega, fun k s j u h1 h2 => (World.cell?_alloc_old _ _ _ (Nat.ne_of_lt hg)).trans (OwnL.cell Src.len h h1 h2)⟩) hn
  cases hok : certOk l
  · have HF : Hid (counts l = []) := Lib.hid (by unfold counts; rw [hok]; rfl)
    rw [hok] at HP
    clear h hA
    go_enter Try.func12, Try.ntmps12
    go_wp2_with (go_at_call 30; refine HP.mono ?_; rintro e w1 ⟨rfl, hb1⟩)
    have hz1 : w.heap.size + 1 ≤ w1.heap.size := by have := hb1.size; simpa using this
    go_ret
    exact ⟨_, rfl, by rw [HF.out]; exact OwnL.of_empty w1 (by omega), (by repeat (first | exact Below.refl _ _ | refine Below.alloc ?_ (by first | omega | (simp; done) | (simp; omega)) _ | apply Below.drew | apply below_drewN | refine Below.setCell ?_ (by first | omega | (simp; done) | (simp; omega)) _ | refine Below.trans ?_ (Below.mono (by assumption) (by first | omega | (simp; done) | (simp; omega)))))⟩
  · have HF : Hid (counts l = cntN [0, 0, 0, 0] l) := Lib.hid (by unfold counts; rw [hok]; rfl)
    have HC : Hid (∀ (g k : Nat) (s : Src) (j : Nat) (u : Value), A = some ⟨g, 0, none⟩ → l[k]? = some s → s.cells[j]? = some u → w.cell? ⟨g, k * 3 + j, none⟩ = some u) := Lib.hid (fun g k s j u h0 h1 h2 => by subst h0; exact OwnL.cell Src.len h h1 h2)
    have HK := Lib.hid (cert_kinds hok)
    rw [hok] at HP
    clear h
    go_enter Try.func12, Try.ntmps12
    go_wp2_with (fail)
    refine HP.mono ?_; rintro e w1 ⟨rfl, hb1⟩
    obtain ⟨w2, hmk0, how, hb2, hz2⟩ := ints_made w1 4 (by omega)
    have hmk : (Instr.makeSlice 33 (.int .i64 4) (.int .i64 4)).run Try.prog w1 = .ok (.slice (some ⟨w1.heap.size, 0, none⟩) 4 4) w2 := hmk0
    clear hmk0
    have hz1 : w.heap.size + 1 ≤ w1.heap.size := by have := hb1.size; simpa using this
    have hB1 : Below (w.heap.size + 1) (w.alloc (.cells #[.slice A l.length c] 29)) w2 := by
      have := hb1.trans (hb2.mono (by simpa using hz1)); simpa using this
    have pb2 : True := trivial
    have hg1 : w1.heap.size < w2.heap.size := by omega
    generalize w1.heap.size = g1 at *
    go_wp2
    go_loopw [4] (fun i wr => ∃ (k : Nat) (acc : List Int), k ≤ l.length ∧ i = .int .i64 k ∧ acc.length = 4 ∧ (∀ x ∈ acc, 0 ≤ x ∧ x ≤ (k : Int)) ∧ Below (w.heap.size + 1) (w.alloc (.cells #[.slice A l.length c] 29)) wr ∧ g1 < wr.heap.size ∧ Int64L g1 wr (.slice (some ⟨g1, 0, none⟩) 4 4) acc ∧ Hid (cntN [0, 0, 0, 0] l = cntN acc (l.drop k))) (fun i _ => l.length - (intOf i).toNat)
    case atStart => exact ⟨0, [0, 0, 0, 0], by omega, rfl, rfl, by simp, hB1, by omega, how, Lib.hid rfl⟩
    case round =>
      clear pb2 how hmk
      obtain ⟨k, acc, hk, rfl, hal, hab, hb, hgz, how, HL⟩ := hrel
      have pbx : wr.cell? ⟨w.heap.size, 0, none⟩ = some (.slice A l.length c) := (hb.cell (p := ⟨w.heap.size, 0, none⟩) (by show w.heap.size < _; omega)).trans (by simp)
      have hfin : Below w.heap.size w wr := (Below.alloc (Below.refl _ _) (Nat.le_refl _) _).trans (hb.mono (by omega))
      by_cases hlt : k < l.length
      · obtain ⟨s, hs⟩ : ∃ s, l[k]? = some s := ⟨l[k], List.getElem?_eq_getElem hlt⟩
        obtain ⟨g, rfl, _, hg⟩ := hA.resolve_left (by rintro rfl; simp at hlt)
        have al : ∀ j, (w.alloc (.cells #[.slice (some ⟨g, 0, none⟩) l.length c] 29)).cell? ⟨g, j, none⟩ = w.cell? ⟨g, j, none⟩ := fun j => World.cell?_alloc_old _ _ _ (Nat.ne_of_lt hg)
        have p0 := ((hb.cell (p := ⟨g, k * 3, none⟩) (by show g < _; omega)).trans (al _)).trans (HC.out g k s 0 _ rfl hs rfl)
        have p1 := ((hb.cell (p := ⟨g, k * 3 + 1, none⟩) (by show g < _; omega)).trans (al _)).trans (HC.out g k s 1 _ rfl hs rfl)
        have p2 := ((hb.cell (p := ⟨g, k * 3 + 2, none⟩) (by show g < _; omega)).trans (al _)).trans (HC.out g k s 2 _ rfl hs rfl)
        have hkd := HK.out s (List.mem_of_getElem? hs)
        obtain ⟨j, hj⟩ : ∃ j : Nat, s.kind - 1 = (j : Int) := ⟨(s.kind - 1).toNat, by omega⟩
        have hj4 : j < 4 := by omega
        obtain ⟨y, hy⟩ : ∃ y, acc[j]? = some y := ⟨acc[j]'(by omega), List.getElem?_eq_getElem (by omega)⟩
        have hyb := hab y (List.mem_of_getElem? hy)
        have py : wr.cell? ⟨g1, j, none⟩ = some (.int .i64 y) := by
          have hh := how
          unfold Int64L at hh
          rw [← hal] at hh
          have := OwnL.cell icell_len hh hy (j := 0) rfl
          simpa using this
        have pf : wr.frozen? ⟨g1, j, none⟩ = false := OwnL.frozen how
        have hset := Lib.hid (how.set hal (k := j) (by omega) (y + 1))
        have HN := cnt_next hs hj hy HL
        have hbd := Lib.hid (set_bd hab hy)
        have hcn := hab
        clear al hs hy how
        go_wp2
        go_roundw
        case rel => exact ⟨k + 1, acc.set j (y + 1), by omega, by go_num, by simpa using hal, hbd.out, (by repeat (first | exact Below.refl _ _ | refine Below.alloc ?_ (by first | omega | (simp; done) | (simp; omega)) _ | apply Below.drew | apply below_drewN | refine Below.setCell ?_ (by first | omega | (simp; done) | (simp; omega)) _ | refine Below.trans ?_ (Below.mono (by assumption) (by first | omega | (simp; done) | (simp; omega))))), by simp; try omega, hset.out, HN⟩
        case measure => simp [intOf]; omega
      · go_wp2
        go_ret
        exact ⟨_, rfl, by rw [HF.out, cnt_end (by omega) HL]; exact OwnL.base how (by omega), hfin⟩
end Go.Proofs.Ytjkfkjbakokjeaa
