/- The reference's bent ledgers, and those to be joined: the walks. -/
import Derived.Test.YtkpjjohanbiagaaDoorJnE
namespace Go.Proofs.YtkpjjohanbiagaaDoor
set_option linter.unusedVariables false
set_option linter.unusedSimpArgs false
open Go.RowKit
/-- a list of entries of the draw's own, which begins anywhere in its block -/
structure EntB (B : Nat) (w : World) (v : Value) (l : List Ent) : Prop where
  o : EntO w v l
  blk : ∀ b, v.ownBlock = some b → B ≤ b ∧ b < w.heap.size
  len : l.length ≤ 31
  vb : ∀ e ∈ l, e.verb.size ≤ 16
theorem EntO.blk {w w' : World} {v : Value} {l : List Ent} (h : EntO w v l) (hz : w.heap.size ≤ w'.heap.size) (hb : ∀ b, v.ownBlock = some b → w'.heap[b]? = w.heap[b]?) : EntO w' v l := by
  obtain ⟨A, c, rfl, h0, h⟩ := h
  refine ⟨A, c, rfl, h0, ?_⟩
  rcases h with h | ⟨g, o, rfl, h1, h2⟩
  · exact .inl h
  · have hg := hb g rfl
    refine .inr ⟨g, o, rfl, Nat.lt_of_lt_of_le h1 hz, fun k e he => ?_⟩
    obtain ⟨a0, a1, a2, a3⟩ := h2 k e he
    exact ⟨(World.cell?_of_block (a := ⟨g, _, none⟩) hg).trans a0, (World.cell?_of_block (a := ⟨g, _, none⟩) hg).trans a1, (World.cell?_of_block (a := ⟨g, _, none⟩) hg).trans a2, (World.cell?_of_block (a := ⟨g, _, none⟩) hg).trans a3⟩
theorem EntB.keep {B : Nat} {w w' : World} {v : Value} {l : List Ent} (h : EntB B w v l) (hz : w.heap.size ≤ w'.heap.size) (hb : ∀ b, B ≤ b → b < w.heap.size → w'.heap[b]? = w.heap[b]?) : EntB B w' v l :=
  ⟨h.o.blk hz (fun b e => hb b (h.blk b e).1 (h.blk b e).2), fun b e => ⟨(h.blk b e).1, Nat.lt_of_lt_of_le (h.blk b e).2 hz⟩, h.len, h.vb⟩
theorem EntB.chg {B B' E' : Nat} {w w' : World} {v : Value} {l : List Ent} (h : EntB B w v l) (hc : Chg B' E' w w') (hd : E' ≤ B) : EntB B w' v l := h.keep hc.size (fun b h1 h2 => hc.block b h2 (by omega))
theorem EntB.of {B : Nat} {w : World} {v : Value} {l : List Ent} (h : EntL B w v l) (hl : l.length ≤ 31) (hv : ∀ e ∈ l, e.verb.size ≤ 16) : EntB B w v l := ⟨EntO.of h, fun b e => World.ownsRow.lt h b e, hl, hv⟩
theorem own_cap {α : Type} {f : α → List Value} {z : Nat} {e : TypeId} {B g n c : Nat} {w : World} {l : List α} (h : OwnL f z e B w (.slice (some ⟨g, 0, none⟩) n c) l) : n ≤ c ∧ c ≤ maxLen := by
  have hn : l.length = n := by
    obtain ⟨A, c', h1, _⟩ := h.shape
    injection h1 with _ h1 _; exact h1.symm
  rcases h.2 with ⟨h', _⟩ | ⟨g', cap, cur, h', _, _, hnc, hm, _⟩
  · cases h'
  · injection h' with _ _ h3
    subst h3
    exact ⟨by omega, hm⟩
/-- one entry changed -/
theorem EntL.put {B g n c k j : Nat} {w : World} {l : List Ent} {e e' : Ent} {u : Value} (h : EntL B w (.slice (some ⟨g, 0, none⟩) n c) l) (hk : l[k]? = some e) (hj : j < 4) (he : e'.cells = e.cells.set j u) :
    EntL B (w.setCell ⟨g, k * 4 + j, none⟩ u) (.slice (some ⟨g, 0, none⟩) n c) (l.set k e') := OwnL.set1 Ent.len h hk hj he
theorem vb_set {l : List Ent} {k : Nat} {e' : Ent} (h : ∀ e ∈ l, e.verb.size ≤ 16) (h' : e'.verb.size ≤ 16) : ∀ e ∈ l.set k e', e.verb.size ≤ 16 := fun e he => by
  rcases List.mem_or_eq_of_mem_set he with he | rfl
  · exact h e he
  · exact h'
theorem Chg.setNew {B E b o : Nat} {w W : World} (h : Chg B E w W) (hb : w.heap.size ≤ b) (u : Value) : Chg B E w (W.setCell ⟨b, o, none⟩ u) :=
  ⟨h.os, h.tape, h.output, by simpa using h.size, fun k hk hne => (Below.heap_setCell W ⟨b, o, none⟩ u k (by intro e; have e' : k = b := e; omega)).trans (h.block k hk hne)⟩
theorem DrAt.setNew {w : World} {g b o : Nat} {A : Option Addr} {n c a : Nat} (h : DrAt w g A n c a) (hb : g < b) (u : Value) : DrAt (w.setCell ⟨b, o, none⟩ u) g A n c a :=
  h.keep (fun k hk => Below.heap_setCell w ⟨b, o, none⟩ u k (by intro e; have e' : k = b := e; omega)) (by simp)
theorem drop1 {B g n c : Nat} {w : World} {l : List Ent} (h : EntL B w (.slice (some ⟨g, 0, none⟩) n c) l) (hl : 0 < l.length) (hg : g < w.heap.size) (hB : B ≤ g) (hln : l.length ≤ 31) (hv : ∀ e ∈ l, e.verb.size ≤ 16) (X : Option Addr) (m c' : Nat) (hm : m = l.length - 1) (hX : X = some ⟨g, 4, none⟩ ∨ (l.length = 1 ∧ X = some ⟨g, 0, none⟩)) : EntB B w (.slice X m c') (l.drop 1) := by
  subst hm
  have hh : ∀ k e, (l.drop 1)[k]? = some e → w.cell? ⟨g, 4 + k * 4, none⟩ = some (.string e.verb) ∧ w.cell? ⟨g, 4 + k * 4 + 1, none⟩ = some (.int .i64 e.before) ∧ w.cell? ⟨g, 4 + k * 4 + 2, none⟩ = some (.int .i64 e.after) ∧ w.cell? ⟨g, 4 + k * 4 + 3, none⟩ = some (.int .i64 e.chain) := fun k e he => by
    rw [List.getElem?_drop] at he
    have e4 : (1 + k) * 4 = 4 + k * 4 := by omega
    have h0 := OwnL.at1 (j := 0) Ent.len h he rfl
    have h1 := OwnL.at1 (j := 1) Ent.len h he rfl
    have h2 := OwnL.at1 (j := 2) Ent.len h he rfl
    have h3 := OwnL.at1 (j := 3) Ent.len h he rfl
    rw [e4] at h0 h1 h2 h3
    exact ⟨h0, h1, h2, h3⟩
  refine ⟨⟨X, c', by simp, ?_, ?_⟩, fun b e => ?_, by simp; omega, fun e he => hv e (List.mem_of_mem_drop he)⟩
  · rcases hX with rfl | ⟨_, rfl⟩
    · exact .inr ⟨_, _, rfl⟩
    · exact .inr ⟨_, _, rfl⟩
  · rcases hX with rfl | ⟨h1, _⟩
    · exact .inr ⟨g, 4, rfl, hg, hh⟩
    · exact .inl (by apply List.eq_nil_of_length_eq_zero; simp; omega)
  · rcases hX with rfl | ⟨_, rfl⟩
    · simp [Value.ownBlock] at e; omega
    · simp [Value.ownBlock] at e; omega
set_option maxRecDepth 20000 in
set_option maxHeartbeats 8000000 in
theorem bent_s (g : Nat) (A : Option Addr) (n c a m : Nat) (w : World) (h : DrAt w g A n c a) (hn : n ≤ 1048576) (ha : a ≤ 8388608) (hm : m ≤ 16) :
    Calls Tryd.prog 42 #[.pointer (some ⟨g, 0, none⟩), .int .i64 m] w fun e w' => ∃ (v : Value) (l : List Ent) (s1 s2 : ByteArray), e = .returned (.tuple #[v, .string s1, .string s2]) ∧ EntB w.heap.size w' v l ∧ s1.size ≤ 16 ∧ s2.size ≤ 16 ∧ DrNew g A n c a 3000 w w' := by
  obtain ⟨i0, hi, hz0, hz1, hz2⟩ := info_parts Ent.info
  have hgw := h.lt
  go_enter Tryd.func42, Tryd.ntmps42
  go_wp2_with (fail)
  refine (ldr_s g A n c a _ h hn (by omega)).mono ?_; rintro e w1 ⟨v, l, s1, s2, rfl, o1, hK, hs1, hs2, a1, h11, h12, D1, C1⟩
  have z1 := C1.size
  obtain ⟨Al, cl, rfl, hA⟩ := OwnL.shape o1
  have HB0 := Lib.hid (EntB.of o1 (by have := hK.len; omega) hK.vb)
  by_cases hl0 : l.length = 0
  · have hd : decide (l.length = 0) = true := by simpa using hl0
    have hd2 : decide ((l.length : Int) = 0) = true := by simpa using hl0
    have hd3 : ((l.length : Int) == 0) = true := by simpa using hl0
    have hd4 : (l.length == 0) = true := by simpa using hl0
    clear hl0
    go_wp2_with (fail)
    exact bodyPost_ret (v := .tuple #[.slice Al l.length cl, .string s1, .string s2]) (by simp [results, Tryd.results42, go_sem]) rfl ⟨_, l, s1, s2, rfl, HB0.out, hs1, hs2, a1, by omega, by omega, D1, C1⟩
  · have hd : decide (l.length = 0) = false := by simpa using hl0
    have hd2 : decide ((l.length : Int) = 0) = false := by simpa using hl0
    have hd3 : ((l.length : Int) == 0) = false := by simpa using hl0
    have hd4 : (l.length == 0) = false := by simpa using hl0
    have hlp : 0 < l.length := by omega
    obtain ⟨gl, rfl, hgl1, hgl2⟩ := hA.resolve_left (by rintro rfl; simp at hl0)
    have hll := hK.len
    have HO1 := Lib.hid o1
    have HC1 := Lib.hid C1
    clear hl0 hA o1 C1
    go_wp2_with (fail)
    refine (one_s g A n c a1 m _ D1 hn (by omega) (by omega)).mono ?_; rintro e w2 ⟨b2, rfl, a2, h21, h22, D2, C2, S2⟩
    have HO2 := Lib.hid (OwnL.chgIn HO1.out C2 (by omega))
    have HC2 := Lib.hid (HC1.out.trans C2)
    have hgl3 : gl < w2.heap.size := by omega
    clear D1 HO1 HC1 C2 S2 hgl2 HB0
    cases b2
    · have HB2 := Lib.hid (EntB.of HO2.out (by omega) hK.vb)
      go_wp2_with (fail)
      exact bodyPost_ret (v := .tuple #[.slice (some ⟨gl, 0, none⟩) l.length cl, .string s1, .string s2]) (by simp [results, Tryd.results42, go_sem]) rfl ⟨_, l, s1, s2, rfl, HB2.out, hs1, hs2, a2, by omega, by omega, D2, HC2.out⟩
    · go_wp2_with (fail)
      refine (pick_s g A n c a2 l.length _ D2 hn (by omega) (by omega)).mono ?_; rintro e w3 ⟨k, hk, rfl, a3, h31, h32, D3, C3, S3⟩
      have hkl : k < l.length := by omega
      have HO3 := Lib.hid (OwnL.chgIn HO2.out C3 (by omega))
      have HC3 := Lib.hid (HC2.out.trans C3)
      have hgl4 : gl < w3.heap.size := by omega
      clear D2 HO2 HC2 C3 S3 hgl3 hk
      go_wp2_with (fail)
      refine (pick_s g A n c a3 5 _ D3 hn (by omega) (by omega)).mono ?_; rintro e w4 ⟨r, hr, rfl, a4, h41, h42, D4, C4, S4⟩
      have HO4 := Lib.hid (OwnL.chgIn HO3.out C4 (by omega))
      have HC4 := Lib.hid (HC3.out.trans C4)
      have hgl5 : gl < w4.heap.size := by omega
      have hggl : g < gl := by omega
      have haa : a ≤ a4 ∧ a4 ≤ a + 2010 := by omega
      obtain ⟨e, he⟩ : ∃ e, l[k]? = some e := ⟨l[k], List.getElem?_eq_getElem hkl⟩
      have hech := hK.ch e (List.mem_of_getElem? he)
      have hev := hK.vb e (List.mem_of_getElem? he)
      have p0 := OwnL.at1 (j := 0) Ent.len HO4.out he rfl
      have p1 := OwnL.at1 (j := 1) Ent.len HO4.out he rfl
      have p2 := OwnL.at1 (j := 2) Ent.len HO4.out he rfl
      have p3 := OwnL.at1 (j := 3) Ent.len HO4.out he rfl
      simp only [Nat.add_zero] at p0
      have f0 : w4.frozen? ⟨gl, k * 4, none⟩ = false := OwnL.frozen HO4.out
      have f2 : w4.frozen? ⟨gl, k * 4 + 2, none⟩ = false := OwnL.frozen HO4.out
      have f3 : w4.frozen? ⟨gl, k * 4 + 3, none⟩ = false := OwnL.frozen HO4.out
      have HE := Lib.hid he
      have HK := Lib.hid hK
      have hwz : w.heap.size ≤ w4.heap.size := HC4.out.size
      clear D3 HO3 HC3 C4 S4 he hK hgl4 h11 h12 h21 h22 h31 h32 h41 h42 z1
      rcases (by omega : r = 0 ∨ r = 1 ∨ r = 2 ∨ r = 3 ∨ r = 4) with rfl | rfl | rfl | rfl | rfl
      · have HN := Lib.hid (EntB.of (EntL.put (j := 3) (e' := ⟨e.verb, e.before, e.after, e.chain + 1⟩) HO4.out HE.out (by omega) rfl) (by rw [List.length_set]; omega) (vb_set HK.out.vb hev))
        have DN := D4.setNew (b := gl) (o := k * 4 + 3) hggl (.int .i64 (e.chain + 1))
        have CN := HC4.out.setNew (b := gl) (o := k * 4 + 3) (by omega) (.int .i64 (e.chain + 1))
        go_wp2_with (fail)
        refine bodyPost_ret (v := .tuple #[.slice (some ⟨gl, 0, none⟩) l.length cl, .string s1, .string s2]) (by simp [results, Tryd.results42, go_sem]) rfl ⟨_, _, s1, s2, rfl, HN.out, hs1, hs2, a4, by omega, by omega, DN, CN⟩
      · have DA := D4.alloc (.cells #[.string { data := #[] }, .string { data := #[82, 101, 97, 100] }, .string { data := #[116, 119, 101, 108, 118, 101, 45, 108, 101, 116, 116, 101, 114] }, .string { data := #[114, 97, 101, 100] }] 9)
        have HCA := Lib.hid (HC4.out.alloc (.cells #[.string { data := #[] }, .string { data := #[82, 101, 97, 100] }, .string { data := #[116, 119, 101, 108, 118, 101, 45, 108, 101, 116, 116, 101, 114] }, .string { data := #[114, 97, 101, 100] }] 9))
        have HOA := Lib.hid (OwnL.alloc HO4.out (.cells #[.string { data := #[] }, .string { data := #[82, 101, 97, 100] }, .string { data := #[116, 119, 101, 108, 118, 101, 45, 108, 101, 116, 116, 101, 114] }, .string { data := #[114, 97, 101, 100] }] 9))
        have hg4 := D4.lt
        go_wp2_with (fail)
        refine (text_s g A n c a4 w4.heap.size 4 [{ data := #[] }, { data := #[82, 101, 97, 100] }, { data := #[116, 119, 101, 108, 118, 101, 45, 108, 101, 116, 116, 101, 114] }, { data := #[114, 97, 101, 100] }] _ DA hn (by omega) (by simp) (by simp) hg4 (by simp) ?_).mono ?_
        · intro j x hj
          match j, hj with
          | 0, hj => simp at hj; subst hj; simp
          | 1, hj => simp at hj; subst hj; simp
          | 2, hj => simp at hj; subst hj; simp
          | 3, hj => simp at hj; subst hj; simp
          | j + 4, hj => simp at hj
        rintro e5 w5 ⟨x, hx, rfl, a5, h51, h52, D5, C5, S5⟩
        have hx16 : x.size ≤ 16 := by
          simp only [List.mem_cons, List.not_mem_nil, or_false] at hx
          rcases hx with rfl | rfl | rfl | rfl <;> decide
        have HO5 := Lib.hid (OwnL.chgIn HOA.out C5 (by omega))
        have HC5 := Lib.hid (HCA.out.trans C5)
        have q0 := OwnL.at1 (j := 0) Ent.len HO5.out HE.out rfl
        simp only [Nat.add_zero] at q0
        have q1 : w5.frozen? ⟨gl, k * 4, none⟩ = false := OwnL.frozen HO5.out
        have HN := Lib.hid (EntB.of (EntL.put (j := 0) (e' := ⟨x, e.before, e.after, e.chain⟩) HO5.out HE.out (by omega) rfl) (by rw [List.length_set]; omega) (vb_set HK.out.vb hx16))
        have DN := D5.setNew (b := gl) (o := k * 4) hggl (.string x)
        have CN := HC5.out.setNew (b := gl) (o := k * 4) (by omega) (.string x)
        clear p0 p1 p2 p3 f0 f2 f3 DA HCA HOA C5 S5 hx
        go_wp2_with (fail)
        refine bodyPost_ret (v := .tuple #[.slice (some ⟨gl, 0, none⟩) l.length cl, .string s1, .string s2]) (by simp [results, Tryd.results42, go_sem]) rfl ⟨_, _, s1, s2, rfl, HN.out, hs1, hs2, a5, by omega, by omega, DN, CN⟩
      · have DA := D4.alloc (.cells #[.int .i64 (-1), .int .i64 65536, .int .i64 7] 2)
        have HCA := Lib.hid (HC4.out.alloc (.cells #[.int .i64 (-1), .int .i64 65536, .int .i64 7] 2))
        have HOA := Lib.hid (OwnL.alloc HO4.out (.cells #[.int .i64 (-1), .int .i64 65536, .int .i64 7] 2))
        have hg4 := D4.lt
        go_wp2_with (fail)
        refine (among_s g A n c a4 w4.heap.size 3 [-1, 65536, 7] _ DA hn (by omega) (by simp) (by simp) hg4 (by simp) ?_).mono ?_
        · intro j x hj
          match j, hj with
          | 0, hj => simp at hj; subst hj; simp
          | 1, hj => simp at hj; subst hj; simp
          | 2, hj => simp at hj; subst hj; simp
          | j + 3, hj => simp at hj
        rintro e5 w5 ⟨x, hx, rfl, a5, h51, h52, D5, C5, S5⟩
        have HO5 := Lib.hid (OwnL.chgIn HOA.out C5 (by omega))
        have HC5 := Lib.hid (HCA.out.trans C5)
        have q0 := OwnL.at1 (j := 2) Ent.len HO5.out HE.out rfl
        have q1 : w5.frozen? ⟨gl, k * 4 + 2, none⟩ = false := OwnL.frozen HO5.out
        have HN := Lib.hid (EntB.of (EntL.put (j := 2) (e' := ⟨e.verb, e.before, x, e.chain⟩) HO5.out HE.out (by omega) rfl) (by rw [List.length_set]; omega) (vb_set HK.out.vb hev))
        have DN := D5.setNew (b := gl) (o := k * 4 + 2) hggl (.int .i64 x)
        have CN := HC5.out.setNew (b := gl) (o := k * 4 + 2) (by omega) (.int .i64 x)
        clear p0 p1 p2 p3 f0 f2 f3 DA HCA HOA C5 S5 hx
        go_wp2_with (fail)
        refine bodyPost_ret (v := .tuple #[.slice (some ⟨gl, 0, none⟩) l.length cl, .string s1, .string s2]) (by simp [results, Tryd.results42, go_sem]) rfl ⟨_, _, s1, s2, rfl, HN.out, hs1, hs2, a5, by omega, by omega, DN, CN⟩
      · have hlo := World.ownsRow.lt HO4.out
        have hbase : w.heap.size ≤ (w4.alloc (.cells #[.string e.verb, .int .i64 e.before, .int .i64 e.after, .int .i64 e.chain] 48)).heap.size := by simp; omega
        have hl1 : l.length + 1 ≤ 16777216 := by omega
        have DA := D4.alloc (.cells #[.string e.verb, .int .i64 e.before, .int .i64 e.after, .int .i64 e.chain] 48)
        have HCA := Lib.hid (HC4.out.alloc (.cells #[.string e.verb, .int .i64 e.before, .int .i64 e.after, .int .i64 e.chain] 48))
        go_wp2_with (at_builtin; refine wpList_app1 Ent.cells 4 Ent.len _ rfl _ _ _ rfl w.heap.size 48 i0 (.agg #[.string .empty, .int .i64 0, .int .i64 0, .int .i64 0]) 40 Tryd.underlying30 hi hz0 hz1 hz2 rfl (by decide) _ l rfl (HO4.out.alloc _) _ 1 e rfl ?_ (ent_one e) hl1 (by decide) hbase ?_; (· exact own_cells rfl); intro v5 w5 how5 hg5; obtain ⟨A5, n5, c5, rfl⟩ := own_slice how5)
        refine bodyPost_ret (v := .tuple #[.slice A5 n5 c5, .string s1, .string s2]) (by simp [results, Tryd.results42, go_sem]) rfl ⟨_, l ++ [e], s1, s2, rfl, EntB.of how5 (by simp; omega) (fun x hx => ?_), hs1, hs2, a4, by omega, by omega, DA.grown hg5 (fun q hq => by have := (hlo q hq).1; omega), HCA.out.grown hg5 (fun q hq => (hlo q hq).1)⟩
        rcases List.mem_append.1 hx with hx | hx
        · exact HK.out.vb x hx
        · obtain rfl : x = e := by simpa using hx
          exact hev
      · obtain ⟨hcap, _⟩ := own_cap HO4.out
        have h1l : (1 : Int) ≤ (l.length : Int) := by omega
        have h2l : (l.length : Int) ≤ (cl : Int) := by omega
        have h1c : 1 ≤ cl := by omega
        have HDR := Lib.hid (fun X m c' hm hX => drop1 HO4.out hlp hgl5 hgl1 (by omega) HK.out.vb X m c' hm hX)
        rcases Decidable.em (cl = 1) with hce | hce
        all_goals
          go_wp2_with (fail)
          first
            | exact bodyPost_ret (v := .tuple #[.slice (some ⟨gl, 0, none⟩) (l.length - 1) 0, .string s1, .string s2]) (by simp [results, Tryd.results42, go_sem]) rfl ⟨_, _, s1, s2, rfl, HDR.out _ _ _ rfl (.inr ⟨by omega, rfl⟩), hs1, hs2, a4, by omega, by omega, D4, HC4.out⟩
            | exact bodyPost_ret (v := .tuple #[.slice (some ⟨gl, 4, none⟩) (l.length - 1) (cl - 1), .string s1, .string s2]) (by simp [results, Tryd.results42, go_sem]) rfl ⟨_, _, s1, s2, rfl, HDR.out _ _ _ rfl (.inl rfl), hs1, hs2, a4, by omega, by omega, D4, HC4.out⟩
            | skip
end Go.Proofs.YtkpjjohanbiagaaDoor
