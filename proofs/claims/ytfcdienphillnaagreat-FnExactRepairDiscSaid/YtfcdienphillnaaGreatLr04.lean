/- Buffers of bytes: cells of one block, read and written; strings as lists of numbers. Contracts of the library over this program (printed by the kit, over the functions of this seat). zeros: its contract. Geometries and sectors that are valid, impl and spec: the walks. Sectors that are valid, impl and spec: the walks. Discs that are valid, impl and spec: the walks. Discs that are valid, the reference: the walks. Sectors that no source covers: the plain law. -/
import Derived.Test.YtfcdienphillnaaGreatLr01
import Derived.Test.YtfcdienphillnaaGreatProg
import Derived.Test.YtfcdienphillnaaGreatLr03
import Derived.Laws.BytesArg
import Derived.Lib.ConvBytes
import Derived.Shelf.Strings.Repeat
namespace Go.Proofs.YtfcdienphillnaaGreat
set_option linter.unusedVariables false
set_option linter.unusedSimpArgs false
open Go.RowKit

def bts (s : ByteArray) : List Nat := s.data.toList.map UInt8.toNat
def strN (l : List Nat) : ByteArray := strOfNums (l.map fun n : Nat => (n : Int))
theorem bts_len (s : ByteArray) : (bts s).length = s.size := by simp [bts]
theorem strN_size (l : List Nat) : (strN l).size = l.length := by simp [strN, strOfNums_size]
theorem bts_get {s : ByteArray} {k : Nat} (h : k < s.size) : (bts s)[k]? = some s[k].toNat := by
  have h' : k < s.data.toList.length := by simpa using h
  simp only [bts, List.getElem?_map, List.getElem?_eq_getElem h', Option.map_some]
  rfl
theorem bts_lt {s : ByteArray} : ∀ x ∈ bts s, x < 256 := by
  intro x h
  simp only [bts, List.mem_map] at h
  obtain ⟨a, _, rfl⟩ := h
  exact a.toNat_lt
theorem strN_bts (s : ByteArray) : strN (bts s) = s := by
  apply ByteArray.ext
  apply Array.ext'
  rw [strN, strOfNums_data]
  simp [bts, Function.comp_def]
theorem bts_strN {l : List Nat} (h : ∀ x ∈ l, x < 256) : bts (strN l) = l := by
  unfold bts strN
  rw [strOfNums_data, List.map_map, List.map_map]
  conv => rhs; rw [← List.map_id l]
  apply List.map_congr_left
  intro a ha
  simp only [Function.comp_apply, id_eq, Int.toNat_natCast, UInt8.toNat_ofNat']
  exact Nat.mod_eq_of_lt (h a ha)

/-- at block g lie the bytes l -/
def Buf (w : World) (g : Nat) (l : List Nat) : Prop := ∀ (j x : Nat), l[j]? = some x → w.cell? ⟨g, j, none⟩ = some (.int .u8 (x : Int)) ∧ w.frozen? ⟨g, j, none⟩ = false
theorem Buf.block {w w' : World} {g : Nat} {l : List Nat} (h : Buf w g l) (hb : w'.heap[g]? = w.heap[g]?) : Buf w' g l := fun j x hj => by
  have ⟨h1, h2⟩ := h j x hj
  exact ⟨(World.cell?_of_block (a := ⟨g, j, none⟩) hb).trans h1, (World.frozen?_of_block (a := ⟨g, j, none⟩) hb).trans h2⟩
theorem Buf.set {w : World} {g : Nat} {l : List Nat} (h : Buf w g l) {k x : Nat} (y : Nat) (hk : l[k]? = some x) : Buf (w.setCell ⟨g, k, none⟩ (.int .u8 (y : Int))) g (l.set k y) := fun j z hj => by
  rw [List.getElem?_set] at hj
  split at hj
  · rename_i e
    subst e
    split at hj
    · obtain rfl : y = z := by simpa using hj
      exact ⟨World.cell?_setCell_same _ _ _ (h k x hk).1, by rw [World.frozen?_setCell]; exact (h k x hk).2⟩
    · cases hj
  · rename_i e
    have ⟨h1, h2⟩ := h j z hj
    exact ⟨by rw [World.cell?_setCell_other _ _ _ _ (by intro e2; injection e2 with _ e3 _; exact e e3)]; exact h1, by rw [World.frozen?_setCell]; exact h2⟩
theorem Buf.below {w w' : World} {g : Nat} {l : List Nat} {K : Nat} (h : Buf w g l) (hb : Below K w w') (hg : g < K) : Buf w' g l := h.block (hb.block g hg)
theorem Buf.chg {w w' : World} {g B E : Nat} {l : List Nat} (h : Buf w g l) (hb : Chg B E w w') (hg : g < w.heap.size) (hne : E ≤ g ∨ g < B) : Buf w' g l := h.block (hb.block g hg (by omega))
theorem Buf.str {w : World} {g c n : Nat} {l : List Nat} (h : Buf w g l) (hn : l.length = n) : (convert 65 9 (.slice (some ⟨g, 0, none⟩) n c)).run Tryz.prog w = .ok (.string (strN l)) w :=
  run_convert_bytes_arg _ 65 5 Tryz.underlying65 Tryz.underlying5 _ 0 n c (l.map fun n : Nat => (n : Int)) (by simpa using hn) (fun i hi => by
    have hi' : i < l.length := by omega
    have := (h i l[i] (List.getElem?_eq_getElem hi')).1
    rw [Nat.zero_add, this]
    simp [List.getD, hi']) 9 Tryz.underlying9
/-- a string as bytes -/
theorem buf_of_str (w : World) (s : ByteArray) : ∃ c w', (convert 9 65 (.string s)).run Tryz.prog w = .ok (.slice (some ⟨w.heap.size, 0, none⟩) s.size c) w' ∧ Buf w' w.heap.size (bts s) ∧ Below w.heap.size w w' ∧ w'.heap.size = w.heap.size + 1 := by
  refine ⟨_, _, Lib.run_convert_string_bytes w 9 65 5 s Tryz.underlying9 Tryz.underlying65 Tryz.underlying5, ?_, ?_, ?_⟩
  · intro j x hj
    have hl := bts_len s
    have hjs : j < s.size := by have := (List.getElem?_eq_some_iff.1 hj).1; omega
    rw [bts_get hjs] at hj
    obtain rfl : s[j].toNat = x := by simpa using hj
    refine ⟨?_, ?_⟩
    · rw [Lib.bytesWorld_cell w _ s j hjs]
      have : s.data.toList.getD j 0 = s[j] := by
        rw [List.getD_eq_getElem?_getD, List.getElem?_eq_getElem (by simpa using hjs)]; rfl
      rw [this]
    · have hb := Lib.bytesWorld_at_new w 5 s
      have hz : j < (Lib.bytesCells w 5 s).size := by simp [Lib.bytesCells]; omega
      simp [World.frozen?, hb]
      omega
  · exact ⟨rfl, rfl, rfl, by rw [Lib.bytesWorld_size]; omega, fun k hk => Lib.bytesWorld_at_old w _ s k hk⟩
  · exact Lib.bytesWorld_size w _ s
/-- a new buffer of zeros -/
theorem buf_made (w : World) (n : Nat) (hn : n ≤ 16777216) : ∃ w', (Instr.makeSlice 65 (.int .i64 (n : Int)) (.int .i64 (n : Int))).run Tryz.prog w = .ok (.slice (some ⟨w.heap.size, 0, none⟩) n n) w' ∧ Buf w' w.heap.size (List.replicate n 0) ∧ Below w.heap.size w w' ∧ w'.heap.size = w.heap.size + 1 := by
  have hz : (TypeInfo.zero <$> Tryz.prog.info? 5) = some (some (.int .u8 0)) := by kernel_rfl
  have hb : (TypeInfo.bytes <$> Tryz.prog.info? 5) = some 1 := by kernel_rfl
  have hs : (TypeInfo.size <$> Tryz.prog.info? 5) = some 1 := by kernel_rfl
  cases hi : Tryz.prog.info? 5 with
  | none => rw [hi] at hz; cases hz
  | some i =>
    rw [hi] at hz hb hs
    simp only [Option.map_eq_map, Option.map_some, Option.some.injEq] at hz hb hs
    have hr := run_makeSlice (P := Tryz.prog) w 65 5 i _ Tryz.underlying65 hi hz .i64 .i64 (n : Int) (n : Int) (by omega) (by omega) (by rw [hs]; simpa using hn) (by rw [hb]; omega) (by omega)
    simp only [Int.toNat_natCast] at hr
    refine ⟨_, hr, ?_, ?_, ?_⟩
    · intro j x hj
      have hjn : j < n := by have := (List.getElem?_eq_some_iff.1 hj).1; simpa using this
      rw [List.getElem?_replicate, if_pos hjn] at hj
      obtain rfl : 0 = x := by simpa using hj
      refine ⟨?_, ?_⟩
      · simp [madeCells, hs, hjn, Value.cells, Nat.mod_one]
      · simp
    · exact Below.alloc (Below.refl _ _) (Nat.le_refl _) _
    · simp
end Go.Proofs.YtfcdienphillnaaGreat
namespace Go.Proofs
open Go.Shelf
def Tryz.lays105_ren : Go.Shelf.Ren := ⟨fun | 105 => 152 | 212 => 190 | 99 => 191 | 165 => 192 | 166 => 193 | 170 => 194 | 169 => 195 | 263 => 210 | 264 => 211 | 206 => 212 | 240 => 213 | 241 => 214 | 276 => 217 | 277 => 218 | n => n, fun | 9 => 9 | 3 => 3 | 4 => 4 | 20 => 20 | 0 => 0 | 46 => 150 | 109 => 230 | 5 => 5 | 72 => 235 | 76 => 239 | 51 => 199 | 146 => 253 | 53 => 143 | 148 => 255 | 70 => 233 | 37 => 65 | 75 => 238 | 127 => 257 | 164 => 261 | 80 => 242 | n => n, fun | n => n⟩
theorem Tryz.lays105 : Go.Proofs.Lays.n105 Tryz.prog Tryz.lays105_ren := {
  mixed := by kernel_rfl
  f99 := Tryz.func191.trans (congrArg some (by kernel_rfl))
  f105 := Tryz.func152.trans (congrArg some (by kernel_rfl))
  f165 := Tryz.func192.trans (congrArg some (by kernel_rfl))
  f166 := Tryz.func193.trans (congrArg some (by kernel_rfl))
  f169 := Tryz.func195.trans (congrArg some (by kernel_rfl))
  f170 := Tryz.func194.trans (congrArg some (by kernel_rfl))
  f206 := Tryz.func212.trans (congrArg some (by kernel_rfl))
  f212 := Tryz.func190.trans (congrArg some (by kernel_rfl))
  f240 := Tryz.func213.trans (congrArg some (by kernel_rfl))
  f241 := Tryz.func214.trans (congrArg some (by kernel_rfl))
  f263 := Tryz.func210.trans (congrArg some (by kernel_rfl))
  f264 := Tryz.func211.trans (congrArg some (by kernel_rfl))
  f276 := Tryz.func217.trans (congrArg some (by kernel_rfl))
  f277 := Tryz.func218.trans (congrArg some (by kernel_rfl))
  t0 := Tryz.underlying0
  a0 := Tryz.isAgg0
  z0 := Tryz.sizeOf0
  v0 := Tryz.zeroValue0
  t3 := Tryz.underlying3
  a3 := Tryz.isAgg3
  z3 := Tryz.sizeOf3
  v3 := Tryz.zeroValue3
  t4 := Tryz.underlying4
  a4 := Tryz.isAgg4
  z4 := Tryz.sizeOf4
  v4 := Tryz.zeroValue4
  t5 := Tryz.underlying5
  a5 := Tryz.isAgg5
  z5 := Tryz.sizeOf5
  v5 := Tryz.zeroValue5
  t9 := Tryz.underlying9
  a9 := Tryz.isAgg9
  z9 := Tryz.sizeOf9
  v9 := Tryz.zeroValue9
  t20 := Tryz.underlying20
  a20 := Tryz.isAgg20
  z20 := Tryz.sizeOf20
  v20 := Tryz.zeroValue20
  t37 := Tryz.underlying65
  a37 := Tryz.isAgg65
  z37 := Tryz.sizeOf65
  v37 := Tryz.zeroValue65
  t46 := Tryz.underlying150
  a46 := Tryz.isAgg150
  z46 := Tryz.sizeOf150
  v46 := Tryz.zeroValue150
  t51 := Tryz.underlying199
  a51 := Tryz.isAgg199
  z51 := Tryz.sizeOf199
  v51 := Tryz.zeroValue199
  t53 := Tryz.underlying143
  a53 := Tryz.isAgg143
  z53 := Tryz.sizeOf143
  v53 := Tryz.zeroValue143
  t70 := Tryz.underlying233
  a70 := Tryz.isAgg233
  z70 := Tryz.sizeOf233
  v70 := Tryz.zeroValue233
  t72 := Tryz.underlying235
  a72 := Tryz.isAgg235
  z72 := Tryz.sizeOf235
  v72 := Tryz.zeroValue235
  t75 := Tryz.underlying238
  a75 := Tryz.isAgg238
  z75 := Tryz.sizeOf238
  v75 := Tryz.zeroValue238
  t76 := Tryz.underlying239
  a76 := Tryz.isAgg239
  z76 := Tryz.sizeOf239
  v76 := Tryz.zeroValue239
  t109 := Tryz.underlying230
  a109 := Tryz.isAgg230
  z109 := Tryz.sizeOf230
  v109 := Tryz.zeroValue230
  t127 := Tryz.underlying257
  a127 := Tryz.isAgg257
  z127 := Tryz.sizeOf257
  v127 := Tryz.zeroValue257
  t146 := Tryz.underlying253
  a146 := Tryz.isAgg253
  z146 := Tryz.sizeOf253
  v146 := Tryz.zeroValue253
  t148 := Tryz.underlying255
  a148 := Tryz.isAgg255
  z148 := Tryz.sizeOf255
  v148 := Tryz.zeroValue255
  t164 := Tryz.underlying261
  a164 := Tryz.isAgg261
  z164 := Tryz.sizeOf261
  v164 := Tryz.zeroValue261 }
theorem Tryz.Builder_Extra_105 : Builder.Extra Tryz.prog Tryz.lays105_ren := {
  sizeBuilder := by kernel_rfl
  liesBuilder := by kernel_rfl
  t5 := Tryz.underlying5
  a5 := Tryz.isAgg5
  z5 := Tryz.sizeOf5
  v5 := Tryz.zeroValue5
  infoByte := by kernel_rfl
  cellsByte := by kernel_rfl
  sizeByte := by kernel_rfl
  neB5 := by decide }
open Go.RowKit Go.Lib in
/-- **strings.Repeat: count ≥ 0, the result within one allocation: count copies of s.** (LAID: no walk: one application.) -/
theorem Tryz.strings_Repeat (s : ByteArray) (c : Nat) (w : World) (hc : c ≤ 9223372036854775807) (hlen : s.size * c ≤ 140737488355328) :
    Calls Tryz.prog 152 #[.string s, .int .i64 c] w fun e w' => e = .returned (.string ⟨(Lib.repeatL s.data.toList c).toArray⟩) ∧ Below w.heap.size w w' := Any.strings_Repeat Tryz.lays105 Tryz.Builder_Extra_105 s c w hc hlen
end Go.Proofs
namespace Go.Proofs.YtfcdienphillnaaGreat
set_option linter.unusedVariables false
set_option linter.unusedSimpArgs false
open Go.RowKit

theorem strN_zero (n : Nat) : strN (List.replicate n 0) = ⟨(Lib.repeatL [0] n).toArray⟩ := by
  apply ByteArray.ext
  apply Array.ext'
  rw [strN, strOfNums_data]
  induction n with
  | zero => rfl
  | succ n ih => simp only [List.replicate_succ, List.map_cons, Lib.repeatL] at ih ⊢; simpa using ih
theorem zeros_i (n : Nat) (w : World) (h : n ≤ 16777216) : Calls Tryz.prog 129 #[.int .i64 n] w fun e w' => e = .returned (.string (strN (List.replicate n 0))) ∧ Below w.heap.size w w' := by
  have HR : ∀ w, Calls Tryz.prog 152 #[.string { data := #[0] }, .int .i64 n] w fun e w' => e = .returned (.string (strN (List.replicate n 0))) ∧ Below w.heap.size w w' := fun w => by
    rw [strN_zero]
    exact Tryz.strings_Repeat { data := #[0] } n w (by omega) (by show 1 * n ≤ _; omega)
  go_enter Tryz.func129, Tryz.ntmps129
  go_wp2_with (go_at_call 152; refine (HR _).mono ?_; rintro e w1 ⟨rfl, hb1⟩)
  go_ret
  exact ⟨rfl, hb1⟩
end Go.Proofs.YtfcdienphillnaaGreat
namespace Go.Proofs.YtfcdienphillnaaGreat
set_option linter.unusedVariables false
set_option linter.unusedSimpArgs false
open Go.RowKit
def geoB (c h p s : Int) : Bool := inB c 1 8 && (inB h 1 2 && (inB p 1 8 && inB s 0 2))
set_option maxHeartbeats 1000000 in
theorem geo_i (c h p s : Int) (w : World) : Calls Tryz.prog 120 #[.int .i64 c, .int .i64 h, .int .i64 p, .int .i64 s] w fun e w' => e = .returned (.bool (geoB c h p s)) ∧ w = w' := by
  unfold geoB
  cases h1 : inB c 1 8
  · go_enter Tryz.func120, Tryz.ntmps120
    go_wp2_with (go_at_call 51; refine (within_i _ _ _ _).mono ?_; rintro e w1 ⟨rfl, rfl⟩)
    go_ret
    exact ⟨rfl, rfl⟩
  · cases h2 : inB h 1 2
    · go_enter Tryz.func120, Tryz.ntmps120
      go_wp2_with (go_at_call 51; refine (within_i _ _ _ _).mono ?_; rintro e w1 ⟨rfl, rfl⟩)
      go_ret
      exact ⟨rfl, rfl⟩
    · cases h3 : inB p 1 8
      · go_enter Tryz.func120, Tryz.ntmps120
        go_wp2_with (go_at_call 51; refine (within_i _ _ _ _).mono ?_; rintro e w1 ⟨rfl, rfl⟩)
        go_ret
        exact ⟨rfl, rfl⟩
      · cases h4 : inB s 0 2
        · go_enter Tryz.func120, Tryz.ntmps120
          go_wp2_with (go_at_call 51; refine (within_i _ _ _ _).mono ?_; rintro e w1 ⟨rfl, rfl⟩)
          go_ret
          exact ⟨rfl, rfl⟩
        · go_enter Tryz.func120, Tryz.ntmps120
          go_wp2_with (go_at_call 51; refine (within_i _ _ _ _).mono ?_; rintro e w1 ⟨rfl, rfl⟩)
          go_ret
          exact ⟨rfl, rfl⟩
set_option maxHeartbeats 1000000 in
theorem geo_s (c h p s : Int) (w : World) : Calls Tryz.prog 114 #[.int .i64 c, .int .i64 h, .int .i64 p, .int .i64 s] w fun e w' => e = .returned (.bool (geoB c h p s)) ∧ w = w' := by
  unfold geoB
  cases h1 : inB c 1 8
  · go_enter Tryz.func114, Tryz.ntmps114
    go_wp2_with (go_at_call 43; refine (in_s _ _ _ _).mono ?_; rintro e w1 ⟨rfl, rfl⟩)
    go_ret
    exact ⟨rfl, rfl⟩
  · cases h2 : inB h 1 2
    · go_enter Tryz.func114, Tryz.ntmps114
      go_wp2_with (go_at_call 43; refine (in_s _ _ _ _).mono ?_; rintro e w1 ⟨rfl, rfl⟩)
      go_ret
      exact ⟨rfl, rfl⟩
    · cases h3 : inB p 1 8
      · go_enter Tryz.func114, Tryz.ntmps114
        go_wp2_with (go_at_call 43; refine (in_s _ _ _ _).mono ?_; rintro e w1 ⟨rfl, rfl⟩)
        go_ret
        exact ⟨rfl, rfl⟩
      · cases h4 : inB s 0 2
        · go_enter Tryz.func114, Tryz.ntmps114
          go_wp2_with (go_at_call 43; refine (in_s _ _ _ _).mono ?_; rintro e w1 ⟨rfl, rfl⟩)
          go_ret
          exact ⟨rfl, rfl⟩
        · go_enter Tryz.func114, Tryz.ntmps114
          go_wp2_with (go_at_call 43; refine (in_s _ _ _ _).mono ?_; rintro e w1 ⟨rfl, rfl⟩)
          go_ret
          exact ⟨rfl, rfl⟩
/-- the number of bytes of a sector -/
def szN (k : Int) : Nat := 8 * 2 ^ k.toNat
theorem szN_le {k : Int} (h : 0 ≤ k ∧ k ≤ 2) : szN k = 8 ∨ szN k = 16 ∨ szN k = 32 := by
  rcases (by omega : k = 0 ∨ k = 1 ∨ k = 2) with rfl | rfl | rfl
  · exact .inl rfl
  · exact .inr (.inl rfl)
  · exact .inr (.inr rfl)
theorem bytes_i (k : Int) (w : World) (h : 0 ≤ k ∧ k ≤ 2) : Calls Tryz.prog 102 #[.int .i64 k] w fun e w' => e = .returned (.int .i64 (szN k : Nat)) ∧ w = w' := by
  rcases (by omega : k = 0 ∨ k = 1 ∨ k = 2) with rfl | rfl | rfl
  all_goals
    go_enter Tryz.func102, Tryz.ntmps102
    go_wp2
    go_ret
    exact ⟨rfl, rfl⟩
theorem bytes_s (k : Int) (w : World) (h : 0 ≤ k ∧ k ≤ 2) : Calls Tryz.prog 116 #[.int .i64 k] w fun e w' => e = .returned (.int .i64 (szN k : Nat)) ∧ w = w' := by
  rcases (by omega : k = 0 ∨ k = 1 ∨ k = 2) with rfl | rfl | rfl
  all_goals
    go_enter Tryz.func116, Tryz.ntmps116
    go_wp2
    go_ret
    exact ⟨rfl, rfl⟩
theorem zeros_s (n : Nat) (w : World) (h : n ≤ 16777216) : Calls Tryz.prog 128 #[.int .i64 n] w fun e w' => e = .returned (.string (strN (List.replicate n 0))) ∧ Below w.heap.size w w' := by
  obtain ⟨wa, hm1, hba, hb1, hz1⟩ := buf_made w n h
  have hst := hba.str (n := n) (c := n) (by simp)
  go_enter Tryz.func128, Tryz.ntmps128
  go_wp2
  go_ret
  exact ⟨rfl, hb1⟩
def secOk (s : Sec) (n : Nat) : Bool := (inB s.state 1 4 && decide (s.data.size = n)) && (s.state != 3 || (s.data.toList == (strN (List.replicate n 0)).toList))
end Go.Proofs.YtfcdienphillnaaGreat
namespace Go.Proofs.YtfcdienphillnaaGreat
set_option linter.unusedVariables false
set_option linter.unusedSimpArgs false
open Go.RowKit
theorem secOk_no1 {s : Sec} {n : Nat} (h : inB s.state 1 4 = false) : secOk s n = false := by unfold secOk; rw [h]; rfl
theorem secOk_no2 {s : Sec} {n : Nat} (h : ¬ s.data.size = n) : secOk s n = false := by unfold secOk; rw [decide_eq_false h, Bool.and_false, Bool.false_and]
theorem secOk_yes {s : Sec} {n : Nat} (h : inB s.state 1 4 = true) (h2 : s.data.size = n) (h3 : (s.state != 3) = true) : secOk s n = true := by unfold secOk; rw [h, decide_eq_true h2, h3]; rfl
theorem secOk_eq {s : Sec} {n : Nat} (h : inB s.state 1 4 = true) (h2 : s.data.size = n) (h3 : (s.state != 3) = false) : secOk s n = (s.data.toList == (strN (List.replicate n 0)).toList) := by unfold secOk; rw [h, decide_eq_true h2, h3]; rfl
set_option maxRecDepth 20000 in
set_option maxHeartbeats 2000000 in
theorem sec_i (s : Sec) (k : Int) (w : World) (hk : 0 ≤ k ∧ k ≤ 2) (hm : s.data.size ≤ maxLen) :
    Calls Tryz.prog 121 #[.agg #[.string s.data, .int .i64 s.state], .int .i64 k] w fun e w' => e = .returned (.bool (secOk s (szN k))) ∧ Below w.heap.size w w' := by
  have hz := szN_le hk
  unfold maxLen at hm
  have e0 : ∀ x : Wb (w.alloc (.cells #[.string s.data, .int .i64 s.state] 70)), x.1.cell? ⟨w.heap.size, 0, none⟩ = some (.string s.data) := fun x => Wb.cell (by simp) x
  have e1 : ∀ x : Wb (w.alloc (.cells #[.string s.data, .int .i64 s.state] 70)), x.1.cell? ⟨w.heap.size, 1, none⟩ = some (.int .i64 s.state) := fun x => Wb.cell (by simp) x
  have B0 : Below w.heap.size w (w.alloc (.cells #[.string s.data, .int .i64 s.state] 70)) := Below.alloc (Below.refl _ _) (Nat.le_refl _) _
  cases h1 : inB s.state 1 4
  · have HF := Lib.hid (secOk_no1 (n := szN k) h1)
    go_enter Tryz.func121, Tryz.ntmps121
    go_wp2_with (fail)
    refine wp_region_wb (by kernel_rfl) (by kernel_rfl) ?_; (repeat (go_big_quiet_step (first | (go_at_call 51; exact Wb.same (within_i _ _ _ _)) | (go_at_call 102; exact Wb.same (bytes_i k _ hk)) | (go_at_call 129; exact Wb.calls (zeros_i (szN k) _ (by omega)))))); refine wpQuiet_nil ?_
    rintro w1 ⟨⟨w1', hb1⟩, rfl⟩
    go_wp2
    go_ret
    exact ⟨ret_bool HF.out.symm, B0.trans (hb1.mono (by simp))⟩
  · by_cases h2 : s.data.size = szN k
    · have d1 : ((s.data.size : Int) != ((szN k : Nat) : Int)) = false := by simp [h2]
      cases h3 : (s.state != 3)
      · have HF := Lib.hid (secOk_eq h1 h2 h3)
        clear h2
        go_enter Tryz.func121, Tryz.ntmps121
        go_wp2_with (fail)
        refine wp_region_wb (by kernel_rfl) (by kernel_rfl) ?_; (repeat (go_big_quiet_step (first | (go_at_call 51; exact Wb.same (within_i _ _ _ _)) | (go_at_call 102; exact Wb.same (bytes_i k _ hk)) | (go_at_call 129; exact Wb.calls (zeros_i (szN k) _ (by omega)))))); refine wpQuiet_nil ?_
        rintro w1 ⟨⟨w1', hb1⟩, rfl⟩
        have f0 : ∀ x : Wb w1, x.1.cell? ⟨w.heap.size, 0, none⟩ = some (.string s.data) := fun x => Wb.cell (e0 ⟨w1, hb1⟩) x
        have f1 : ∀ x : Wb w1, x.1.cell? ⟨w.heap.size, 1, none⟩ = some (.int .i64 s.state) := fun x => Wb.cell (e1 ⟨w1, hb1⟩) x
        go_wp2_with (fail)
        refine wp_region_wb (by kernel_rfl) (by kernel_rfl) ?_; (repeat (go_big_quiet_step (first | (go_at_call 51; exact Wb.same (within_i _ _ _ _)) | (go_at_call 102; exact Wb.same (bytes_i k _ hk)) | (go_at_call 129; exact Wb.calls (zeros_i (szN k) _ (by omega)))))); refine wpQuiet_nil ?_
        rintro w2 ⟨⟨w2', hb2⟩, rfl⟩
        have z1 := hb1.size
        go_wp2
        go_ret
        exact ⟨ret_bool HF.out.symm, (B0.trans (hb1.mono (by simp))).trans (hb2.mono (by simp at z1; omega))⟩
      · have HF := Lib.hid (secOk_yes h1 h2 h3)
        clear h2
        go_enter Tryz.func121, Tryz.ntmps121
        go_wp2_with (fail)
        refine wp_region_wb (by kernel_rfl) (by kernel_rfl) ?_; (repeat (go_big_quiet_step (first | (go_at_call 51; exact Wb.same (within_i _ _ _ _)) | (go_at_call 102; exact Wb.same (bytes_i k _ hk)) | (go_at_call 129; exact Wb.calls (zeros_i (szN k) _ (by omega)))))); refine wpQuiet_nil ?_
        rintro w1 ⟨⟨w1', hb1⟩, rfl⟩
        have f0 : ∀ x : Wb w1, x.1.cell? ⟨w.heap.size, 0, none⟩ = some (.string s.data) := fun x => Wb.cell (e0 ⟨w1, hb1⟩) x
        have f1 : ∀ x : Wb w1, x.1.cell? ⟨w.heap.size, 1, none⟩ = some (.int .i64 s.state) := fun x => Wb.cell (e1 ⟨w1, hb1⟩) x
        go_wp2_with (fail)
        refine wp_region_wb (by kernel_rfl) (by kernel_rfl) ?_; (repeat (go_big_quiet_step (first | (go_at_call 51; exact Wb.same (within_i _ _ _ _)) | (go_at_call 102; exact Wb.same (bytes_i k _ hk)) | (go_at_call 129; exact Wb.calls (zeros_i (szN k) _ (by omega)))))); refine wpQuiet_nil ?_
        rintro w2 ⟨⟨w2', hb2⟩, rfl⟩
        have z1 := hb1.size
        go_wp2
        go_ret
        exact ⟨ret_bool HF.out.symm, (B0.trans (hb1.mono (by simp))).trans (hb2.mono (by simp at z1; omega))⟩
    · have d1 : ((s.data.size : Int) != ((szN k : Nat) : Int)) = true := by simp; omega
      have HF := Lib.hid (secOk_no2 h2)
      clear h2
      go_enter Tryz.func121, Tryz.ntmps121
      go_wp2_with (fail)
      refine wp_region_wb (by kernel_rfl) (by kernel_rfl) ?_; (repeat (go_big_quiet_step (first | (go_at_call 51; exact Wb.same (within_i _ _ _ _)) | (go_at_call 102; exact Wb.same (bytes_i k _ hk)) | (go_at_call 129; exact Wb.calls (zeros_i (szN k) _ (by omega)))))); refine wpQuiet_nil ?_
      rintro w1 ⟨⟨w1', hb1⟩, rfl⟩
      go_wp2
      go_ret
      exact ⟨ret_bool HF.out.symm, B0.trans (hb1.mono (by simp))⟩
set_option maxRecDepth 20000 in
set_option maxHeartbeats 2000000 in
theorem sec_s (s : Sec) (n : Nat) (w : World) (hn : n ≤ 64) (hm : s.data.size ≤ maxLen) :
    Calls Tryz.prog 115 #[.agg #[.string s.data, .int .i64 s.state], .int .i64 n] w fun e w' => e = .returned (.bool (secOk s n)) ∧ Below w.heap.size w w' := by
  unfold maxLen at hm
  have e0 : ∀ x : Wb (w.alloc (.cells #[.string s.data, .int .i64 s.state] 70)), x.1.cell? ⟨w.heap.size, 0, none⟩ = some (.string s.data) := fun x => Wb.cell (by simp) x
  have e1 : ∀ x : Wb (w.alloc (.cells #[.string s.data, .int .i64 s.state] 70)), x.1.cell? ⟨w.heap.size, 1, none⟩ = some (.int .i64 s.state) := fun x => Wb.cell (by simp) x
  have B0 : Below w.heap.size w (w.alloc (.cells #[.string s.data, .int .i64 s.state] 70)) := Below.alloc (Below.refl _ _) (Nat.le_refl _) _
  by_cases h2 : s.data.size = n
  · have d1 : ((s.data.size : Int) != (n : Int)) = false := by simp [h2]
    cases h1 : inB s.state 1 4
    · have HF := Lib.hid (secOk_no1 (n := n) h1)
      clear h2
      go_enter Tryz.func115, Tryz.ntmps115
      go_wp2_with (go_at_call 43; refine (in_s _ _ _ _).mono ?_; rintro e w1 ⟨rfl, rfl⟩)
      go_ret
      exact ⟨ret_bool HF.out.symm, B0⟩
    · cases h3 : (s.state != 3)
      · have HF := Lib.hid (secOk_eq h1 h2 h3)
        clear h2
        go_enter Tryz.func115, Tryz.ntmps115
        go_wp2_with (go_at_call 43; refine (in_s _ _ _ _).mono ?_; rintro e w1 ⟨rfl, rfl⟩)
        refine wp_region_wb (by kernel_rfl) (by kernel_rfl) ?_; (repeat (go_big_quiet_step (first | (go_at_call 43; exact Wb.same (in_s _ _ _ _)) | (go_at_call 128; exact Wb.calls (zeros_s n _ (by omega)))))); refine wpQuiet_nil ?_
        rintro w2 ⟨⟨w2', hb2⟩, rfl⟩
        go_wp2
        go_ret
        exact ⟨ret_bool HF.out.symm, B0.trans (hb2.mono (by simp))⟩
      · have HF := Lib.hid (secOk_yes h1 h2 h3)
        clear h2
        go_enter Tryz.func115, Tryz.ntmps115
        go_wp2_with (go_at_call 43; refine (in_s _ _ _ _).mono ?_; rintro e w1 ⟨rfl, rfl⟩)
        refine wp_region_wb (by kernel_rfl) (by kernel_rfl) ?_; (repeat (go_big_quiet_step (first | (go_at_call 43; exact Wb.same (in_s _ _ _ _)) | (go_at_call 128; exact Wb.calls (zeros_s n _ (by omega)))))); refine wpQuiet_nil ?_
        rintro w2 ⟨⟨w2', hb2⟩, rfl⟩
        go_wp2
        go_ret
        exact ⟨ret_bool HF.out.symm, B0.trans (hb2.mono (by simp))⟩
  · have d1 : ((s.data.size : Int) != (n : Int)) = true := by simp; omega
    have HF := Lib.hid (secOk_no2 h2)
    clear h2
    go_enter Tryz.func115, Tryz.ntmps115
    go_wp2_with (go_at_call 43; refine (in_s _ _ _ _).mono ?_; rintro e w1 ⟨rfl, rfl⟩)
    go_ret
    exact ⟨ret_bool HF.out.symm, B0⟩
end Go.Proofs.YtfcdienphillnaaGreat
namespace Go.Proofs.YtfcdienphillnaaGreat
set_option linter.unusedVariables false
set_option linter.unusedSimpArgs false
open Go.RowKit
def discOk (d : Dsc) : Bool := geoB d.cyl d.heads d.per d.size && (((d.secs.length : Int) == d.cyl * d.heads * d.per) && d.secs.all fun s => secOk s (szN d.size))
theorem dk_no1 {d : Dsc} (h : geoB d.cyl d.heads d.per d.size = false) : discOk d = false := by unfold discOk; rw [h, Bool.false_and]
theorem dk_no2 {d : Dsc} (h2 : ((d.secs.length : Int) == d.cyl * d.heads * d.per) = false) : discOk d = false := by unfold discOk; rw [h2, Bool.false_and, Bool.and_false]
theorem dk_yes {d : Dsc} (h : geoB d.cyl d.heads d.per d.size = true) (h2 : ((d.secs.length : Int) == d.cyl * d.heads * d.per) = true) : discOk d = d.secs.all fun s => secOk s (szN d.size) := by unfold discOk; rw [h, h2]; rfl
theorem geo_parts {c h p s : Int} (hg : geoB c h p s = true) : (1 ≤ c ∧ c ≤ 8) ∧ (1 ≤ h ∧ h ≤ 2) ∧ (1 ≤ p ∧ p ≤ 8) ∧ (0 ≤ s ∧ s ≤ 2) := by
  unfold geoB at hg
  simp only [Bool.and_eq_true] at hg
  exact ⟨inB_yes hg.1, inB_yes hg.2.1, inB_yes hg.2.2.1, inB_yes hg.2.2.2⟩
theorem prod_bd {c h p : Int} (h1 : 1 ≤ c ∧ c ≤ 8) (h2 : 1 ≤ h ∧ h ≤ 2) (h3 : 1 ≤ p ∧ p ≤ 8) : (1 ≤ c * h ∧ c * h ≤ 16) ∧ (1 ≤ c * h * p ∧ c * h * p ≤ 128) := by
  rcases (by omega : h = 1 ∨ h = 2) with rfl | rfl
  · have : (c = 1 ∨ c = 2 ∨ c = 3 ∨ c = 4 ∨ c = 5 ∨ c = 6 ∨ c = 7 ∨ c = 8) := by omega
    rcases this with rfl | rfl | rfl | rfl | rfl | rfl | rfl | rfl <;> omega
  · have : (c = 1 ∨ c = 2 ∨ c = 3 ∨ c = 4 ∨ c = 5 ∨ c = 6 ∨ c = 7 ∨ c = 8) := by omega
    rcases this with rfl | rfl | rfl | rfl | rfl | rfl | rfl | rfl <;> omega
theorem da_yes {l : List Sec} {k n : Nat} {s : Sec} {X : Bool} (he : l[k]? = some s) (H : Hid (X = (l.drop k).all fun s => secOk s n)) (h : secOk s n = true) : Hid (X = (l.drop (k + 1)).all fun s => secOk s n) := by
  obtain ⟨hk, rfl⟩ := List.getElem?_eq_some_iff.1 he
  exact Lib.hid (by rw [H.out, List.drop_eq_getElem_cons hk, List.all_cons, h, Bool.true_and])
theorem da_no {l : List Sec} {k n : Nat} {s : Sec} {X : Bool} (he : l[k]? = some s) (H : Hid (X = (l.drop k).all fun s => secOk s n)) (h : secOk s n = false) : X = false := by
  obtain ⟨hk, rfl⟩ := List.getElem?_eq_some_iff.1 he
  rw [H.out, List.drop_eq_getElem_cons hk, List.all_cons, h, Bool.false_and]
theorem da_end {l : List Sec} {k n : Nat} {X : Bool} (hk : l.length ≤ k) (H : Hid (X = (l.drop k).all fun s => secOk s n)) : X = true := by
  rw [H.out, List.drop_of_length_le hk]; rfl
theorem size_sec (A : Option Addr) (n c : Nat) (w : World) (hn : n ≤ 1048576) : Calls Tryz.prog 87 #[.slice A n c] w fun e w' => e = .returned (.int .i64 n) ∧ w = w' := by
  go_enter Tryz.func87, Tryz.ntmps87
  go_wp2
  go_ret
  exact ⟨rfl, rfl⟩
set_option maxRecDepth 20000 in
set_option maxHeartbeats 4000000 in
theorem disc_i (B : Nat) (d : Dsc) (bv : Value) (w : World) (h : SecOwn B w bv d.secs) (hn : d.secs.length ≤ 1048576) (hm : ∀ s ∈ d.secs, s.data.size ≤ maxLen) :
    Calls Tryz.prog 84 #[dscV d bv] w fun e w' => e = .returned (.bool (discOk d)) ∧ Below w.heap.size w w' := by
  obtain ⟨A, c, rfl, hA⟩ := OwnL.shape h
  have hc : ∀ (g : Nat), A = some ⟨g, 0, none⟩ → ∀ (k : Nat) (s : Sec), d.secs[k]? = some s → w.cell? ⟨g, k * 2, none⟩ = some (.string s.data) ∧ w.cell? ⟨g, k * 2 + 1, none⟩ = some (.int .i64 s.state) := fun g hg k s hk => by
    subst hg
    exact ⟨OwnL.cell Sec.len h hk (j := 0) rfl, OwnL.cell Sec.len h hk (j := 1) rfl⟩
  have HC := Lib.hid hc
  clear hc h
  have e0 : ∀ x : Wb (w.alloc (.cells #[.int .i64 d.cyl, .int .i64 d.heads, .int .i64 d.per, .int .i64 d.size, .slice A d.secs.length c] 43)), x.1.cell? ⟨w.heap.size, 0, none⟩ = some (.int .i64 d.cyl) := fun x => Wb.cell (by simp) x
  have e1 : ∀ x : Wb (w.alloc (.cells #[.int .i64 d.cyl, .int .i64 d.heads, .int .i64 d.per, .int .i64 d.size, .slice A d.secs.length c] 43)), x.1.cell? ⟨w.heap.size, 1, none⟩ = some (.int .i64 d.heads) := fun x => Wb.cell (by simp) x
  have e2 : ∀ x : Wb (w.alloc (.cells #[.int .i64 d.cyl, .int .i64 d.heads, .int .i64 d.per, .int .i64 d.size, .slice A d.secs.length c] 43)), x.1.cell? ⟨w.heap.size, 2, none⟩ = some (.int .i64 d.per) := fun x => Wb.cell (by simp) x
  have e3 : ∀ x : Wb (w.alloc (.cells #[.int .i64 d.cyl, .int .i64 d.heads, .int .i64 d.per, .int .i64 d.size, .slice A d.secs.length c] 43)), x.1.cell? ⟨w.heap.size, 3, none⟩ = some (.int .i64 d.size) := fun x => Wb.cell (by simp) x
  have e4 : ∀ x : Wb (w.alloc (.cells #[.int .i64 d.cyl, .int .i64 d.heads, .int .i64 d.per, .int .i64 d.size, .slice A d.secs.length c] 43)), x.1.cell? ⟨w.heap.size, 4, none⟩ = some (.slice A d.secs.length c) := fun x => Wb.cell (by simp) x
  have B0 : Below w.heap.size w (w.alloc (.cells #[.int .i64 d.cyl, .int .i64 d.heads, .int .i64 d.per, .int .i64 d.size, .slice A d.secs.length c] 43)) := Below.alloc (Below.refl _ _) (Nat.le_refl _) _
  cases h1 : geoB d.cyl d.heads d.per d.size
  · have HF := Lib.hid (dk_no1 h1)
    go_enter Tryz.func84, Tryz.ntmps84
    go_wp2_with (fail)
    refine wp_region_wb (by kernel_rfl) (by kernel_rfl) ?_; (repeat (go_big_quiet_step (first | (go_at_call 120; exact Wb.same (geo_i _ _ _ _ _)) | (go_at_call 87; exact Wb.same (size_sec _ _ _ _ (by omega)))))); refine wpQuiet_nil ?_; rintro w1 ⟨⟨w1', hb1⟩, rfl⟩
    go_wp2
    go_ret
    exact ⟨ret_bool HF.out.symm, B0.trans (hb1.mono (by simp))⟩
  · obtain ⟨g1, g2, g3, g4⟩ := geo_parts h1
    obtain ⟨m1, m2⟩ := prod_bd g1 g2 g3
    cases h2 : ((d.secs.length : Int) == d.cyl * d.heads * d.per)
    · have HF := Lib.hid (dk_no2 h2)
      have h2' : ((d.secs.length : Int) != d.cyl * d.heads * d.per) = true := by unfold bne; rw [h2]; rfl
      go_enter Tryz.func84, Tryz.ntmps84
      go_wp2_with (fail)
      refine wp_region_wb (by kernel_rfl) (by kernel_rfl) ?_; (repeat (go_big_quiet_step (first | (go_at_call 120; exact Wb.same (geo_i _ _ _ _ _)) | (go_at_call 87; exact Wb.same (size_sec _ _ _ _ (by omega)))))); refine wpQuiet_nil ?_; rintro w1 ⟨⟨w1', hb1⟩, rfl⟩
      go_wp2
      go_ret
      exact ⟨ret_bool HF.out.symm, B0.trans (hb1.mono (by simp))⟩
    · have HF := Lib.hid (dk_yes h1 h2)
      have h2' : ((d.secs.length : Int) != d.cyl * d.heads * d.per) = false := by unfold bne; rw [h2]; rfl
      go_enter Tryz.func84, Tryz.ntmps84
      go_wp2_with (fail)
      refine wp_region_wb (by kernel_rfl) (by kernel_rfl) ?_; (repeat (go_big_quiet_step (first | (go_at_call 120; exact Wb.same (geo_i _ _ _ _ _)) | (go_at_call 87; exact Wb.same (size_sec _ _ _ _ (by omega)))))); refine wpQuiet_nil ?_; rintro w1 ⟨⟨w1', hb1⟩, rfl⟩
      have p4 : w1.cell? ⟨w.heap.size, 4, none⟩ = some (.slice A d.secs.length c) := e4 ⟨w1, hb1⟩
      have p3 : w1.cell? ⟨w.heap.size, 3, none⟩ = some (.int .i64 d.size) := e3 ⟨w1, hb1⟩
      have z1 : w.heap.size + 1 ≤ w1.heap.size := by have := hb1.size; simpa using this
      have B1 : Below w.heap.size w w1 := B0.trans (hb1.mono (by simp))
      clear e0 e1 e2 e3 e4 h2 h2' h1
      go_wp2
      go_loopw [32] (fun i wr => ∃ k : Nat, k ≤ d.secs.length ∧ i = .int .i64 k ∧ Below w1.heap.size w1 wr ∧ Hid (discOk d = (d.secs.drop k).all fun s => secOk s (szN d.size))) (fun i _ => d.secs.length - (intOf i).toNat)
      case atStart => exact ⟨0, by omega, rfl, Below.refl _ _, HF⟩
      case round =>
        obtain ⟨k, hk, rfl, hb, HK⟩ := hrel
        have zr := hb.size
        have BR : Below w.heap.size w wr := B1.trans (hb.mono (by omega))
        by_cases hlt : k < d.secs.length
        · obtain ⟨s, hs⟩ : ∃ s, d.secs[k]? = some s := ⟨d.secs[k], List.getElem?_eq_getElem hlt⟩
          obtain ⟨g, rfl, _, hg⟩ := hA.resolve_left (by intro h0; rw [h0] at hlt; simp at hlt)
          obtain ⟨c0, c1⟩ := HC.out g rfl k s hs
          have q0 := (BR.cell (p := ⟨g, _, none⟩) hg).trans c0
          have q1 := (BR.cell (p := ⟨g, _, none⟩) hg).trans c1
          have q3 := (hb.cell (p := ⟨w.heap.size, 3, none⟩) (by show w.heap.size < _; omega)).trans p3
          have q3' : ∀ o : Obj, (wr.alloc o).cell? ⟨w.heap.size, 3, none⟩ = some (.int .i64 d.size) := fun o => (World.cell?_alloc_old _ _ _ (by show w.heap.size ≠ _; omega)).trans q3
          have hms := hm s (List.mem_of_getElem? hs)
          have HS := Lib.hid hs
          clear c0 c1 hs
          cases h5 : secOk s (szN d.size)
          · have HN := da_no HS.out HK h5
            go_wp2_with (go_at_call 121; refine (sec_i s d.size _ g4 hms).mono ?_; rw [h5]; rintro e w2 ⟨rfl, hb2⟩)
            go_ret
            exact ⟨ret_bool HN.symm, (by repeat (first | exact Below.refl _ _ | refine Below.alloc ?_ (by first | omega | (simp; done) | (simp; omega)) _ | apply Below.drew | apply below_drewN | refine Below.setCell ?_ (by first | omega | (simp; done) | (simp; omega)) _ | refine Below.trans ?_ (Below.mono (by assumption) (by first | omega | (simp; done) | (simp; omega)))))⟩
          · have HN := da_yes HS.out HK h5
            go_wp2_with (go_at_call 121; refine (sec_i s d.size _ g4 hms).mono ?_; rw [h5]; rintro e w2 ⟨rfl, hb2⟩)
            go_roundw
            case rel => exact ⟨k + 1, by omega, by go_num, (Below.alloc hb zr _).trans (hb2.mono (by simp; omega)), HN⟩
            case measure => simp [intOf]; omega
        · go_wp2
          go_ret
          exact ⟨ret_bool (da_end (by omega) HK).symm, BR⟩
end Go.Proofs.YtfcdienphillnaaGreat
namespace Go.Proofs.YtfcdienphillnaaGreat
set_option linter.unusedVariables false
set_option linter.unusedSimpArgs false
open Go.RowKit
end Go.Proofs.YtfcdienphillnaaGreat
namespace Go.Proofs.YtfcdienphillnaaGreat
set_option linter.unusedVariables false
set_option linter.unusedSimpArgs false
open Go.RowKit
/-- the kind of the first source of a sector, 0 if there is none -/
def kinN (x : Int) : List Src → Int
  | [] => 0
  | s :: r => if s.sector == x then s.kind else kinN x r
def uncB (l : List Src) (s : Sec) (k : Nat) : Bool := s.state != 3 && kinN k l == 0
def uncN (l : List Src) : Nat → List Sec → List Int
  | _, [] => []
  | k, s :: r => if uncB l s k then (k : Int) :: uncN l (k + 1) r else uncN l (k + 1) r
def uncE (d : Dsc) (l : List Src) : List Int × Int := if discOk d && certOk l then (uncN l 0 d.secs, 0) else ([], 1)
end Go.Proofs.YtfcdienphillnaaGreat
