/- Plain: texts of shapes and things are words; two that are ok are one just if their texts are. -/
import Derived.Test.YtfbhjknkofnohaaDoorPw
import Derived.Test.YtfbhjknkofnohaaDoorTy
namespace Go.Proofs.YtfbhjknkofnohaaDoor
open Go.RowKit
set_option linter.unusedVariables false
set_option linter.unusedSimpArgs false
abbrev bts (s : ByteArray) : List UInt8 := s.data.toList
theorem bts_inj {a b : ByteArray} (h : bts a = bts b) : a = b := by
  apply ByteArray.ext
  exact Array.toList_inj.1 h
theorem bts_app (a b : ByteArray) : bts (a ++ b) = bts a ++ bts b := by simp [bts]
theorem join_flat (c : UInt8) : ∀ (w : List UInt8) (ws : List (List UInt8)), joinL c (w :: ws) = w ++ (ws.map (c :: ·)).flatten
  | w, [] => by simp [joinL]
  | w, v :: r => by
    show w ++ c :: joinL c (v :: r) = _
    rw [join_flat c v r]
    simp
/-- The word of a point. -/
def ptW (p : Pt) : List UInt8 := Lib.itoa p.1 ++ 44 :: Lib.itoa p.2
theorem ptText_w (p : Pt) : bts (ptText p) = 32 :: ptW p := by
  unfold ptText ptW dec
  simp [bts]
theorem shText_flat (l : List Pt) (o : ByteArray) : bts (l.foldl (fun o p => o ++ ptText p) o) = bts o ++ ((l.map ptW).map (32 :: ·)).flatten := by
  induction l generalizing o with
  | nil => simp
  | cons p l ih =>
    simp only [List.foldl_cons]
    rw [ih, bts_app, ptText_w]
    simp
theorem shText_words (K : Int) (l : List Pt) : bts (shText K l) = joinL 32 (bts (kindW K) :: l.map ptW) := by
  unfold shText
  rw [shText_flat, join_flat]
/-- The word of a tag. -/
def tagW (t : Tag) : List UInt8 := bts t.1 ++ 61 :: bts t.2
theorem tagText_w (t : Tag) : bts (tagText t) = 32 :: tagW t := by
  unfold tagText tagW
  simp [bts]
theorem tagsT_flat (l : List Tag) (o : ByteArray) : bts (tagsT o l) = bts o ++ ((l.map tagW).map (32 :: ·)).flatten := by
  unfold tagsT
  induction l generalizing o with
  | nil => simp
  | cons p l ih =>
    simp only [List.foldl_cons]
    rw [ih, bts_app, tagText_w]
    simp
/-- The words of a thing's text. -/
def wordsF (f : FeatD) : List (List UInt8) := bts f.1 :: bts (kindW f.2.1.1) :: (f.2.1.2.map ptW ++ f.2.2.map tagW)
theorem fullT_words (f : FeatD) : bts (fullT f) = joinL 32 (wordsF f) := by
  unfold fullT headT wordsF
  rw [tagsT_flat, bts_app, bts_app, shText_words, join_flat, join_flat]
  have : bts (⟨#[32]⟩ : ByteArray) = [32] := rfl
  rw [this]
  simp
theorem num_32 {n : Int} {x : UInt8} (h : x ∈ Lib.itoa n) : x ≠ 32 ∧ x ≠ 44 ∧ x ≠ 61 := by
  have := dec_mem h
  refine ⟨?_, ?_, ?_⟩ <;> (rintro rfl; simp at this)
theorem ptW_no {p : Pt} {c : UInt8} (h : c ∈ ptW p) : c ≠ 32 ∧ c ≠ 61 := by
  unfold ptW at h
  rcases List.mem_append.1 h with h | h
  · exact ⟨(num_32 h).1, (num_32 h).2.2⟩
  · rcases List.mem_cons.1 h with rfl | h
    · exact ⟨by decide, by decide⟩
    · exact ⟨(num_32 h).1, (num_32 h).2.2⟩
theorem ptW_inj {p q : Pt} (h : ptW p = ptW q) : p = q := by
  have h1 := join_inj (c := 44) (ws := [Lib.itoa p.1, Lib.itoa p.2]) (vs := [Lib.itoa q.1, Lib.itoa q.2]) (by simp) (by simp)
    (by intro w hw hc; simp at hw; rcases hw with rfl | rfl <;> exact (num_32 hc).2.1 rfl) (by intro w hw hc; simp at hw; rcases hw with rfl | rfl <;> exact (num_32 hc).2.1 rfl) h
  simp only [List.cons.injEq, and_true] at h1
  exact Prod.ext (itoa_inj h1.1) (itoa_inj h1.2)
theorem kindW_32 {K : Int} (h : K = 1 ∨ K = 2 ∨ K = 3) : (32 : UInt8) ∉ bts (kindW K) ∧ (61 : UInt8) ∉ bts (kindW K) := by
  rcases h with rfl | rfl | rfl <;> exact ⟨by decide, by decide⟩
theorem kindW_inj {K L : Int} (h : K = 1 ∨ K = 2 ∨ K = 3) (h2 : L = 1 ∨ L = 2 ∨ L = 3) (e : bts (kindW K) = bts (kindW L)) : K = L := by
  rcases h with rfl | rfl | rfl <;> rcases h2 with rfl | rfl | rfl <;> first | rfl | (exfalso; revert e; decide)
theorem map_inj {α β : Type} {f : α → β} (hf : ∀ x y, f x = f y → x = y) : ∀ {l m : List α}, l.map f = m.map f → l = m
  | [], [], _ => rfl
  | [], _ :: _, h => by simp at h
  | _ :: _, [], h => by simp at h
  | x :: l, y :: m, h => by
    simp only [List.map_cons, List.cons.injEq] at h
    rw [hf x y h.1, map_inj hf h.2]
theorem shText_inj {K L : Int} {l m : List Pt} (h : ShapeOk K l) (h2 : ShapeOk L m) (e : shText K l = shText L m) : K = L ∧ l = m := by
  have e1 := congrArg bts e
  rw [shText_words, shText_words] at e1
  have key : ∀ {K : Int} {l : List Pt}, ShapeOk K l → ∀ w ∈ bts (kindW K) :: l.map ptW, (32 : UInt8) ∉ w := fun h w hw => by
    rcases List.mem_cons.1 hw with rfl | hw
    · exact (kindW_32 h.kind).1
    · obtain ⟨p, _, rfl⟩ := List.mem_map.1 hw
      exact fun hc => (ptW_no hc).1 rfl
  have e2 := join_inj (by simp) (by simp) (key h) (key h2) e1
  simp only [List.cons.injEq] at e2
  exact ⟨kindW_inj h.kind h2.kind e2.1, map_inj (fun _ _ => ptW_inj) e2.2⟩
theorem word_no {s : ByteArray} (h : WordOk s) {c : UInt8} (hc : c ∈ bts s) : 97 ≤ c.toNat ∧ c.toNat ≤ 122 := by
  obtain ⟨i, hi, e⟩ := List.getElem_of_mem hc
  have hi2 : i < s.size := by show i < s.data.size; rw [← Array.length_toList]; exact hi
  have h1 := h.2 i hi2 hi2
  have e2 : s[i] = c := by rw [← e]; rfl
  rw [e2] at h1
  omega
theorem tagW_32 {t : Tag} (h1 : WordOk t.1) (h2 : WordOk t.2) : (32 : UInt8) ∉ tagW t := fun hc => by
  unfold tagW at hc
  rcases List.mem_append.1 hc with h | h
  · have := word_no h1 h; simp at this
  · rcases List.mem_cons.1 h with h | h
    · simp at h
    · have := word_no h2 h; simp at this
theorem tagW_61 (t : Tag) : (61 : UInt8) ∈ tagW t := by unfold tagW; simp
theorem tagW_inj {s t : Tag} (h1 : WordOk s.1 ∧ WordOk s.2) (h2 : WordOk t.1 ∧ WordOk t.2) (e : tagW s = tagW t) : s = t := by
  have no : ∀ {s : ByteArray}, WordOk s → (61 : UInt8) ∉ bts s := fun h hc => by have := word_no h hc; simp at this
  have e1 := join_inj (c := 61) (ws := [bts s.1, bts s.2]) (vs := [bts t.1, bts t.2]) (by simp) (by simp)
    (by intro w hw; simp at hw; rcases hw with rfl | rfl; exact no h1.1; exact no h1.2) (by intro w hw; simp at hw; rcases hw with rfl | rfl; exact no h2.1; exact no h2.2) e
  simp only [List.cons.injEq, and_true] at e1
  exact Prod.ext (bts_inj e1.1) (bts_inj e1.2)
theorem mapT_inj : ∀ {l m : List Tag}, (∀ t ∈ l, WordOk t.1 ∧ WordOk t.2) → (∀ t ∈ m, WordOk t.1 ∧ WordOk t.2) → l.map tagW = m.map tagW → l = m
  | [], [], _, _, _ => rfl
  | [], _ :: _, _, _, h => by simp at h
  | _ :: _, [], _, _, h => by simp at h
  | x :: l, y :: m, hl, hm, h => by
    simp only [List.map_cons, List.cons.injEq] at h
    rw [tagW_inj (hl x List.mem_cons_self) (hm y List.mem_cons_self) h.1, mapT_inj (fun t ht => hl t (List.mem_cons_of_mem _ ht)) (fun t ht => hm t (List.mem_cons_of_mem _ ht)) h.2]
theorem FeatOk.words {f : FeatD} (h : FeatOk f) : ∀ t ∈ f.2.2, WordOk t.1 ∧ WordOk t.2 := fun t ht => by
  obtain ⟨i, hi, rfl⟩ := List.getElem_of_mem ht
  have := h.2.2.1 i hi hi
  exact ⟨this.1, this.2.1⟩
theorem wordsF_32 {f : FeatD} (h : FeatOk f) : ∀ w ∈ wordsF f, (32 : UInt8) ∉ w := fun w hw => by
  unfold wordsF at hw
  rcases List.mem_cons.1 hw with rfl | hw
  · exact fun hc => by have := word_no h.1 hc; simp at this
  · rcases List.mem_cons.1 hw with rfl | hw
    · exact (kindW_32 h.2.1.kind).1
    · rcases List.mem_append.1 hw with hw | hw
      · obtain ⟨p, _, rfl⟩ := List.mem_map.1 hw
        exact fun hc => (ptW_no hc).1 rfl
      · obtain ⟨t, ht, rfl⟩ := List.mem_map.1 hw
        exact tagW_32 (h.words t ht).1 (h.words t ht).2
theorem filt_61 (l : List Pt) (m : List Tag) : (l.map ptW ++ m.map tagW).filter (fun w => decide ((61 : UInt8) ∈ w)) = m.map tagW ∧ (l.map ptW ++ m.map tagW).filter (fun w => !decide ((61 : UInt8) ∈ w)) = l.map ptW := by
  have a1 : ∀ w ∈ l.map ptW, (61 : UInt8) ∉ w := fun w hw => by
    obtain ⟨p, _, rfl⟩ := List.mem_map.1 hw
    exact fun hc => (ptW_no hc).2 rfl
  have a2 : ∀ w ∈ m.map tagW, (61 : UInt8) ∈ w := fun w hw => by
    obtain ⟨p, _, rfl⟩ := List.mem_map.1 hw
    exact tagW_61 p
  constructor
  · rw [List.filter_append, List.filter_eq_nil_iff.2 (fun w hw => by simp [a1 w hw]), List.filter_eq_self.2 (fun w hw => by simp [a2 w hw]), List.nil_append]
  · rw [List.filter_append, List.filter_eq_self.2 (fun w hw => by simp [a1 w hw]), List.filter_eq_nil_iff.2 (fun w hw => by simp [a2 w hw]), List.append_nil]
theorem fullT_inj {f g : FeatD} (h : FeatOk f) (h2 : FeatOk g) (e : fullT f = fullT g) : f = g := by
  have e1 := congrArg bts e
  rw [fullT_words, fullT_words] at e1
  have e2 := join_inj (by simp [wordsF]) (by simp [wordsF]) (wordsF_32 h) (wordsF_32 h2) e1
  unfold wordsF at e2
  simp only [List.cons.injEq] at e2
  have t1 := (filt_61 f.2.1.2 f.2.2).1
  have t2 := (filt_61 f.2.1.2 f.2.2).2
  rw [e2.2.2] at t1 t2
  rw [(filt_61 g.2.1.2 g.2.2).1] at t1
  rw [(filt_61 g.2.1.2 g.2.2).2] at t2
  obtain ⟨id, ⟨K, l⟩, m⟩ := f
  obtain ⟨id2, ⟨K2, l2⟩, m2⟩ := g
  have x1 := bts_inj e2.1
  have x2 := kindW_inj h.2.1.kind h2.2.1.kind e2.2.1
  have x3 : l2 = l := map_inj (fun _ _ => ptW_inj) t2
  have x4 : m2 = m := mapT_inj h2.words h.words t1
  simp only at x1 x2
  rw [x1, x2, x3, x4]
theorem featT_iff {f g : FeatD} (h : FeatOk f) (h2 : FeatOk g) : featT f = featT g ↔ f = g := by
  have x1 : featT f = fullT f := if_pos h
  have x2 : featT g = fullT g := if_pos h2
  rw [x1, x2]
  exact ⟨fullT_inj h h2, fun e => by rw [e]⟩
theorem shapeT_iff {K L : Int} {l m : List Pt} (h : ShapeOk K l) (h2 : ShapeOk L m) : shapeT K l = shapeT L m ↔ (K, l) = (L, m) := by
  have x1 : shapeT K l = shText K l := if_pos h
  have x2 : shapeT L m = shText L m := if_pos h2
  rw [x1, x2]
  exact ⟨fun e => by obtain ⟨rfl, rfl⟩ := shText_inj h h2 e; rfl, fun e => by cases e; rfl⟩
end Go.Proofs.YtfbhjknkofnohaaDoor
