/- Plain: maps: what is cut and put. -/
import Derived.Test.YtgdgnlpohnpgiaaGreatDoorPg
import Derived.Test.YtgdgnlpohnpgiaaGreatDoorSl
namespace Go.Proofs.YtgdgnlpohnpgiaaGreatDoor
theorem featsUp_kup {l : List FeatD} (h : FeatsUp l) : KUp l := kup (fun i hi h0 => h.up i hi h0)
theorem featsUp_of {l : List FeatD} (h : KUp l) (hw : ∀ f ∈ l, FeatOk f) : FeatsUp l := fun i hi hl =>
  ⟨hw _ (List.getElem_mem hl), fun h0 => List.pairwise_iff_getElem.1 h (i - 1) i (by omega) hl (by omega)⟩
theorem featsUp_ok {l : List FeatD} (h : FeatsUp l) : ∀ f ∈ l, FeatOk f := fun f hf => by
  obtain ⟨i, hi, rfl⟩ := List.getElem_of_mem hf
  exact (h i hi hi).1
theorem sheetOk_cut {l : List FeatD} (h : SheetOk l) (id : ByteArray) : SheetOk (cutK l id) :=
  ⟨featsUp_of ((featsUp_kup h.1).cut id) (fun f hf => featsUp_ok h.1 f (List.mem_filter.1 hf).1), Nat.le_trans (cutK_le _ _) h.2⟩
theorem sheetOk_put {l : List FeatD} {f : FeatD} (h : SheetOk l) (hf : FeatOk f) (h8 : (putK l f).length ≤ 8) : SheetOk (putK l f) :=
  ⟨featsUp_of ((featsUp_kup h.1).put f) (fun g hg => by
    rcases putK_mem hg with rfl | hg
    · exact hf
    · exact featsUp_ok h.1 g hg), h8⟩
theorem sget_no {l : List FeatD} {id : ByteArray} (h : look l id = none) : sget l id = (feat0, false) := by
  rw [look_none] at h
  unfold sget
  rw [h]
  split <;> rfl
theorem sget_look {l : List FeatD} {id : ByteArray} {v : (Int × List Pt) × List Tag} (ho : SheetOk l) (h : look l id = some v) : sget l id = ((id, v), true) := by
  have h1 : atK l id ≠ none := fun e => by rw [look_none.2 e] at h; cases h
  obtain ⟨k, hk⟩ := Option.ne_none_iff_exists'.1 h1
  obtain ⟨hl, he, _⟩ := atK_is hk
  rw [look_some hk hl] at h
  injection h with h
  unfold sget
  rw [if_pos ho, hk]
  simp only [List.getD_eq_getElem?_getD, List.getElem?_eq_getElem hl, Option.getD_some]
  rw [← he, ← h]
theorem sput_yes {l : List FeatD} {f : FeatD} (h : SheetOk l) (hf : FeatOk f) (h8 : (putK l f).length ≤ 8) : sput l f = (putK l f, true) := if_pos ⟨h, hf, h8⟩
theorem scut_yes {l : List FeatD} {id : ByteArray} (h : SheetOk l) (hl : look l id ≠ none) : scut l id = (cutK l id, true) := if_pos ⟨h, fun e => hl (look_none.2 e)⟩
theorem look_in {l : List FeatD} {id : ByteArray} {v : (Int × List Pt) × List Tag} (h : look l id = some v) : (id, v) ∈ l := by
  have h1 : atK l id ≠ none := fun e => by rw [look_none.2 e] at h; cases h
  obtain ⟨k, hk⟩ := Option.ne_none_iff_exists'.1 h1
  obtain ⟨hl, he, _⟩ := atK_is hk
  rw [look_some hk hl] at h
  injection h with h
  have := List.getElem_mem hl
  rwa [show l[k] = (id, v) from by rw [← he, ← h]] at this
theorem cutS_cases (l : List FeatD) (id : ByteArray) : (scut l id = ([], false) ∧ sget l id = (feat0, false)) ∨ (∃ f, f ∈ l ∧ SheetOk l ∧ scut l id = (cutK l id, true) ∧ sget l id = (f, true) ∧ (cutK l id).length + 1 = l.length ∧ SheetOk (cutK l id) ∧ sget (cutK l id) id = (feat0, false) ∧ sput (cutK l id) f = (l, true)) := by
  by_cases h : SheetOk l
  · cases hl : look l id with
    | none => exact .inl ⟨if_neg (fun q => q.2 (look_none.1 hl)), sget_no hl⟩
    | some v =>
      have hu := featsUp_kup h.1
      have hb := cut_put hu hl
      have hm := look_in hl
      refine .inr ⟨(id, v), hm, h, scut_yes h (by rw [hl]; exact fun e => by cases e), sget_look h hl, cut_len hu hl, sheetOk_cut h id, sget_no (by rw [look_cut, if_pos rfl]), ?_⟩
      rw [sput_yes (sheetOk_cut h id) (featsUp_ok h.1 _ hm) (by rw [hb]; exact h.2), hb]
  · exact .inl ⟨if_neg (fun q => h q.1), if_neg h⟩
theorem putS_cases (l : List FeatD) (f : FeatD) : (sput l f = ([], false)) ∨ (SheetOk l ∧ FeatOk f ∧ (putK l f).length ≤ 8 ∧ sput l f = (putK l f, true)) := by
  by_cases h : SheetOk l ∧ FeatOk f ∧ (putK l f).length ≤ 8
  · exact .inr ⟨h.1, h.2.1, h.2.2, sput_yes h.1 h.2.1 h.2.2⟩
  · exact .inl (if_neg h)
theorem sput_ftx {l : List FeatD} {f : FeatD} (h : ∀ g ∈ l, FTx g) (hf : FTx f) : ∀ g ∈ (sput l f).1, FTx g := fun g hg => by
  rcases putS_cases l f with e | ⟨_, _, _, e⟩ <;> rw [e] at hg
  · cases hg
  · rcases putK_mem hg with rfl | hg
    · exact hf
    · exact h g hg
theorem sput_len {l : List FeatD} {f : FeatD} : (sput l f).1.length ≤ 8 := by
  rcases putS_cases l f with e | ⟨_, _, h, e⟩ <;> rw [e]
  · exact Nat.zero_le _
  · exact h
theorem few_of {l : List FeatD} (h : ∀ f ∈ l, FTx f) (hn : l.length ≤ 1048576) : Few l := ⟨hn, fun f hf => ⟨(h f hf).pts, (h f hf).tags⟩⟩
theorem sput_same {l : List FeatD} {f g : FeatD} (ho : SheetOk l) (hf : FeatOk f) (h8 : (putK l f).length ≤ 8) (he : f.1 = g.1) : sput (putK l f) g = sput l g := by
  have e := put_put (featsUp_kup ho.1) he
  unfold sput
  rw [e]
  have h1 := sheetOk_put ho hf h8
  by_cases h : FeatOk g ∧ (putK l g).length ≤ 8
  · rw [if_pos ⟨h1, h⟩, if_pos ⟨ho, h⟩]
  · rw [if_neg (fun q => h q.2), if_neg (fun q => h q.2)]
theorem sput_comm {l : List FeatD} {f g : FeatD} (ho : SheetOk l) (hf : FeatOk f) (h8 : (putK l f).length ≤ 8) (hne : f.1 ≠ g.1) (hg : FeatOk g) (h82 : (putK (putK l f) g).length ≤ 8) :
    sput l g = (putK l g, true) ∧ sput (putK l g) f = (putK (putK l f) g, true) := by
  have hu := featsUp_kup ho.1
  have e := put_two hu hne
  have h1 := put_len (hu.put f) (x := g)
  have h2 := put_len hu (x := g)
  have h3 := put_len hu (x := f)
  rw [look_put hu, if_neg (show ¬ g.1 = f.1 from fun q => hne q.symm)] at h1
  have h9 : (putK l g).length ≤ 8 := by
    have h4 : l.length ≤ (putK l f).length := by rw [h3]; split <;> omega
    rw [h2]
    rw [h1] at h82
    split at h82 <;> rename_i q
    · rw [if_pos q]; omega
    · rw [if_neg q]; omega
  refine ⟨sput_yes ho hg h9, ?_⟩
  rw [e] at h82 ⊢
  exact sput_yes (sheetOk_put ho hg h9) hf h82
theorem put_facts {l : List FeatD} {f : FeatD} (ho : SheetOk l) (hf : FeatOk f) (h8 : (putK l f).length ≤ 8) : SheetOk (putK l f) ∧ sget (putK l f) f.1 = (f, true) ∧ (∀ i, (hi : i < l.length) → l[i].1 ≠ f.1 → sget (putK l f) l[i].1 = (l[i], true)) ∧ scut (putK l f) f.1 = (cutK (putK l f) f.1, true) ∧
    ((∃ o, o ∈ l ∧ sget l f.1 = (o, true) ∧ sput (putK l f) o = (l, true)) ∨ (sget l f.1 = (feat0, false) ∧ cutK (putK l f) f.1 = l)) := by
  have hu := featsUp_kup ho.1
  have hp := sheetOk_put ho hf h8
  have hl : look (putK l f) f.1 = some f.2 := by rw [look_put hu, if_pos rfl]
  refine ⟨hp, sget_look hp hl, fun i hi hne => ?_, scut_yes hp (by rw [hl]; exact fun e => by cases e), ?_⟩
  · have h1 : look (putK l f) l[i].1 = some l[i].2 := by rw [look_put hu, if_neg hne, look_mem hu (List.getElem_mem hi)]
    exact sget_look hp h1
  · cases hk : look l f.1 with
    | none => exact .inr ⟨sget_no hk, put_cut hu hk⟩
    | some v =>
      have hm := look_in hk
      have hb := put_back hu hk
      refine .inl ⟨(f.1, v), hm, sget_look ho hk, ?_⟩
      rw [sput_yes hp (featsUp_ok ho.1 _ hm) (by rw [hb]; exact ho.2), hb]
end Go.Proofs.YtgdgnlpohnpgiaaGreatDoor
