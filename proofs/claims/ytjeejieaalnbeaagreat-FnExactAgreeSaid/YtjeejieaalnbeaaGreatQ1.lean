/- Part Q1 of the proof: What a walk does, written once: theorems that give back what they are given the way from the one to the other is their last argument, with the walks tactics as its default proof. / How the helpers of a law over plain data are walked, each way once. / One way of a walk more regions with stores in no order, one step at a time, written once: theorems that give back what they are given the way from the one to the other is their last argument, with the walks tactics as its default proof. / One way of -/
import Derived.Test.YtjeejieaalnbeaaGreatK2
import Derived.Test.YtjeejieaalnbeaaGreatS4
import Derived.Test.YtjeejieaalnbeaaGreatK1
set_option linter.all false
/- What a walk does, written once: theorems that give back what they are given; the way from the one to the other is their last argument, with the walk's tactics as its default proof. -/
namespace Go.Gv
open Go.Av
abbrev nN (l:List Nat):Hint:=⟨fun _ _=>false,fun _ _=>false,l⟩
section
variable {G H:Prop} {α:Type} {β:α->Prop} {J:∀a:α,β a->Prop}
theorem qC (h:H) (t:H->G:=by
 intro hZ
 try cbv
 try simp only[hseg]
 exact hZ):G:=t h
theorem qQ (h:H) (t:H->G:=by
 intro hZ
 first|(with_reducible refine nxId ?_;(conv=>whnf);(first|(with_reducible refine atId ?_)|(with_reducible refine FinAt.mk ?_;cbv;try simp only[hseg])|(cbv;try simp only[hseg])))|(cbv;try simp only[hseg])
 exact hZ):G:=t h
theorem qU (h:H) (t:H->G:=by
 intro hZ
 first|(with_reducible refine atId ?_)|(with_reducible refine nxId ?_;(conv=>whnf);(first|(with_reducible refine atId ?_)|(with_reducible refine FinAt.mk ?_;cbv;try simp only[hseg])|(cbv;try simp only[hseg])))|(try cbv;try simp only[hseg])
 exact hZ):G:=t h
theorem qG (h:H) (t:H->G:=by
 intro hZ;refine GCall.by (nN []) ?_
 try cbv
 try simp only[hseg]
 exact hZ):G:=t h
theorem qW0 (h:∀a b,J a b) (t:(∀a b,J a b)->G:=by
 intro hZ;have K:=0;have hK:=True.intro;intro K hK
 first|(with_reducible refine atId ?_)|(with_reducible refine nxId ?_;(conv=>whnf);(first|(with_reducible refine atId ?_)|(with_reducible refine FinAt.mk ?_;cbv;try simp only[hseg])|(cbv;try simp only[hseg])))|(try cbv;try simp only[hseg])
 repeat' (first
  |(with_reducible refine hK _ ?_;clear hK K);(conv=>whnf);(first|(with_reducible refine atId ?_)|(with_reducible refine FinAt.mk ?_;cbv;try simp only[hseg])|(cbv;try simp only[hseg]))
  |(with_reducible first|(refine aR (base:=0) ?_;intro K hK)|apply fork_t|apply fork_f);cbv;try simp only[hseg]
  |(with_reducible first|apply ndN|refine ndC True.intro ?_);try cbv
  |(with_reducible refine nT ?h ?_);(case h=>rfl);(conv=>whnf);(first|(with_reducible refine atId ?_)|(with_reducible refine FinAt.mk ?_;cbv;try simp only[hseg])|(cbv;try simp only[hseg]))
  |(with_reducible refine nF ?h ?_);(case h=>rfl);(conv=>whnf);(first|(with_reducible refine atId ?_)|(with_reducible refine FinAt.mk ?_;cbv;try simp only[hseg])|(cbv;try simp only[hseg]))
  |(with_reducible refine aD (base:=0) hM ?h ?_);(case h=>rfl);intro K hK;cbv;try simp only[hseg]
  |(with_reducible refine ndC ?h ?_);(case h=>first|with_reducible rfl|exact nn_ok hO (by decide))
  |fail)
 exact hZ K hK):G:=t h
theorem qV0 (h:∀a b,J a b) (t:(∀a b,J a b)->G:=by
 intro hZ;have K:=0;have hK:=True.intro;intro K hK
 repeat1' (first
  |(with_reducible refine hK _ ?_;clear hK K);(conv=>whnf);(first|(with_reducible refine atId ?_)|(with_reducible refine FinAt.mk ?_;cbv;try simp only[hseg])|(cbv;try simp only[hseg]))
  |(with_reducible refine aR (base:=0) ?_;intro K hK);cbv;try simp only[hseg]
  |(with_reducible first|apply ndN|refine ndC True.intro ?_);try cbv
  |(with_reducible refine aD (base:=0) hM ?h ?_);(case h=>rfl);intro K hK;cbv;try simp only[hseg]
  |(with_reducible refine ndC ?h ?_);(case h=>first|with_reducible rfl|exact nn_ok hO (by decide))
  |(with_reducible refine nG ?_);(conv=>whnf)
  |(with_reducible first|apply fork_t|apply fork_f);(first|((with_reducible refine nxId ?_);(conv=>whnf);(first|(with_reducible refine atId ?_)|(with_reducible refine FinAt.mk ?_;cbv;try simp only[hseg])|(cbv;try simp only[hseg])))|(cbv;try simp only[hseg]))
  |(with_reducible first|refine fork_kt (by assumption) ?_|refine fork_kf (by assumption) ?_);(first|((with_reducible refine nxId ?_);(conv=>whnf);(first|(with_reducible refine atId ?_)|(with_reducible refine FinAt.mk ?_;cbv;try simp only[hseg])|(cbv;try simp only[hseg])))|(cbv;try simp only[hseg]))
  |fail)
 exact hZ K hK):G:=t h
theorem qS0 (h:∀a b,J a b) (t:(∀a b,J a b)->G:=by
 intro hZ;have K:=0;have hK:=True.intro;intro K hK
 first
  |(with_reducible refine hK _ ?_;clear hK K);(conv=>whnf);(first|(with_reducible refine atId ?_)|(with_reducible refine FinAt.mk ?_;cbv;try simp only[hseg])|(cbv;try simp only[hseg]))
  |(with_reducible refine aR (base:=0) ?_;intro K hK);cbv;try simp only[hseg]
  |(with_reducible first|apply ndN|refine ndC True.intro ?_);try cbv
  |(with_reducible refine aD (base:=0) hM ?h ?_);(case h=>rfl);intro K hK;cbv;try simp only[hseg]
  |(with_reducible refine ndC ?h ?_);(case h=>first|with_reducible rfl|exact nn_ok hO (by decide))
  |(with_reducible refine nG ?_);(conv=>whnf)
  |(with_reducible first|apply fork_t|apply fork_f);(first|((with_reducible refine nxId ?_);(conv=>whnf);(first|(with_reducible refine atId ?_)|(with_reducible refine FinAt.mk ?_;cbv;try simp only[hseg])|(cbv;try simp only[hseg])))|(cbv;try simp only[hseg]))
  |(with_reducible first|refine fork_kt (by assumption) ?_|refine fork_kf (by assumption) ?_);(first|((with_reducible refine nxId ?_);(conv=>whnf);(first|(with_reducible refine atId ?_)|(with_reducible refine FinAt.mk ?_;cbv;try simp only[hseg])|(cbv;try simp only[hseg])))|(cbv;try simp only[hseg]))
 exact hZ K hK):G:=t h
theorem qW1 (h:∀a b,J a b) (t:(∀a b,J a b)->G:=by
 intro hZ;have K:=0;have hK:=True.intro;intro K hK
 first|(with_reducible refine atId ?_)|(with_reducible refine nxId ?_;(conv=>whnf);(first|(with_reducible refine atId ?_)|(with_reducible refine FinAt.mk ?_;cbv;try simp only[hseg])|(cbv;try simp only[hseg])))|(try cbv;try simp only[hseg])
 repeat' (first
  |(with_reducible refine hK _ ?_;clear hK K);(conv=>whnf);(first|(with_reducible refine atId ?_)|(with_reducible refine FinAt.mk ?_;cbv;try simp only[hseg])|(cbv;try simp only[hseg]))
  |(with_reducible first|(refine aR (base:=1) ?_;intro K hK)|apply fork_t|apply fork_f);cbv;try simp only[hseg]
  |(with_reducible first|apply ndN|refine ndC True.intro ?_);try cbv
  |(with_reducible refine nT ?h ?_);(case h=>rfl);(conv=>whnf);(first|(with_reducible refine atId ?_)|(with_reducible refine FinAt.mk ?_;cbv;try simp only[hseg])|(cbv;try simp only[hseg]))
  |(with_reducible refine nF ?h ?_);(case h=>rfl);(conv=>whnf);(first|(with_reducible refine atId ?_)|(with_reducible refine FinAt.mk ?_;cbv;try simp only[hseg])|(cbv;try simp only[hseg]))
  |(with_reducible refine aD (base:=1) hM ?h ?_);(case h=>rfl);intro K hK;cbv;try simp only[hseg]
  |(with_reducible refine ndC ?h ?_);(case h=>first|with_reducible rfl|exact nn_ok hO (by decide))
  |fail)
 exact hZ K hK):G:=t h
theorem qV1 (h:∀a b,J a b) (t:(∀a b,J a b)->G:=by
 intro hZ;have K:=0;have hK:=True.intro;intro K hK
 repeat1' (first
  |(with_reducible refine hK _ ?_;clear hK K);(conv=>whnf);(first|(with_reducible refine atId ?_)|(with_reducible refine FinAt.mk ?_;cbv;try simp only[hseg])|(cbv;try simp only[hseg]))
  |(with_reducible refine aR (base:=1) ?_;intro K hK);cbv;try simp only[hseg]
  |(with_reducible first|apply ndN|refine ndC True.intro ?_);try cbv
  |(with_reducible refine aD (base:=1) hM ?h ?_);(case h=>rfl);intro K hK;cbv;try simp only[hseg]
  |(with_reducible refine ndC ?h ?_);(case h=>first|with_reducible rfl|exact nn_ok hO (by decide))
  |(with_reducible refine nG ?_);(conv=>whnf)
  |(with_reducible first|apply fork_t|apply fork_f);(first|((with_reducible refine nxId ?_);(conv=>whnf);(first|(with_reducible refine atId ?_)|(with_reducible refine FinAt.mk ?_;cbv;try simp only[hseg])|(cbv;try simp only[hseg])))|(cbv;try simp only[hseg]))
  |(with_reducible first|refine fork_kt (by assumption) ?_|refine fork_kf (by assumption) ?_);(first|((with_reducible refine nxId ?_);(conv=>whnf);(first|(with_reducible refine atId ?_)|(with_reducible refine FinAt.mk ?_;cbv;try simp only[hseg])|(cbv;try simp only[hseg])))|(cbv;try simp only[hseg]))
  |fail)
 exact hZ K hK):G:=t h
theorem qS1 (h:∀a b,J a b) (t:(∀a b,J a b)->G:=by
 intro hZ;have K:=0;have hK:=True.intro;intro K hK
 first
  |(with_reducible refine hK _ ?_;clear hK K);(conv=>whnf);(first|(with_reducible refine atId ?_)|(with_reducible refine FinAt.mk ?_;cbv;try simp only[hseg])|(cbv;try simp only[hseg]))
  |(with_reducible refine aR (base:=1) ?_;intro K hK);cbv;try simp only[hseg]
  |(with_reducible first|apply ndN|refine ndC True.intro ?_);try cbv
  |(with_reducible refine aD (base:=1) hM ?h ?_);(case h=>rfl);intro K hK;cbv;try simp only[hseg]
  |(with_reducible refine ndC ?h ?_);(case h=>first|with_reducible rfl|exact nn_ok hO (by decide))
  |(with_reducible refine nG ?_);(conv=>whnf)
  |(with_reducible first|apply fork_t|apply fork_f);(first|((with_reducible refine nxId ?_);(conv=>whnf);(first|(with_reducible refine atId ?_)|(with_reducible refine FinAt.mk ?_;cbv;try simp only[hseg])|(cbv;try simp only[hseg])))|(cbv;try simp only[hseg]))
  |(with_reducible first|refine fork_kt (by assumption) ?_|refine fork_kf (by assumption) ?_);(first|((with_reducible refine nxId ?_);(conv=>whnf);(first|(with_reducible refine atId ?_)|(with_reducible refine FinAt.mk ?_;cbv;try simp only[hseg])|(cbv;try simp only[hseg])))|(cbv;try simp only[hseg]))
 exact hZ K hK):G:=t h
theorem qW1s (h:∀a b,J a b) (t:(∀a b,J a b)->G:=by
 intro hZ;have K:=0;have hK:=True.intro;intro K hK
 first|(with_reducible refine atId ?_)|(with_reducible refine nxId ?_;(conv=>whnf);(first|(with_reducible refine atId ?_)|(with_reducible refine FinAt.mk ?_;cbv;try simp only[hseg])|(cbv;try simp only[hseg])))|(try cbv;try simp only[hseg])
 repeat' (first
  |(with_reducible refine hK _ ?_;clear hK K);(conv=>whnf);(first|(with_reducible refine atId ?_)|(with_reducible refine FinAt.mk ?_;cbv;try simp only[hseg])|(cbv;try simp only[hseg]))
  |(with_reducible first|(refine aR (base:=1) ?_;intro K hK)|apply fork_t|apply fork_f);cbv;try simp only[hseg]
  |(with_reducible first|apply ndN|refine ndC True.intro ?_);try cbv
  |(with_reducible refine nT ?h ?_);(case h=>rfl);(conv=>whnf);(first|(with_reducible refine atId ?_)|(with_reducible refine FinAt.mk ?_;cbv;try simp only[hseg])|(cbv;try simp only[hseg]))
  |(with_reducible refine nF ?h ?_);(case h=>rfl);(conv=>whnf);(first|(with_reducible refine atId ?_)|(with_reducible refine FinAt.mk ?_;cbv;try simp only[hseg])|(cbv;try simp only[hseg]))
  |(with_reducible refine aD (base:=1) hM ?h ?_);(case h=>rfl);intro K hK;cbv;try simp only[hseg]
  |(with_reducible refine ndC ?h ?_);(case h=>first|with_reducible rfl|exact nn_ok hO (by decide))
  |(with_reducible refine aSw (base:=1) hM ?h ?_);(case h=>decide +kernel);intro K hK;cbv;try simp only[hseg]
  |fail)
 exact hZ K hK):G:=t h
theorem qW2 (h:∀a b,J a b) (t:(∀a b,J a b)->G:=by
 intro hZ;have K:=0;have hK:=True.intro;intro K hK
 first|(with_reducible refine atId ?_)|(with_reducible refine nxId ?_;(conv=>whnf);(first|(with_reducible refine atId ?_)|(with_reducible refine FinAt.mk ?_;cbv;try simp only[hseg])|(cbv;try simp only[hseg])))|(try cbv;try simp only[hseg])
 repeat' (first
  |(with_reducible refine hK _ ?_;clear hK K);(conv=>whnf);(first|(with_reducible refine atId ?_)|(with_reducible refine FinAt.mk ?_;cbv;try simp only[hseg])|(cbv;try simp only[hseg]))
  |(with_reducible first|(refine aR (base:=2) ?_;intro K hK)|apply fork_t|apply fork_f);cbv;try simp only[hseg]
  |(with_reducible first|apply ndN|refine ndC True.intro ?_);try cbv
  |(with_reducible refine nT ?h ?_);(case h=>rfl);(conv=>whnf);(first|(with_reducible refine atId ?_)|(with_reducible refine FinAt.mk ?_;cbv;try simp only[hseg])|(cbv;try simp only[hseg]))
  |(with_reducible refine nF ?h ?_);(case h=>rfl);(conv=>whnf);(first|(with_reducible refine atId ?_)|(with_reducible refine FinAt.mk ?_;cbv;try simp only[hseg])|(cbv;try simp only[hseg]))
  |(with_reducible refine aD (base:=2) hM ?h ?_);(case h=>rfl);intro K hK;cbv;try simp only[hseg]
  |(with_reducible refine ndC ?h ?_);(case h=>first|with_reducible rfl|exact nn_ok hO (by decide))
  |fail)
 exact hZ K hK):G:=t h
theorem qV2 (h:∀a b,J a b) (t:(∀a b,J a b)->G:=by
 intro hZ;have K:=0;have hK:=True.intro;intro K hK
 repeat1' (first
  |(with_reducible refine hK _ ?_;clear hK K);(conv=>whnf);(first|(with_reducible refine atId ?_)|(with_reducible refine FinAt.mk ?_;cbv;try simp only[hseg])|(cbv;try simp only[hseg]))
  |(with_reducible refine aR (base:=2) ?_;intro K hK);cbv;try simp only[hseg]
  |(with_reducible first|apply ndN|refine ndC True.intro ?_);try cbv
  |(with_reducible refine aD (base:=2) hM ?h ?_);(case h=>rfl);intro K hK;cbv;try simp only[hseg]
  |(with_reducible refine ndC ?h ?_);(case h=>first|with_reducible rfl|exact nn_ok hO (by decide))
  |(with_reducible refine nG ?_);(conv=>whnf)
  |(with_reducible first|apply fork_t|apply fork_f);(first|((with_reducible refine nxId ?_);(conv=>whnf);(first|(with_reducible refine atId ?_)|(with_reducible refine FinAt.mk ?_;cbv;try simp only[hseg])|(cbv;try simp only[hseg])))|(cbv;try simp only[hseg]))
  |(with_reducible first|refine fork_kt (by assumption) ?_|refine fork_kf (by assumption) ?_);(first|((with_reducible refine nxId ?_);(conv=>whnf);(first|(with_reducible refine atId ?_)|(with_reducible refine FinAt.mk ?_;cbv;try simp only[hseg])|(cbv;try simp only[hseg])))|(cbv;try simp only[hseg]))
  |fail)
 exact hZ K hK):G:=t h
theorem qW3 (h:∀a b,J a b) (t:(∀a b,J a b)->G:=by
 intro hZ;have K:=0;have hK:=True.intro;intro K hK
 first|(with_reducible refine atId ?_)|(with_reducible refine nxId ?_;(conv=>whnf);(first|(with_reducible refine atId ?_)|(with_reducible refine FinAt.mk ?_;cbv;try simp only[hseg])|(cbv;try simp only[hseg])))|(try cbv;try simp only[hseg])
 repeat' (first
  |(with_reducible refine hK _ ?_;clear hK K);(conv=>whnf);(first|(with_reducible refine atId ?_)|(with_reducible refine FinAt.mk ?_;cbv;try simp only[hseg])|(cbv;try simp only[hseg]))
  |(with_reducible first|(refine aR (base:=3) ?_;intro K hK)|apply fork_t|apply fork_f);cbv;try simp only[hseg]
  |(with_reducible first|apply ndN|refine ndC True.intro ?_);try cbv
  |(with_reducible refine nT ?h ?_);(case h=>rfl);(conv=>whnf);(first|(with_reducible refine atId ?_)|(with_reducible refine FinAt.mk ?_;cbv;try simp only[hseg])|(cbv;try simp only[hseg]))
  |(with_reducible refine nF ?h ?_);(case h=>rfl);(conv=>whnf);(first|(with_reducible refine atId ?_)|(with_reducible refine FinAt.mk ?_;cbv;try simp only[hseg])|(cbv;try simp only[hseg]))
  |(with_reducible refine aD (base:=3) hM ?h ?_);(case h=>rfl);intro K hK;cbv;try simp only[hseg]
  |(with_reducible refine ndC ?h ?_);(case h=>first|with_reducible rfl|exact nn_ok hO (by decide))
  |fail)
 exact hZ K hK):G:=t h
theorem qV3 (h:∀a b,J a b) (t:(∀a b,J a b)->G:=by
 intro hZ;have K:=0;have hK:=True.intro;intro K hK
 repeat1' (first
  |(with_reducible refine hK _ ?_;clear hK K);(conv=>whnf);(first|(with_reducible refine atId ?_)|(with_reducible refine FinAt.mk ?_;cbv;try simp only[hseg])|(cbv;try simp only[hseg]))
  |(with_reducible refine aR (base:=3) ?_;intro K hK);cbv;try simp only[hseg]
  |(with_reducible first|apply ndN|refine ndC True.intro ?_);try cbv
  |(with_reducible refine aD (base:=3) hM ?h ?_);(case h=>rfl);intro K hK;cbv;try simp only[hseg]
  |(with_reducible refine ndC ?h ?_);(case h=>first|with_reducible rfl|exact nn_ok hO (by decide))
  |(with_reducible refine nG ?_);(conv=>whnf)
  |(with_reducible first|apply fork_t|apply fork_f);(first|((with_reducible refine nxId ?_);(conv=>whnf);(first|(with_reducible refine atId ?_)|(with_reducible refine FinAt.mk ?_;cbv;try simp only[hseg])|(cbv;try simp only[hseg])))|(cbv;try simp only[hseg]))
  |(with_reducible first|refine fork_kt (by assumption) ?_|refine fork_kf (by assumption) ?_);(first|((with_reducible refine nxId ?_);(conv=>whnf);(first|(with_reducible refine atId ?_)|(with_reducible refine FinAt.mk ?_;cbv;try simp only[hseg])|(cbv;try simp only[hseg])))|(cbv;try simp only[hseg]))
  |fail)
 exact hZ K hK):G:=t h
end
section
variable {Q:Prop}
theorem qv1 (t:Q:=by try clear hK K;clear hM hP hC hR;cases hO;simp only[Ops.std,sCm,stdBin,sqL,scmp_neq,stdUn,Int.ofNat_eq_natCast] at *;simpa using h1):Q:=t
theorem qw1 (t:Q:=by try clear hK K;clear hM hP hC hR;cases hO;simp only[Ops.std,sCm,stdBin,sqL,scmp_neq,stdUn,Int.ofNat_eq_natCast] at *;simp at h1;omega):Q:=t
theorem qv2 (t:Q:=by try clear hK K;clear hM hP hC hR;cases hO;simp only[Ops.std,sCm,stdBin,sqL,scmp_neq,stdUn,Int.ofNat_eq_natCast] at *;simpa using h2):Q:=t
theorem qv3 (t:Q:=by try clear hK K;clear hM hP hC hR;cases hO;simp only[Ops.std,sCm,stdBin,sqL,scmp_neq,stdUn,Int.ofNat_eq_natCast] at *;simpa using h3):Q:=t
theorem qw3 (t:Q:=by try clear hK K;clear hM hP hC hR;cases hO;simp only[Ops.std,sCm,stdBin,sqL,scmp_neq,stdUn,Int.ofNat_eq_natCast] at *;simp at h3;omega):Q:=t
theorem qv4 (t:Q:=by try clear hK K;clear hM hP hC hR;cases hO;simp only[Ops.std,sCm,stdBin,sqL,scmp_neq,stdUn,Int.ofNat_eq_natCast] at *;simpa using h4):Q:=t
theorem qw4 (t:Q:=by try clear hK K;clear hM hP hC hR;cases hO;simp only[Ops.std,sCm,stdBin,sqL,scmp_neq,stdUn,Int.ofNat_eq_natCast] at *;simp at h4;omega):Q:=t
theorem qv5 (t:Q:=by try clear hK K;clear hM hP hC hR;cases hO;simp only[Ops.std,sCm,stdBin,sqL,scmp_neq,stdUn,Int.ofNat_eq_natCast] at *;simpa using h5):Q:=t
theorem qw5 (t:Q:=by try clear hK K;clear hM hP hC hR;cases hO;simp only[Ops.std,sCm,stdBin,sqL,scmp_neq,stdUn,Int.ofNat_eq_natCast] at *;simp at h5;omega):Q:=t
theorem qv6 (t:Q:=by try clear hK K;clear hM hP hC hR;cases hO;simp only[Ops.std,sCm,stdBin,sqL,scmp_neq,stdUn,Int.ofNat_eq_natCast] at *;simpa using h6):Q:=t
theorem qw6 (t:Q:=by try clear hK K;clear hM hP hC hR;cases hO;simp only[Ops.std,sCm,stdBin,sqL,scmp_neq,stdUn,Int.ofNat_eq_natCast] at *;simp at h6;omega):Q:=t
theorem qv7 (t:Q:=by try clear hK K;clear hM hP hC hR;cases hO;simp only[Ops.std,sCm,stdBin,sqL,scmp_neq,stdUn,Int.ofNat_eq_natCast] at *;simpa using h7):Q:=t
end
theorem qX {α:Type} (a:α):∃x,x=a:=⟨a,rfl⟩
abbrev nS (l:List Nat):Hint:=⟨fun _ _=>false,fun _ _=>true,l⟩
abbrev nM (l:List Nat):Hint:=⟨fun _ _=>true,fun _ _=>false,l⟩
theorem qg {O:Ops} {P:Program} {σ:AS} (l:List Nat) {i:Nat} {fop:Operand} {args:Array Operand} {dst:Option Tmp} {K:AS->Prop} (hx:gCallH O P (nN l) i fop args dst σ K):GCall O P i fop args dst σ K:=GCall.by (nN l) hx
theorem qD {P P0:Program} (hP:P=P0) {f:FuncId} {cargs:List AV} {cbx:List (Option (List A))} {ids:List Nat} {i:Nat} {dst:Option Tmp} {σm:AS} {K:AS->Prop} {R:AV->List (Option (List A))->Prop} (hc:ACl P0 f cargs cbx R)
  (hK:∀res bx,R res bx->K ((aCallPost ids i σm res bx).2.putO dst (aCallPost ids i σm res bx).1)) (he:enterable P0 f=true:=by rfl):GCallD P f cargs cbx ids i dst σm K:=GCallD.by hP he hc hK
abbrev kk0:Root->Nat->Option Nat:=fun _ _=>none
theorem qL {O:Ops} {ts:Nat->Option TI} {P:Program} {C:Ctx} {σ:AS} {Q:Exit->AS->Prop} {c:Code} (nb:Nat) (ks:List Nat) (kk:Root->Nat->Option Nat) (I:Nat->AS->Prop) (h0:wkThen nb (fun t=>ks.contains t) kk σ fun σ'=>∃n,I n σ')
  (round:∀n σ,I n σ->nxt O ts P C c σ (thenA (fun σ'=>wkThen nb (fun t=>ks.contains t) kk σ' fun σ''=>∃m,m < n/\I m σ'') Q)) (hC':C.bl0.length<=nb:=by simp at hC;simp[hC]):At O ts P C (.loop c) σ Q:=nL I hC' h0 round
theorem qF {ts:Nat->Option TI} {P0:Program} (ht:∀n ti,ts n=some ti->tyOf P0 n=some ti) {f:FuncId} {fn:Func} {c:Code} {args:List AV} {bx:List (Option (List A))} {R0:AV->List (Option (List A))->Prop} (hf:P0.funcs[f]?=some fn) (n:Nat) (rs:List ResultVar)
  (h:∀bin cmp sadd scmp beq bnot band un wrap size byte chr sub len seg app get set nat nadd nsub repl text bytes mn mx nz nn idx bnd le all one lits isB sOk aOk mOk,∀(hO:⟨bin,cmp,sadd,scmp,beq,bnot,band,un,wrap,size,byte,chr,sub,len,seg,app,get,set,nat,nadd,nsub,repl,text,bytes,mn,mx,nz,nn,idx,bnd,le,all,one,lits,isB,sOk,aOk,mOk⟩=Ops.std) (P:Program) (hP:P=P0) (C:Ctx) (hC:C.bl0.length=bx.length) (R:AV->List (Option (List A))->Prop) (hR:∀res bx',R0 res bx'->R res bx') (hM:P.follows .mixedOrders=true) (hseg:∀e,seg 0 (len e) e=e) (K:Nat) (hK:True),nxt ⟨bin,cmp,sadd,scmp,beq,bnot,band,un,wrap,size,byte,chr,sub,len,seg,app,get,set,nat,nadd,nsub,repl,text,bytes,mn,mx,nz,nn,idx,bnd,le,all,one,lits,isB,sOk,aOk,mOk⟩ ts P C c (startAS args n bx) (FinAt ⟨bin,cmp,sadd,scmp,beq,bnot,band,un,wrap,size,byte,chr,sub,len,seg,app,get,set,nat,nadd,nsub,repl,text,bytes,mn,mx,nz,nn,idx,bnd,le,all,one,lits,isB,sOk,aOk,mOk⟩ ts bx.length rs R)) (hb:fn.body=some c:=by rfl)
  (hn:fn.ntmps=n:=by rfl) (hrs:fn.results.toList=rs:=by rfl) (hA:∀av∈args,stampFree av.cs:=by first|(simp[stampFree,litI,litS,litB,A.stamp,A.rstamp,stampIn];done) | simp) (hB:∀cs,some cs∈bx->stampFree cs:=by first|(simp[stampFree,litI,litS,litB,A.stamp,A.rstamp,stampIn];done) | simp) (hm:P0.follows .mixedOrders=true:=by rfl):ACl P0 f args bx R0:=
 gcalls_by ht n rs hf hb hn hrs hA hB fun O hO P hP C hC R' hR=>nxt_fin (by
  obtain ⟨bin,cmp,sadd,scmp,beq,bnot,band,un,wrap,size,byte,chr,sub,len,seg,app,get,set,nat,nadd,nsub,repl,text,bytes,mn,mx,nz,nn,idx,bnd,le,all,one,lits,isB,sOk,aOk,mOk⟩:=O;exact h bin cmp sadd scmp beq bnot band un wrap size byte chr sub len seg app get set nat nadd nsub repl text bytes mn mx nz nn idx bnd le all one lits isB sOk aOk mOk hO P hP C hC R' hR (by rw[hP];exact hm) (by intro e;cases hO;simp) 0 trivial)
end Go.Gv
/- How the helpers of a law over plain data are walked, each way once. -/
namespace Go.Gv
open Go.Av
abbrev KOf (els:List (List T)) (n:Nat):Prop:=∀e∈els,e.length=n
def kOf {els:List (List T)} {n:Nat} (_:KOf els n):Nat:=n
theorem kOf_map {α:Type} {f:α->List T} {n:Nat} (h:∀x,(f x).length=n) (l:List α):KOf (l.map f) n:=fun e he=>by
 obtain ⟨x,_,rfl⟩:=List.mem_map.1 he;exact h x
structure Zs (z:List T):Prop where
 t:True
abbrev zOf {z:List T} (_:Zs z):List T:=z
structure SzF {α:Type} (S:List α->Nat) (z:α->Nat):Prop where
 nil:S []=0
 step:∀(l:List α) (i:Nat) (x:α),l.take (i+1)=l.take i++[x]->S (l.take (i+1))=S (l.take i)+z x
 le:∀(l:List α) (i:Nat),S (l.take i)<=S l
theorem szF_of {α:Type} {S:List α->Nat} {z:α->Nat} (h0:S []=0) (h1:∀a b,S (a++b)=S a+S b) (h2:∀a,S [a]=z a):SzF S z:=⟨h0,fun l i x h=>by rw[h,h1,h2],fun l i=>by
 have:=h1 (l.take i) (l.drop i);rw[List.take_append_drop] at this;omega⟩
theorem szl {a m:Int} {s:Nat} (hl:lefts a) (hm:szR s a m) (h:¬m < 0):lefts m:=szR_le hl hm h
theorem szl' {a m:Int} {s:Nat} (hl:lefts a) (hm:m=a - Int.ofNat s) (h:¬m < 0):lefts m:=by subst hm;exact sub_le hl h
theorem szStr {O:Ops} (hO:O=Ops.std) {s:ByteArray} (hs:s.size<=maxLen):∀left,lefts left->∃r,O.bin .sub .i64 left (Int.ofNat (O.size s))=r/\r=left - Int.ofNat s.size:=fun left hl=>⟨_,by subst hO;exact sub_id rfl hl hs,rfl⟩
theorem set_len {outs:List (List T)} {i k:Nat} {x:List T} (g:∀e∈outs,e.length=k) (hx:x.length=k):∀e∈outs.set i x,e.length=k:=by
 intro e he;rcases List.mem_or_eq_of_mem_set he with h | h
 ·exact g e h
 ·rw[h];exact hx
section
variable {Q:Prop}
theorem qTo (t:Q:=by
 have hne:∀x,cmp .neq x x=false:=by intro x;cases hO;simp[Ops.std,sCm]
 have hse:∀x,scmp .neq x x=false:=by intro x;cases hO;simp[Ops.std,scmp_neq]
 have hbe:∀x,bnot (beq x x)=false:=by intro x;cases hO;simp[Ops.std]
 have hnt:bnot true=false:=by cases hO;rfl
 refine qU ?_
 repeat' first|(revert hK K;refine qV0 ?_;intro K hK)|(simp only[hne,hse,hbe,hnt];try cbv)|(refine qG ?_;refine qD hP (by assumption) ?_;rintro res bx ⟨rfl,rfl⟩;refine qC ?_)
 exact hR _ _ ⟨rfl,rfl⟩):Q:=t
theorem qSz (t:Q:=by
 have hl:=hleft;have hlt:∀m,cmp .lss m 0=true->m < 0:=fun m hc=>by cases hO;simpa [Ops.std,sCm] using hc
 have hge:∀m,cmp .lss m 0=false->¬m < 0:=fun m hc=>by cases hO;simpa [Ops.std,sCm] using hc
 refine qU ?_
 repeat' first
  |(revert hK K;refine qV0 ?_;intro K hK)
  |(refine GFork.mk (fun hc=>?_) (fun hc=>?_);all_goals first|(have hg:=hlt _ hc;clear hc;refine qQ ?_)|(have hg:=hge _ hc;clear hc;(first|(have hl:=szl hl hm hg)|(have hl:=szl' hl hm hg));refine qQ ?_))
  |(refine qG ?_;refine qD hP (i1 _ hl) ?_;rintro res bx ⟨m,hm,rfl,rfl⟩;refine qC ?_)|(refine qG ?_;refine qD hP (i2 _ hl) ?_;rintro res bx ⟨m,hm,rfl,rfl⟩;refine qC ?_)|(refine qG ?_;refine qD hP (i3 _ hl) ?_;rintro res bx ⟨m,hm,rfl,rfl⟩;refine qC ?_)|(refine qG ?_;refine qD hP (i4 _ hl) ?_;rintro res bx ⟨m,hm,rfl,rfl⟩;refine qC ?_)|(refine qG ?_;refine qD hP (i5 _ hl) ?_;rintro res bx ⟨m,hm,rfl,rfl⟩;refine qC ?_)|(refine qG ?_;refine qD hP (i6 _ hl) ?_;rintro res bx ⟨m,hm,rfl,rfl⟩;refine qC ?_)|(refine qG ?_;refine qD hP (i7 _ hl) ?_;rintro res bx ⟨m,hm,rfl,rfl⟩;refine qC ?_)|(refine qG ?_;refine qD hP (i8 _ hl) ?_;rintro res bx ⟨m,hm,rfl,rfl⟩;refine qC ?_)|(refine qG ?_;refine qD hP (i9 _ hl) ?_;rintro res bx ⟨m,hm,rfl,rfl⟩;refine qC ?_)
  |(obtain ⟨m,e,hm⟩:=j1 _ hl;simp only at e;simp only[e];clear e)|(obtain ⟨m,e,hm⟩:=j2 _ hl;simp only at e;simp only[e];clear e)|(obtain ⟨m,e,hm⟩:=j3 _ hl;simp only at e;simp only[e];clear e)|(obtain ⟨m,e,hm⟩:=j4 _ hl;simp only at e;simp only[e];clear e)
 all_goals (refine hR _ _ ⟨_,?_,rfl,rfl⟩;clear hR hlt hge;(try clear hK K);simp only[szR,lefts,Int.ofNat_eq_natCast,and_true] at *;omega)):Q:=t
theorem qSzS (t:Q:=by
 obtain ⟨N,hN⟩:=qX l.length;have hNe:els.length=N:=by simp[he,hN]
 have hlen:len els=N:=lnO hO hNe;have ha:=alO hO hk;rw[<-hN] at hl hR;revert hK K;refine qW0 ?_;intro K hK;have e0:bin .sub .i64 left (Int.ofNat N)=_:=sub_id hO hleft hl;have hs:=sub_le (b:=N) hleft;generalize hm:left - Int.ofNat N=m at e0 hs;simp only[hlen,e0];refine nC rfl (fun h3=>?_) (fun h3=>?_)
 ·revert hK K;refine qW0 ?_;intro K hK
  refine hR _ _ ⟨_,.inr ⟨?_,rfl⟩,rfl,rfl⟩;have hm0:m < 0:=qv3;clear hR;try clear hK
  simp only[szR,lefts,Int.ofNat_eq_natCast] at *;omega
 have hm0:¬m < 0:=qv3;have hs:=hs hm0;have hN2:N<=1048576:=by
  clear hR;simp only[lefts,Int.ofNat_eq_natCast] at *;omega
 revert hK K;refine qW0 ?_;intro K hK;refine qL 0 [0,1,5] kk0 (invSz 27 els N (fun i=>S (l.take i)) left) ?_ ?_
 ·cbv
  exact ⟨_,0,m,by cbv,by simp,by show m=left - Int.ofNat N - Int.ofNat (S (l.take 0));rw[List.take_zero,hsf.nil];simp;exact hm.symm,hs,rfl⟩
 rintro n σ ⟨i,m1,rfl,g1,g2,g3,rfl⟩;revert hK K;refine qW0 ?_;intro K hK;simp only[hlen];refine nC rfl (fun h4=>?_) (fun h4=>?_)
 ·have hlt:i < N:=qv4
  obtain ⟨x,hx,hx',ht,e1⟩:=mpA hO he (hN ▸ hlt);have hc:=ih x hx m1 g3;have hz:=hsf.step l i x ht;have hq:=hcs x
  repeat (obtain ⟨_,hq⟩:=(hq:Exists _))
  obtain ⟨hq,_⟩:=hq;simp only[agT,hq,List.map,tA] at hc e1;revert hK K;refine qW0 ?_;intro K hK
  repeat (simp only[e1];cbv)
  refine ndC (hlen ▸ ixN hO hlt) (ndC ha (ndN ?_));refine qG ?_;refine qD hP (hc) ?_;rintro res bx ⟨r,hr,rfl,rfl⟩;refine qC ?_;have hzl:=hsf.le l (i+1);revert hK K;refine qW0 ?_;intro K hK;refine nC rfl (fun h5=>?_) (fun h5=>?_)
  ·revert hK K;refine qW0 ?_;intro K hK
   refine hR _ _ ⟨_,.inr ⟨?_,rfl⟩,rfl,rfl⟩;have hr0:r < 0:=qv5;clear hR;try clear hK
   simp only[szR,lefts,Int.ofNat_eq_natCast] at *;omega
  ·have hr0:¬r < 0:=qv5
   revert hK K;refine qW0 ?_;intro K hK;have e:bin .add .i64 (Int.ofNat i) 1=_:=iSc hO (by omega)
   try cbv
   rw[e];refine ⟨_,?_,i+1,r,by cbv,by omega,?_,?_,rfl⟩
   ·omega
   ·clear hR;try clear hK
    simp only[szR,lefts,Int.ofNat_eq_natCast] at *;omega
   ·clear hR;try clear hK
    simp only[szR,lefts,Int.ofNat_eq_natCast] at *;omega
 ·have hge:i=N:=qw4
  revert hK K;refine qW0 ?_;intro K hK;have e2:l.take i=l:=List.take_of_length_le (by omega)
  refine hR _ _ ⟨_,.inl ⟨?_,?_⟩,rfl,rfl⟩
  ·clear hR;try clear hK
   simp only[szR,lefts,Int.ofNat_eq_natCast,e2] at *;omega
  ·clear hR;try clear hK
   simp only[szR,lefts,Int.ofNat_eq_natCast,e2] at *;omega):Q:=t
theorem qToS (t:Q:=by
 obtain ⟨N,hN⟩:=qX l.length;have hNe:els.length=N:=by simp[he,hN]
 have hlen:len els=N:=lnO hO hNe;have ha:=alO hO hk;rw[<-hN] at hl;revert hK K;refine qW0 ?_;intro K hK;simp only[hlen];refine ndC (mOk_of hO (by simp only[Int.ofNat_eq_natCast];omega)) (ndN ?_)
 generalize hR0:repl (nat (Int.ofNat N)) (zOf hz0)=outs0;have h0:outs0.length=els.length/\∀e∈outs0,e.length=kOf hk:=by
  subst hR0;cases hO;refine ⟨?_,fun e he=>?_⟩
  ·simp[Ops.std,hNe]
  ·rw[List.eq_of_mem_replicate he];rfl
 revert hK K;refine qW0 ?_;intro K hK;refine qL 0 [0,3,4] kk0 (invTo 23 els (kOf hk)) ?_ ?_
 ·cbv
  exact ⟨_,0,outs0,by cbv,Nat.zero_le _,h0.1,h0.2,by simp,rfl⟩
 rintro n σ ⟨i,outs,rfl,g1,g2,g3,g4,rfl⟩;rw[hNe] at g1 g2;have hlo:len outs=N:=lnO hO g2;revert hK K;refine qW0 ?_;intro K hK;simp only[hlen];refine nC rfl (fun h4=>?_) (fun h4=>?_)
 ·have hlt:i < N:=qv4
  obtain ⟨x,hx,hx',ht,e1⟩:=mpA hO he (hN ▸ hlt);have hxe:=congrArg (·[i]?) he
  simp only[List.getElem?_map,hx',Option.map_some] at hxe;have hc:=ih x hx;have hq:=hcs x
  repeat (obtain ⟨_,hq⟩:=(hq:Exists _))
  obtain ⟨hq,hq'⟩:=hq;simp only[agT,hq,hq',List.map,tA] at hc e1 hxe;have en:nadd 0 (nat (Int.ofNat i))=i:=by cases hO;simp[Ops.std]
  revert hK K;refine qW0 ?_;intro K hK
  repeat (simp only[e1];cbv)
  refine ndC (hlen ▸ ixN hO hlt) (ndC ha (ndN ?_));refine qG ?_;refine qD hP (hc) ?_;rintro res bx ⟨rfl,rfl⟩;refine qC ?_;simp only[hlo,en];refine ndC (ixN hO hlt) (ndC (one_of hO (by omega) rfl g3) ?_)
  have es:∀y,set outs i y=outs.set i y:=by intro y;cases hO;rfl
  obtain ⟨t1,t2⟩:=set_step (hNe.symm ▸ hlt) (g2.trans hNe.symm) g4 hxe;have t3:=set_len (k:=kOf hk) (i:=i) g3 (hk _ (List.mem_of_getElem? hxe));simp only[es];generalize outs.set i _=outs' at t1 t2 t3 |-;revert hK K;refine qW0 ?_;intro K hK;have e:bin .add .i64 (Int.ofNat i) 1=_:=iSc hO (by omega)
  try cbv
  rw[e];exact ⟨_,by omega,i+1,outs',by cbv,by omega,t1,t3,t2,rfl⟩
 ·have hge:i=N:=qw4
  have e2:outs=els:=by
   have:=g4;rw[List.take_of_length_le (by omega),List.take_of_length_le (by omega)] at this
   exact this
  subst e2;revert hK K;refine qW0 ?_;intro K hK;exact hR _ _ ⟨rfl,rfl⟩):Q:=t
theorem qEqS (t:Q:=by
 obtain ⟨N,hN⟩:=qX l.length;have hNe:els.length=N:=by simp[he,hN]
 have hlen:len els=N:=lnO hO hNe;have ha:=alO hO hk;rw[<-hN] at hl;have hne:∀x,cmp .neq x x=false:=by intro x;cases hO;simp[Ops.std,sCm]
 have hse:∀x,scmp .neq x x=false:=by intro x;cases hO;simp[Ops.std,scmp_neq]
 have hbe:∀x,bnot (beq x x)=false:=by intro x;cases hO;simp[Ops.std]
 have hnt:bnot true=false:=by cases hO;rfl
 revert hK K;refine qW0 ?_;intro K hK;simp only[hne];revert hK K;refine qW0 ?_;intro K hK;refine qL 0 [0,1,5] kk0 (invEq 27 els) ?_ ?_
 ·cbv
  exact ⟨_,0,by cbv,Nat.zero_le _,rfl⟩
 rintro n σ ⟨i,rfl,g1,rfl⟩;rw[hNe] at g1;revert hK K;refine qW0 ?_;intro K hK;simp only[hlen];refine nC rfl (fun h4=>?_) (fun h4=>?_)
 ·have hlt:i < N:=qv4
  obtain ⟨x,hx,hx',ht,e1⟩:=mpA hO he (hN ▸ hlt);have hc:=ih x hx;have hq:=hcs x
  repeat (obtain ⟨_,hq⟩:=(hq:Exists _))
  obtain ⟨hq,_⟩:=hq;simp only[agT,hq,List.map,tA] at hc e1;have hi:idx (Int.ofNat i) (len els):=hlen ▸ ixN hO hlt;revert hK K;refine qW0 ?_;intro K hK
  repeat (simp only[e1];cbv)
  refine ndC hi (ndC ha (ndC hi (ndC ha (ndN ?_))));refine qG ?_;refine qD hP (hc) ?_;rintro res bx ⟨rfl,rfl⟩;refine qC ?_
  repeat (simp only[e1];cbv)
  simp only[hnt];revert hK K;refine qW0 ?_;intro K hK;have e:bin .add .i64 (Int.ofNat i) 1=_:=iSc hO (by omega)
  try cbv
  rw[e];exact ⟨_,by omega,i+1,by cbv,by omega,rfl⟩
 ·revert hK K;refine qW0 ?_;intro K hK
  exact hR _ _ ⟨rfl,rfl⟩):Q:=t
end
end Go.Gv
/- One way of a walk more (regions with stores in no order, one step at a time), written once: theorems that give back what they are given; the way from the one to the other is their last argument, with the walk's tactics as its default proof. -/
namespace Go.Gv
open Go.Av
section
variable {G H:Prop} {α:Type} {β:α->Prop} {J:∀a:α,β a->Prop}
theorem qS1s (h:∀a b,J a b) (t:(∀a b,J a b)->G:=by
 intro hZ;have K:=0;have hK:=True.intro;intro K hK
 first
  |(with_reducible refine hK _ ?_;clear hK K);(conv=>whnf);(first|(with_reducible refine atId ?_)|(with_reducible refine FinAt.mk ?_;cbv;try simp only[hseg])|(cbv;try simp only[hseg]))
  |(with_reducible refine aR (base:=1) ?_;intro K hK);cbv;try simp only[hseg]
  |(with_reducible first|apply ndN|refine ndC True.intro ?_);try cbv
  |(with_reducible refine aD (base:=1) hM ?h ?_);(case h=>rfl);intro K hK;cbv;try simp only[hseg]
  |(with_reducible refine ndC ?h ?_);(case h=>first|with_reducible rfl|exact nn_ok hO (by decide))
  |(with_reducible refine aSw (base:=1) hM ?h ?_);(case h=>decide +kernel);intro K hK;cbv;try simp only[hseg]
  |(with_reducible refine nG ?_);(conv=>whnf)
  |(with_reducible first|apply fork_t|apply fork_f);(first|((with_reducible refine nxId ?_);(conv=>whnf);(first|(with_reducible refine atId ?_)|(with_reducible refine FinAt.mk ?_;cbv;try simp only[hseg])|(cbv;try simp only[hseg])))|(cbv;try simp only[hseg]))
  |(with_reducible first|refine fork_kt (by assumption) ?_|refine fork_kf (by assumption) ?_);(first|((with_reducible refine nxId ?_);(conv=>whnf);(first|(with_reducible refine atId ?_)|(with_reducible refine FinAt.mk ?_;cbv;try simp only[hseg])|(cbv;try simp only[hseg])))|(cbv;try simp only[hseg]))
 exact hZ K hK):G:=t h
theorem qK {b:Bool} {x y:Unit->Prop} {A B:Prop} (h:b=true->A) (k:b=false->B) (s:A->x ():=by
 intro hZ
 first|(with_reducible refine nxId ?_;(conv=>whnf);(first|(with_reducible refine atId ?_)|(with_reducible refine FinAt.mk ?_;cbv;try simp only[hseg])|(cbv;try simp only[hseg])))|(cbv;try simp only[hseg])
 exact hZ) (t:B->y ():=by
 intro hZ
 first|(with_reducible refine nxId ?_;(conv=>whnf);(first|(with_reducible refine atId ?_)|(with_reducible refine FinAt.mk ?_;cbv;try simp only[hseg])|(cbv;try simp only[hseg])))|(cbv;try simp only[hseg])
 exact hZ):GFork b x y:=⟨fun e=>s (h e),fun e=>t (k e)⟩
end
end Go.Gv
/- One way of a walk more (four boxes are handed in), written once: theorems that give back what they are given; the way from the one to the other is their last argument, with the walk's tactics as its default proof. -/
namespace Go.Gv
open Go.Av
section
variable {G H:Prop} {α:Type} {β:α->Prop} {J:∀a:α,β a->Prop}
theorem qW4 (h:∀a b,J a b) (t:(∀a b,J a b)->G:=by
 intro hZ;have K:=0;have hK:=True.intro;intro K hK
 first|(with_reducible refine atId ?_)|(with_reducible refine nxId ?_;(conv=>whnf);(first|(with_reducible refine atId ?_)|(with_reducible refine FinAt.mk ?_;cbv;try simp only[hseg])|(cbv;try simp only[hseg])))|(try cbv;try simp only[hseg])
 repeat' (first
  |(with_reducible refine hK _ ?_;clear hK K);(conv=>whnf);(first|(with_reducible refine atId ?_)|(with_reducible refine FinAt.mk ?_;cbv;try simp only[hseg])|(cbv;try simp only[hseg]))
  |(with_reducible first|(refine aR (base:=4) ?_;intro K hK)|apply fork_t|apply fork_f);cbv;try simp only[hseg]
  |(with_reducible first|apply ndN|refine ndC True.intro ?_);try cbv
  |(with_reducible refine nT ?h ?_);(case h=>rfl);(conv=>whnf);(first|(with_reducible refine atId ?_)|(with_reducible refine FinAt.mk ?_;cbv;try simp only[hseg])|(cbv;try simp only[hseg]))
  |(with_reducible refine nF ?h ?_);(case h=>rfl);(conv=>whnf);(first|(with_reducible refine atId ?_)|(with_reducible refine FinAt.mk ?_;cbv;try simp only[hseg])|(cbv;try simp only[hseg]))
  |(with_reducible refine aD (base:=4) hM ?h ?_);(case h=>rfl);intro K hK;cbv;try simp only[hseg]
  |(with_reducible refine ndC ?h ?_);(case h=>first|with_reducible rfl|exact nn_ok hO (by decide))
  |fail)
 exact hZ K hK):G:=t h
theorem qV4 (h:∀a b,J a b) (t:(∀a b,J a b)->G:=by
 intro hZ;have K:=0;have hK:=True.intro;intro K hK
 repeat1' (first
  |(with_reducible refine hK _ ?_;clear hK K);(conv=>whnf);(first|(with_reducible refine atId ?_)|(with_reducible refine FinAt.mk ?_;cbv;try simp only[hseg])|(cbv;try simp only[hseg]))
  |(with_reducible refine aR (base:=4) ?_;intro K hK);cbv;try simp only[hseg]
  |(with_reducible first|apply ndN|refine ndC True.intro ?_);try cbv
  |(with_reducible refine aD (base:=4) hM ?h ?_);(case h=>rfl);intro K hK;cbv;try simp only[hseg]
  |(with_reducible refine ndC ?h ?_);(case h=>first|with_reducible rfl|exact nn_ok hO (by decide))
  |(with_reducible refine nG ?_);(conv=>whnf)
  |(with_reducible first|apply fork_t|apply fork_f);(first|((with_reducible refine nxId ?_);(conv=>whnf);(first|(with_reducible refine atId ?_)|(with_reducible refine FinAt.mk ?_;cbv;try simp only[hseg])|(cbv;try simp only[hseg])))|(cbv;try simp only[hseg]))
  |(with_reducible first|refine fork_kt (by assumption) ?_|refine fork_kf (by assumption) ?_);(first|((with_reducible refine nxId ?_);(conv=>whnf);(first|(with_reducible refine atId ?_)|(with_reducible refine FinAt.mk ?_;cbv;try simp only[hseg])|(cbv;try simp only[hseg])))|(cbv;try simp only[hseg]))
  |fail)
 exact hZ K hK):G:=t h
end
end Go.Gv
