/- The disk: a step between. -/
import Derived.Test.YtlmdghafiadgjaaDk7
import Derived.Laws.OwnMore
