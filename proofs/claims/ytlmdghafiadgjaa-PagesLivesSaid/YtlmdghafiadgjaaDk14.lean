/- A step between: what the document's disk is built over. -/
import Derived.Test.YtlmdghafiadgjaaDkR
