/- The engine, whole. -/
import Derived.Test.YtgnenipkebelfaaGreatDoorEngR
